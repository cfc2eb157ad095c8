/-
  Ways as texts: runs, words; the walks of path.Runs, Text and of its parts.
-/
import Derived.Test.YtagokdeflnkplaaDoorNum1
import Derived.Test.YtagokdeflnkplaaDoorWords
import Derived.Test.YtagokdeflnkplaaDoorRep1
import Derived.Test.YtagokdeflnkplaaDoorNum3
import Derived.Test.YtagokdeflnkplaaDoorAm4
set_option linter.unusedSimpArgs false
namespace Go.Proofs.YtagokdeflnkplaaDoor
open Go.Proofs.YtagokdeflnkplaaDoor.Am Go.Lib
/-! ### Ways as texts -/
abbrev Run := Int × Int
theorem snoc_ind {α : Type} {p : List α → Prop} (h0 : p []) (h1 : ∀ l x, p l → p (l ++ [x])) : ∀ l, p l := fun l => by
  have key : ∀ r : List α, p r.reverse := fun r => by
    induction r with
    | nil => exact h0
    | cons x r ih => rw [List.reverse_cons]; exact h1 _ _ ih
  have := key l.reverse
  rwa [List.reverse_reverse] at this
def addRun (out : List Run) (w : Int) : List Run := match out.getLast? with
  | some x => if x.2 = w then out.dropLast ++ [(x.1 + 1, x.2)] else out ++ [(1, w)]
  | none => [(1, w)]
theorem addRun_nil (w : Int) : addRun [] w = [(1, w)] := rfl
theorem addRun_snoc (R : List Run) (x : Run) (w : Int) : addRun (R ++ [x]) w = if x.2 = w then R ++ [(x.1 + 1, x.2)] else R ++ [x] ++ [(1, w)] := by
  unfold addRun
  rw [List.getLast?_concat, List.dropLast_concat]
def runsL (l : List Int) : List Run := l.foldl addRun []
theorem runsL_snoc (l : List Int) (w : Int) : runsL (l ++ [w]) = addRun (runsL l) w := by unfold runsL; rw [List.foldl_append]; rfl
def expL (R : List Run) : List Int := R.flatMap fun x => List.replicate x.1.toNat x.2
theorem expL_app (R S : List Run) : expL (R ++ S) = expL R ++ expL S := by unfold expL; rw [List.flatMap_append]
theorem expL_one (x : Run) : expL [x] = List.replicate x.1.toNat x.2 := by unfold expL; simp
def totR : List Run → Int
  | [] => 0
  | x :: r => x.1 + totR r
theorem totR_app (R S : List Run) : totR (R ++ S) = totR R + totR S := by
  induction R with
  | nil => simp [totR]
  | cons x R ih => simp only [List.cons_append, totR, ih]; omega
/-- Every run is one at least, and no neighbour is the same way. -/
inductive GoodR : List Run → Prop
  | nil : GoodR []
  | one (x : Run) (h : 1 ≤ x.1) : GoodR [x]
  | snoc (R : List Run) (x y : Run) (hR : GoodR (R ++ [x])) (h : 1 ≤ y.1) (hn : x.2 ≠ y.2) : GoodR (R ++ [x] ++ [y])
theorem snoc_cases {α : Type} (l : List α) : l = [] ∨ ∃ r x, l = r ++ [x] := by
  rcases List.eq_nil_or_concat l with h | ⟨r, x, h⟩
  · exact Or.inl h
  · exact Or.inr ⟨r, x, by rw [h, List.concat_eq_append]⟩
theorem goodR_last {R : List Run} {x : Run} (h : GoodR (R ++ [x])) : 1 ≤ x.1 := by
  generalize e : R ++ [x] = S at h
  cases h with
  | nil => simp at e
  | one y hy =>
    rcases snoc_cases R with q | ⟨r, z, q⟩
    · subst q; simp at e; rw [e]; exact hy
    · subst q; have := congrArg List.length e; simp at this
  | snoc R' y z hR hz hn =>
    have := List.append_inj' e rfl
    simp at this
    rw [this.2]; exact hz
theorem goodR_init {R : List Run} {x : Run} (h : GoodR (R ++ [x])) : GoodR R ∧ ∀ R' y, R = R' ++ [y] → y.2 ≠ x.2 := by
  generalize e : R ++ [x] = S at h
  cases h with
  | nil => simp at e
  | one y hy =>
    rcases snoc_cases R with q | ⟨r, z, q⟩
    · subst q; exact ⟨.nil, fun R' y h => by have := congrArg List.length h; simp at this⟩
    · subst q; have := congrArg List.length e; simp at this
  | snoc R' y z hR hz hn =>
    have := List.append_inj' e rfl
    obtain ⟨e1, e2⟩ := this
    simp at e2
    subst e1 e2
    refine ⟨hR, fun R2 y2 h => ?_⟩
    have := List.append_inj' h rfl
    simp at this
    rw [← this.2]; exact hn
theorem goodR_snoc {R : List Run} {x : Run} (h : GoodR R) (hx : 1 ≤ x.1) (hn : ∀ R' y, R = R' ++ [y] → y.2 ≠ x.2) : GoodR (R ++ [x]) := by
  rcases snoc_cases R with q | ⟨r, y, q⟩
  · subst q; exact .one x hx
  · subst q; exact .snoc r y x h hx (hn r y rfl)
theorem addRun_good {R : List Run} (h : GoodR R) (w : Int) : GoodR (addRun R w) ∧ expL (addRun R w) = expL R ++ [w] := by
  rcases snoc_cases R with q | ⟨r, y, q⟩
  · subst q; exact ⟨.one _ (Int.le_refl _), by rw [addRun_nil, expL_one]; rfl⟩
  · subst q
    have h1 := goodR_last h
    have h2 := goodR_init h
    rw [addRun_snoc]
    split
    · rename_i e
      refine ⟨goodR_snoc h2.1 (by show 1 ≤ y.1 + 1; omega) (fun R' z hz => h2.2 R' z hz), ?_⟩
      rw [expL_app, expL_app, expL_one, expL_one, List.append_assoc]
      congr 1
      show List.replicate (y.1 + 1).toNat y.2 = _
      rw [show (y.1 + 1).toNat = y.1.toNat + 1 by omega, List.replicate_succ', e]
    · rename_i e
      refine ⟨.snoc r y _ h (Int.le_refl _) e, ?_⟩
      rw [expL_app, expL_one]; rfl
theorem runsL_good : ∀ l, GoodR (runsL l) ∧ expL (runsL l) = l := snoc_ind ⟨.nil, rfl⟩ fun l x h => by
  rw [runsL_snoc]
  have := addRun_good h.1 x
  exact ⟨this.1, by rw [this.2, h.2]⟩
theorem foldl_rep (R : List Run) (a : Int) (hn : ∀ R' y, R = R' ++ [y] → y.2 ≠ a) : ∀ k : Nat, (List.replicate (k + 1) a).foldl addRun R = R ++ [(((k + 1 : Nat) : Int), a)]
  | 0 => by
    show addRun R a = _
    rcases snoc_cases R with q | ⟨r, y, q⟩
    · subst q; rfl
    · subst q; rw [addRun_snoc, if_neg (hn r y rfl)]; rfl
  | k + 1 => by
    rw [List.replicate_succ', List.foldl_append, foldl_rep R a hn k]
    show addRun _ a = _
    rw [addRun_snoc, if_pos rfl]
    rfl
theorem runsL_exp : ∀ R, GoodR R → runsL (expL R) = R := snoc_ind (fun _ => rfl) fun R x ih h => by
  have h1 := goodR_last h
  have h2 := goodR_init h
  rw [expL_app, expL_one]
  unfold runsL
  rw [List.foldl_append]
  have e : (expL R).foldl addRun [] = R := ih h2.1
  rw [e, show x.1.toNat = (x.1.toNat - 1) + 1 by omega, foldl_rep R x.2 (fun R' y hy => h2.2 R' y hy)]
  congr 1
  rw [show (((x.1.toNat - 1 + 1 : Nat)) : Int) = x.1 by omega]
theorem expL_len : ∀ R : List Run, (∀ x ∈ R, 0 ≤ x.1) → ((expL R).length : Int) = totR R
  | [], _ => rfl
  | x :: r, h => by
    have e : expL (x :: r) = List.replicate x.1.toNat x.2 ++ expL r := rfl
    rw [e, List.length_append, List.length_replicate, totR, ← expL_len r (fun y hy => h y (by simp [hy]))]
    have := h x (by simp)
    omega
theorem goodR_pos : ∀ R, GoodR R → ∀ x ∈ R, 1 ≤ x.1 := snoc_ind (fun _ x hx => by simp at hx) fun R x ih h y hy => by
  rcases List.mem_append.1 hy with q | q
  · exact ih (goodR_init h).1 y q
  · simp at q; subst q; exact goodR_last h
theorem expL_mem {R : List Run} (h : ∀ x ∈ R, 1 ≤ x.1) (x : Run) (hx : x ∈ R) : x.2 ∈ expL R := by
  unfold expL
  rw [List.mem_flatMap]
  refine ⟨x, hx, ?_⟩
  have := h x hx
  rw [List.mem_replicate]
  exact ⟨by omega, rfl⟩
theorem mem_expL {R : List Run} {a : Int} (h : a ∈ expL R) : ∃ x ∈ R, x.2 = a := by
  unfold expL at h
  rw [List.mem_flatMap] at h
  obtain ⟨x, hx, hm⟩ := h
  exact ⟨x, hx, (List.mem_replicate.1 hm).2.symm⟩
/-! ### Words -/
def fbW (a : Int) : List UInt8 := if Int.tmod a 2 = 0 then [102] else [98]
def wordR (x : Run) : List UInt8 := Lib.itoa (Int.tdiv x.2 2) ++ fbW x.2 ++ (if 1 < x.1 then 120 :: Lib.itoa x.1 else [])
def textL (l : List Int) : List UInt8 := join ((runsL l).map wordR) [32]
def mayL (l : List Int) : Prop := (∀ x ∈ l, 0 ≤ x ∧ x ≤ 1152921504606846976) ∧ l.length ≤ 1000
/-- What a word is read as, of its pieces: the run, and whether it is one. -/
def runVL (L : List (List UInt8)) : Run × Bool :=
  if 2 < L.length ∨ (L.getD 0 []).length < 2 then ((0, 0), false) else
  if L.length = 2 ∧ ((parseN (L.getD 1 [])).2 ≠ 0 ∨ (parseN (L.getD 1 [])).1 < 2) then ((0, 0), false) else
  if (parseN (L.getD 0 []).dropLast).2 ≠ 0 ∨ (parseN (L.getD 0 []).dropLast).1 < 0 ∨ 576460752303423488 < (parseN (L.getD 0 []).dropLast).1 then ((0, 0), false) else
  if (L.getD 0 []).getLast? = some 102 then ((if L.length = 2 then (parseN (L.getD 1 [])).1 else 1, 2 * (parseN (L.getD 0 []).dropLast).1), true) else
  if (L.getD 0 []).getLast? = some 98 then ((if L.length = 2 then (parseN (L.getD 1 [])).1 else 1, 2 * (parseN (L.getD 0 []).dropLast).1 + 1), decide (2 * (parseN (L.getD 0 []).dropLast).1 + 1 ≤ 1152921504606846976))
  else ((0, 0), false)
def runV (s : List UInt8) : Run × Bool := runVL (cutL 120 s)
theorem itoa_bytes (n : Int) : ∀ c ∈ Lib.itoa n, 45 ≤ c.toNat ∧ c.toNat ≤ 57 := fun c hc => by
  unfold Lib.itoa at hc
  split at hc
  · rcases List.mem_cons.1 hc with rfl | h
    · decide
    · have := dd_digit _ c h; unfold isD at this; omega
  · have := dd_digit _ c hc; unfold isD at this; omega
theorem itoa_not (n : Int) (b : UInt8) (h : 57 < b.toNat ∨ b.toNat < 45) : b ∉ Lib.itoa n := fun q => by
  have := itoa_bytes n b q
  omega
theorem itoa_ne (n : Int) : Lib.itoa n ≠ [] := by
  unfold Lib.itoa
  split
  · exact List.cons_ne_nil _ _
  · exact dd_ne _
def okRun (x : Run) : Prop := 1 ≤ x.1 ∧ x.1 ≤ 1152921504606846976 ∧ 0 ≤ x.2 ∧ x.2 ≤ 1152921504606846976
theorem fb_cases (a : Int) (h : 0 ≤ a) : (a = 2 * (Int.tdiv a 2) ∧ fbW a = [102]) ∨ (a = 2 * (Int.tdiv a 2) + 1 ∧ fbW a = [98]) := by
  unfold fbW
  have e : Int.tmod a 2 = a % 2 := Int.tmod_eq_emod_of_nonneg h
  have e2 : Int.tdiv a 2 = a / 2 := Int.tdiv_eq_ediv_of_nonneg h
  rw [e, e2]
  by_cases h0 : a % 2 = 0
  · rw [if_pos h0]; exact Or.inl ⟨by omega, rfl⟩
  · rw [if_neg h0]; exact Or.inr ⟨by omega, rfl⟩
theorem fb_not (a : Int) (b : UInt8) (h : b ≠ 102 ∧ b ≠ 98) : b ∉ fbW a := by
  unfold fbW
  split <;> simp [h.1, h.2]
theorem head_cut (x : Run) (_hx : okRun x) : cutL 120 (wordR x) = if 1 < x.1 then [Lib.itoa (Int.tdiv x.2 2) ++ fbW x.2, Lib.itoa x.1] else [Lib.itoa (Int.tdiv x.2 2) ++ fbW x.2] := by
  have hn : (120 : UInt8) ∉ Lib.itoa (Int.tdiv x.2 2) ++ fbW x.2 := fun q => by
    rcases List.mem_append.1 q with q | q
    · exact itoa_not _ _ (by decide) q
    · exact fb_not _ _ (by decide) q
  unfold wordR
  split
  · rw [cutL_at 120 _ _ hn, cutL_pure 120 _ (itoa_not _ _ (by decide))]
  · rw [List.append_nil, cutL_pure 120 _ hn]
theorem parse_itoa (n : Int) (h0 : -1152921504606846976 ≤ n) (h1 : n ≤ 1152921504606846976) : parseN (Lib.itoa n) = (n, 0) := by
  rw [texts_law, if_neg (by omega)]
theorem runV_word (x : Run) (hx : okRun x) : runV (wordR x) = (x, true) := by
  have hc := head_cut x hx
  obtain ⟨h1, h2, h3, h4⟩ := hx
  have hl := itoa_ne (Int.tdiv x.2 2)
  have hl' : 1 ≤ (Lib.itoa (Int.tdiv x.2 2)).length := List.length_pos_iff.2 hl
  have hd : 0 ≤ Int.tdiv x.2 2 ∧ Int.tdiv x.2 2 ≤ 576460752303423488 := by
    rw [Int.tdiv_eq_ediv_of_nonneg h3]; omega
  have p0 := parse_itoa (Int.tdiv x.2 2) (by omega) (by omega)
  have p1 := parse_itoa x.1 (by omega) (by omega)
  have key : ∀ (L : List (List UInt8)), L.getD 0 [] = Lib.itoa (Int.tdiv x.2 2) ++ fbW x.2 → ¬ 2 < L.length → (L.length = 2 → parseN (L.getD 1 []) = (x.1, 0) ∧ 2 ≤ x.1) → (if L.length = 2 then (parseN (L.getD 1 [])).1 else 1) = x.1 → runVL L = (x, true) := by
    intro L e0 e1 e2 e3
    unfold runVL
    rw [e0]
    rcases fb_cases x.2 h3 with ⟨f1, f2⟩ | ⟨f1, f2⟩
    · rw [f2, List.dropLast_concat, List.getLast?_concat, p0, e3]
      rw [if_neg (by rw [List.length_append]; simp only [List.length_cons, List.length_nil]; omega), if_neg (fun q => by obtain ⟨a, b⟩ := e2 q.1; rw [a] at q; simp only at q; omega), if_neg (by simp only; omega), if_pos rfl]
      exact Prod.ext (Prod.ext rfl (by simp only; omega)) rfl
    · rw [f2, List.dropLast_concat, List.getLast?_concat, p0, e3]
      rw [if_neg (by rw [List.length_append]; simp only [List.length_cons, List.length_nil]; omega), if_neg (fun q => by obtain ⟨a, b⟩ := e2 q.1; rw [a] at q; simp only at q; omega), if_neg (by simp only; omega), if_neg (by decide), if_pos rfl]
      exact Prod.ext (Prod.ext rfl (by simp only; omega)) (decide_eq_true (by simp only; omega))
  unfold runV
  rw [hc]
  by_cases hk : 1 < x.1
  · rw [if_pos hk]
    exact key _ rfl (by simp) (fun _ => ⟨p1, by omega⟩) (by show (if 2 = 2 then (parseN (Lib.itoa x.1)).1 else 1) = x.1; rw [if_pos rfl, p1])
  · rw [if_neg hk]
    exact key _ rfl (by simp) (fun q => by simp at q) (by show (if 1 = 2 then _ else (1 : Int)) = x.1; rw [if_neg (by decide)]; omega)
theorem cutL_two (c : UInt8) (s : List UInt8) : join (cutL c s) [c] = s := join_cutL c s
theorem cut_len1 {c : UInt8} {s : List UInt8} (h : ¬ 2 < (cutL c s).length) : (cutL c s = [(cutL c s).getD 0 []] ∧ (cutL c s).length = 1) ∨ (cutL c s = [(cutL c s).getD 0 [], (cutL c s).getD 1 []] ∧ (cutL c s).length = 2) := by
  have h0 := cutL_ne c s
  match hL : cutL c s, h0, h with
  | [a], _, _ => exact Or.inl ⟨rfl, rfl⟩
  | [a, b], _, _ => exact Or.inr ⟨rfl, rfl⟩
  | a :: b :: d :: r, _, h => simp at h
theorem snoc_of_last {s : List UInt8} {c : UInt8} (h : s.getLast? = some c) : s = s.dropLast ++ [c] := by
  rcases snoc_cases s with q | ⟨r, x, q⟩
  · subst q; simp at h
  · subst q; rw [List.getLast?_concat] at h; rw [List.dropLast_concat]; simp at h; rw [h]
theorem parseN_near' (s : List UInt8) : -1152921504606846976 ≤ (parseN s).1 ∧ (parseN s).1 ≤ 1152921504606846976 := by
  unfold parseN
  split
  · split
    · decide
    · split <;> simp only <;> omega
  · decide
theorem runV_some {s : List UInt8} (h : (runV s).2 = true) : okRun (runV s).1 ∧ wordR (runV s).1 = s := by
  unfold runV runVL at h ⊢
  split at h
  · exact absurd h (by simp)
  · rename_i h1
    rw [if_neg h1]
    split at h
    · exact absurd h (by simp)
    · rename_i h2
      rw [if_neg h2]
      split at h
      · exact absurd h (by simp)
      · rename_i h3
        rw [if_neg h3]
        have hj := join_cutL 120 s
        have n1 := parseN_near' ((cutL 120 s).getD 1 [])
        have o0 := one_law ((cutL 120 s).getD 0 []).dropLast (by omega)
        generalize hN : (parseN ((cutL 120 s).getD 0 []).dropLast).1 = N at *
        have fin : ∀ (c : UInt8) (a : Int), ((cutL 120 s).getD 0 []).getLast? = some c → fbW a = [c] → Int.tdiv a 2 = N → 0 ≤ a → a ≤ 1152921504606846976 → okRun (if (cutL 120 s).length = 2 then (parseN ((cutL 120 s).getD 1 [])).1 else 1, a) ∧ wordR (if (cutL 120 s).length = 2 then (parseN ((cutL 120 s).getD 1 [])).1 else 1, a) = s := by
          intro c a hc hf ht ha0 ha1
          have hh := snoc_of_last hc
          rcases cut_len1 (c := 120) (s := s) (by omega) with ⟨e, el⟩ | ⟨e, el⟩
          · rw [if_neg (by omega)]
            refine ⟨⟨Int.le_refl _, (by show (1 : Int) ≤ 1152921504606846976; decide), ha0, ha1⟩, ?_⟩
            unfold wordR
            rw [if_neg (show ¬ (1 : Int) < 1 by decide), List.append_nil]
            show Lib.itoa (Int.tdiv a 2) ++ fbW a = s
            rw [ht, hf, o0, ← hh]
            rw [e, join_one] at hj
            exact hj
          · have o1 := one_law ((cutL 120 s).getD 1 []) (by omega)
            rw [if_pos el]
            refine ⟨⟨by show 1 ≤ (parseN ((cutL 120 s).getD 1 [])).1; omega, n1.2, ha0, ha1⟩, ?_⟩
            unfold wordR
            rw [if_pos (by show 1 < (parseN ((cutL 120 s).getD 1 [])).1; omega)]
            show Lib.itoa (Int.tdiv a 2) ++ fbW a ++ 120 :: Lib.itoa (parseN ((cutL 120 s).getD 1 [])).1 = s
            rw [ht, hf, o0, ← hh, o1]
            rw [e, join_cons] at hj
            generalize (cutL 120 s).getD 0 [] = u at *
            generalize (cutL 120 s).getD 1 [] = v at *
            rw [← hj]
            simp [joinTail]
        split at h
        · rename_i h4
          rw [if_pos h4]
          refine fin 102 _ h4 ?_ ?_ (by omega) (by omega)
          · unfold fbW; rw [Int.tmod_eq_emod_of_nonneg (by omega), if_pos (by omega)]
          · rw [Int.tdiv_eq_ediv_of_nonneg (by omega)]; omega
        · split at h
          · rename_i h4 h5
            rw [if_neg h4, if_pos h5]
            have h := of_decide_eq_true h
            refine fin 98 _ h5 ?_ ?_ (by omega) (by omega)
            · unfold fbW; rw [Int.tmod_eq_emod_of_nonneg (by omega), if_neg (by omega)]
            · rw [Int.tdiv_eq_ediv_of_nonneg (by omega)]; omega
          · exact absurd h (by simp)
end Go.Proofs.YtagokdeflnkplaaDoor
set_option linter.unusedSimpArgs false
namespace Go.Proofs.YtagokdeflnkplaaDoor
open Go.Proofs.YtagokdeflnkplaaDoor.Am Go.Lib
variable {G : GInv}
def rowR (L : List Run) : Nat → List A := fun i => [.int .i64 (L.getD i (0, 0)).1, .int .i64 (L.getD i (0, 0)).2]
def runsA (L : List Run) : A := .sl L.length 2 (rowR L)
def badW (n : Int) : Bool := decide (¬ (0 ≤ n ∧ n ≤ 1152921504606846976))
instance (l : List Int) : Decidable (mayL l) := inferInstanceAs (Decidable (_ ∧ _))
theorem check1_c (n : Int) : ACalls Tryd.prog G 82 [.int .i64 n] (.sb (badW n)) := by
  refine ACalls.of_WA ttok Tryd.func82 rfl rfl _ rfl ?_
  conv => whnf
  repeat' (first | refine WA_seq ?_ | (refine WA_region ttok ?_; conv => whnf) | (refine WA_draw ttok mixed ?_; conv => whnf) | (refine WA_cond ?_; conv => whnf) | refine WA_block ?_ | (refine WA_skip ?_; conv => whnf) | (refine WA_exit ?_; conv => whnf) | (refine WA_ret ?_; conv => whnf) | (refine And.intro (fun h => ?_) (fun h => ?_) <;> (try simp only [brsA] at h) <;> conv => whnf) | (refine WR_fit ?_ ?_; (focus (first | exact wr_i64 (by omega) | exact wr_u64 (by omega) | exact wr_u8 (by omega) | exact wr_i32 (by omega) | exact wr_u32 (by omega))); conv => whnf) | (refine WR_wrap ?_; conv => whnf) | (refine And.intro (a := indepB _ _ = true) ?_ ?_; (focus kernel_rfl); conv => whnf) | (refine And.intro rfl ?_; conv => whnf) | (refine And.intro ?_ ?_; (focus (first | omega | decide | (dsimp only; omega) | (simp at *; omega))); conv => whnf))
  all_goals (simp only [badW] at *; (first | rfl | exact (decide_eq_true (by omega)).symm | exact (decide_eq_false (by omega)).symm | exact decide_eq_decide.2 (by omega) | (rw [Bool.eq_iff_iff]; simp only [brsE] at *; omega)))
theorem may_iff {l : List Int} : mayL l ↔ ¬ (1000 < l.length ∨ ∃ i, i < l.length ∧ badW (l.getD i 0) = true) := by
  unfold mayL badW
  constructor
  · rintro ⟨h1, h2⟩ (h | ⟨i, hi, h⟩)
    · omega
    · refine of_decide_eq_true h (h1 _ ?_)
      rw [List.getD_eq_getElem?_getD, List.getElem?_eq_getElem hi]; exact List.getElem_mem hi
  · intro h
    refine ⟨fun x hx => ?_, Nat.not_lt.1 fun q => h (Or.inl q)⟩
    refine Decidable.byContradiction fun q => h (Or.inr ?_)
    obtain ⟨i, hi, e⟩ := List.getElem_of_mem hx
    exact ⟨i, hi, decide_eq_true (by rw [List.getD_eq_getElem?_getD, List.getElem?_eq_getElem hi]; show ¬ _; rw [Option.getD_some, e]; exact q)⟩
set_option maxRecDepth 100000 in
theorem pcheck_c (l : List Int) (hl : l.length ≤ 1000000) : ACalls Tryd.prog G 50 [intsA l] (.int .i64 (if mayL l then 0 else 1)) := by
  have hc := containsFunc_c (G := G) l 82 badW hl check1_c
  have hm := may_iff (l := l)
  by_cases he : (∃ i, i < l.length ∧ badW (l.getD i 0) = true)
  · rw [if_neg (fun q => hm.1 q (Or.inr he))]
    rw [decide_eq_true he] at hc
    refine ACalls.of_WA ttok Tryd.func50 rfl rfl _ rfl ?_
    conv => whnf
    repeat' (first | refine WA_seq ?_ | (refine WA_region ttok ?_; conv => whnf) | (refine WA_draw ttok mixed ?_; conv => whnf) | (refine WA_cond ?_; conv => whnf) | refine WA_block ?_ | (refine WA_skip ?_; conv => whnf) | (refine WA_exit ?_; conv => whnf) | (refine WA_ret ?_; conv => whnf) | (refine And.intro (fun h => ?_) (fun h => ?_) <;> (try simp only [brsA] at h) <;> conv => whnf) | (refine Or.inl ?_; (conv => whnf); refine Exists.intro _ (And.intro (hc) ?_); conv => whnf) | (refine Or.inr (Or.inr (Or.inl ?_)); (conv => whnf); refine Exists.intro _ (And.intro (hc) ?_); conv => whnf) | (refine Exists.intro _ (And.intro (hc) ?_); conv => whnf) | (refine WR_fit ?_ ?_; (focus (first | exact wr_i64 (by omega) | exact wr_u64 (by omega) | exact wr_u8 (by omega) | exact wr_i32 (by omega) | exact wr_u32 (by omega))); conv => whnf) | (refine WR_wrap ?_; conv => whnf) | (refine And.intro (a := indepB _ _ = true) ?_ ?_; (focus kernel_rfl); conv => whnf) | (refine And.intro rfl ?_; conv => whnf) | (refine And.intro ?_ ?_; (focus (first | omega | decide | (dsimp only; omega) | (simp at *; omega))); conv => whnf))
    all_goals first | contradiction | (exfalso; omega) | trace_state
  · rw [decide_eq_false he] at hc
    by_cases h1 : 1000 < l.length
    · rw [if_neg (fun q => hm.1 q (Or.inl h1))]
      refine ACalls.of_WA ttok Tryd.func50 rfl rfl _ rfl ?_
      conv => whnf
      repeat' (first | refine WA_seq ?_ | (refine WA_region ttok ?_; conv => whnf) | (refine WA_draw ttok mixed ?_; conv => whnf) | (refine WA_cond ?_; conv => whnf) | refine WA_block ?_ | (refine WA_skip ?_; conv => whnf) | (refine WA_exit ?_; conv => whnf) | (refine WA_ret ?_; conv => whnf) | (refine And.intro (fun h => ?_) (fun h => ?_) <;> (try simp only [brsA] at h) <;> conv => whnf) | (refine Or.inl ?_; (conv => whnf); refine Exists.intro _ (And.intro (hc) ?_); conv => whnf) | (refine Or.inr (Or.inr (Or.inl ?_)); (conv => whnf); refine Exists.intro _ (And.intro (hc) ?_); conv => whnf) | (refine Exists.intro _ (And.intro (hc) ?_); conv => whnf) | (refine WR_fit ?_ ?_; (focus (first | exact wr_i64 (by omega) | exact wr_u64 (by omega) | exact wr_u8 (by omega) | exact wr_i32 (by omega) | exact wr_u32 (by omega))); conv => whnf) | (refine WR_wrap ?_; conv => whnf) | (refine And.intro (a := indepB _ _ = true) ?_ ?_; (focus kernel_rfl); conv => whnf) | (refine And.intro rfl ?_; conv => whnf) | (refine And.intro ?_ ?_; (focus (first | omega | decide | (dsimp only; omega) | (simp at *; omega))); conv => whnf))
      all_goals first | contradiction | (exfalso; omega) | trace_state
    · rw [if_pos (hm.2 fun q => q.elim h1 he)]
      refine ACalls.of_WA ttok Tryd.func50 rfl rfl _ rfl ?_
      conv => whnf
      repeat' (first | refine WA_seq ?_ | (refine WA_region ttok ?_; conv => whnf) | (refine WA_draw ttok mixed ?_; conv => whnf) | (refine WA_cond ?_; conv => whnf) | refine WA_block ?_ | (refine WA_skip ?_; conv => whnf) | (refine WA_exit ?_; conv => whnf) | (refine WA_ret ?_; conv => whnf) | (refine And.intro (fun h => ?_) (fun h => ?_) <;> (try simp only [brsA] at h) <;> conv => whnf) | (refine Or.inl ?_; (conv => whnf); refine Exists.intro _ (And.intro (hc) ?_); conv => whnf) | (refine Or.inr (Or.inr (Or.inl ?_)); (conv => whnf); refine Exists.intro _ (And.intro (hc) ?_); conv => whnf) | (refine Exists.intro _ (And.intro (hc) ?_); conv => whnf) | (refine WR_fit ?_ ?_; (focus (first | exact wr_i64 (by omega) | exact wr_u64 (by omega) | exact wr_u8 (by omega) | exact wr_i32 (by omega) | exact wr_u32 (by omega))); conv => whnf) | (refine WR_wrap ?_; conv => whnf) | (refine And.intro (a := indepB _ _ = true) ?_ ?_; (focus kernel_rfl); conv => whnf) | (refine And.intro rfl ?_; conv => whnf) | (refine And.intro ?_ ?_; (focus (first | omega | decide | (dsimp only; omega) | (simp at *; omega))); conv => whnf))
      all_goals first | contradiction | (exfalso; omega) | trace_state
theorem getD_snoc (R : List Run) (x : Run) (j : Nat) : (R ++ [x]).getD j (0, 0) = if j < R.length then R.getD j (0, 0) else if j = R.length then x else (0, 0) := by
  rw [List.getD_eq_getElem?_getD, List.getD_eq_getElem?_getD]
  split
  · rename_i h; rw [List.getElem?_append_left h]
  · rename_i h
    split
    · rename_i e; subst e; rw [List.getElem?_append_right (Nat.le_refl _)]; simp
    · rename_i e; rw [List.getElem?_append_right (by omega), List.getElem?_eq_none (by simp; omega)]; rfl
theorem addRun_hit {R : List Run} {w : Int} (h0 : 0 < R.length) (h : (R.getD (R.length - 1) (0, 0)).2 = w) : (addRun R w).length = R.length ∧
    ∀ j, j < R.length → rowR (addRun R w) j = if j = R.length - 1 then [.int .i64 ((R.getD (R.length - 1) (0, 0)).1 + 1), .int .i64 (R.getD (R.length - 1) (0, 0)).2] else rowR R j := by
  rcases snoc_cases R with q | ⟨r, x, q⟩
  · subst q; exact absurd h0 (by simp)
  · subst q
    have e : (r ++ [x]).getD ((r ++ [x]).length - 1) (0, 0) = x := by
      rw [getD_snoc, List.length_append, List.length_singleton, if_neg (by omega), if_pos (by omega)]
    rw [e] at h ⊢
    rw [addRun_snoc, if_pos h]
    refine ⟨by simp, fun j hj => ?_⟩
    unfold rowR
    rw [getD_snoc, getD_snoc]
    rw [List.length_append, List.length_singleton] at hj ⊢
    by_cases hj2 : j = r.length
    · subst hj2; rw [if_neg (by omega), if_pos rfl, if_pos (by omega)]
    · rw [if_pos (by omega), if_neg (by omega), if_pos (by omega)]
theorem addRun_miss {R : List Run} {w : Int} (h : R.length = 0 ∨ (R.getD (R.length - 1) (0, 0)).2 ≠ w) : addRun R w = R ++ [(1, w)] := by
  rcases snoc_cases R with q | ⟨r, x, q⟩
  · subst q; rfl
  · subst q
    have e : (r ++ [x]).getD ((r ++ [x]).length - 1) (0, 0) = x := by
      rw [getD_snoc, List.length_append, List.length_singleton, if_neg (by omega), if_pos (by omega)]
    rw [e] at h
    rw [addRun_snoc, if_neg (h.resolve_left (by simp))]
theorem rowCat_run (R : List Run) (x : Run) (r : Nat → List A) (hr : r 0 = [.int .i64 x.1, .int .i64 x.2]) (j : Nat) (hj : j < R.length + 1) : rowCat R.length (rowR R) r j = rowR (R ++ [x]) j := by
  unfold rowCat
  split
  · rename_i h
    have h : j < R.length := Nat.le_of_ble_eq_true h
    unfold rowR
    rw [getD_snoc, if_pos h]
  · rename_i h
    have h : ¬ j < R.length := fun h' => by rw [show Nat.blt j R.length = true from Nat.ble_eq_true_of_le h'] at h; cases h
    unfold rowR
    rw [getD_snoc, if_neg h, if_pos (by omega), show j - R.length = 0 by omega, hr]
theorem take_runs {l : List Int} {i : Nat} (h : i < l.length) : runsL (l.take (i + 1)) = addRun (runsL (l.take i)) (l.getD i 0) := by
  rw [List.take_add_one, List.getElem?_eq_getElem h, Option.toList_some, runsL_snoc, List.getD_eq_getElem?_getD, List.getElem?_eq_getElem h, Option.getD_some]
theorem le_totR : ∀ (R : List Run), (∀ x ∈ R, 1 ≤ x.1) → ∀ x ∈ R, x.1 ≤ totR R
  | [], _, x, h => absurd h (by simp)
  | y :: r, hp, x, h => by
    have ih := le_totR r (fun z hz => hp z (by simp [hz]))
    have hy := hp y (by simp)
    have h0 : 0 ≤ totR r := by
      cases r with
      | nil => exact Int.le_refl _
      | cons z r => have := ih z (by simp); have := hp z (by simp); omega
    rw [totR]
    rcases List.mem_cons.1 h with e | e
    · subst e; omega
    · have := ih x e; omega
theorem runs_tot (l : List Int) : totR (runsL l) = l.length ∧ (runsL l).length ≤ l.length ∧ ∀ j, 0 ≤ ((runsL l).getD j (0, 0)).1 ∧ ((runsL l).getD j (0, 0)).1 ≤ l.length := by
  obtain ⟨hg, he⟩ := runsL_good l
  have hp := goodR_pos _ hg
  have ht := expL_len (runsL l) (fun x hx => by have := hp x hx; omega)
  rw [he] at ht
  refine ⟨ht.symm, ?_, fun j => ?_⟩
  · have : ∀ R : List Run, (∀ x ∈ R, 1 ≤ x.1) → (R.length : Int) ≤ totR R := fun R => by
      induction R with
      | nil => intro _; simp [totR]
      | cons x R ih => intro h; have := ih (fun z hz => h z (by simp [hz])); have := h x (by simp); simp only [List.length_cons, totR]; omega
    have := this _ hp
    omega
  · rcases Nat.lt_or_ge j (runsL l).length with q | q
    · have hm : (runsL l).getD j (0, 0) ∈ runsL l := by rw [List.getD_eq_getElem?_getD, List.getElem?_eq_getElem q]; exact List.getElem_mem q
      have h1 := hp _ hm
      have h2 := le_totR _ hp _ hm
      omega
    · rw [List.getD_eq_getElem?_getD, List.getElem?_eq_none q]; exact ⟨Int.le_refl _, Int.natCast_nonneg _⟩
set_option maxRecDepth 100000 in
set_option maxHeartbeats 2000000 in
theorem pruns_c (l : List Int) (hl : l.length ≤ 1000000) : ACalls Tryd.prog G 23 [intsA l] (runsA (runsL l)) := by
  refine ACalls.of_WA ttok Tryd.func23 rfl rfl _ rfl ?_
  conv => whnf
  repeat' (first | refine WA_seq ?_ | (refine WA_region ttok ?_; conv => whnf) | (refine WA_draw ttok mixed ?_; conv => whnf) | (refine WA_cond ?_; conv => whnf) | refine WA_block ?_ | (refine WA_skip ?_; conv => whnf) | (refine WA_exit ?_; conv => whnf) | (refine WA_ret ?_; conv => whnf) | (refine And.intro (fun h => ?_) (fun h => ?_) <;> (try simp only [brsA] at h) <;> conv => whnf) | (refine WR_fit ?_ ?_; (focus (first | exact wr_i64 (by omega) | exact wr_u64 (by omega) | exact wr_u8 (by omega) | exact wr_i32 (by omega) | exact wr_u32 (by omega))); conv => whnf) | (refine WR_wrap ?_; conv => whnf) | (refine And.intro (a := indepB _ _ = true) ?_ ?_; (focus kernel_rfl); conv => whnf) | (refine And.intro rfl ?_; conv => whnf) | (refine And.intro ?_ ?_; (focus (first | omega | decide | (dsimp only; omega) | (simp at *; omega))); conv => whnf))
  refine WA_nil 3 78 2 rfl ?_
  conv => whnf
  refine WA_loopI (fun x : Nat × List Run => x.1 ≤ l.length ∧ x.2 = runsL (l.take x.1)) (fun x => match x with | (i, _) => [(9, .int .i64 (i : Int)), (5, .junk), (6, .junk), (3, .own 0)]) (fun x => match x with | (_, R) => [.row 78 2 R.length (rowR R)]) (fun x => l.length - x.1) (0, []) ⟨Nat.zero_le _, rfl⟩ ?_ ?_
  · conv => whnf
    repeat (first | exact rfl | exact trivial | exact Or.inl (fun _ _ => rfl) | exact (fun _ => rfl) | exact (fun _ _ => rfl) | exact Or.inl (fun _ hi => absurd hi (Nat.not_lt_zero _)) | (refine And.intro rfl ?_; conv => whnf) | (refine And.intro (Or.inl (fun _ _ => rfl)) ?_; conv => whnf) | (refine And.intro (fun _ => rfl) ?_; conv => whnf) | (refine And.intro (fun _ _ => rfl) ?_; conv => whnf) | (refine And.intro ?_ ?_; rotate_left; conv => whnf))
  · rintro ⟨i, R⟩ ⟨hi, hR⟩
    dsimp only at hi hR
    by_cases hil : i < l.length
    · have hs := take_runs hil
      rw [← hR] at hs
      have hb := runs_tot (l.take i)
      rw [← hR, List.length_take, Nat.min_eq_left hi] at hb
      obtain ⟨_, hb1, hb2⟩ := hb
      have hb3 := hb2 (R.length - 1)
      have hh := addRun_hit (R := R) (w := l.getD i 0)
      have hmi := addRun_miss (R := R) (w := l.getD i 0)
      conv => whnf
      repeat' (first | refine WA_seq ?_ | (refine WA_region ttok ?_; conv => whnf) | (refine WA_draw ttok mixed ?_; conv => whnf) | (refine WA_cond ?_; conv => whnf) | refine WA_block ?_ | (refine WA_skip ?_; conv => whnf) | (refine WA_exit ?_; conv => whnf) | (refine WA_ret ?_; conv => whnf) | (refine And.intro (fun h => ?_) (fun h => ?_) <;> (try simp only [brsA] at h) <;> conv => whnf) | (refine WR_fit ?_ ?_; (focus (first | exact wr_i64 (by omega) | exact wr_u64 (by omega) | exact wr_u8 (by omega) | exact wr_i32 (by omega) | exact wr_u32 (by omega))); conv => whnf) | (refine WR_wrap ?_; conv => whnf) | (refine And.intro (a := indepB _ _ = true) ?_ ?_; (focus kernel_rfl); conv => whnf) | (refine And.intro rfl ?_; conv => whnf) | (refine And.intro ?_ ?_; (focus (first | omega | decide | (dsimp only; omega) | (simp at *; omega))); conv => whnf))
      all_goals first | contradiction | (exfalso; omega) | skip
      · have et : ((R.length : Int) - 1).toNat = R.length - 1 := by omega
        rw [et, Int.toNat_natCast] at h
        obtain ⟨q1, q2⟩ := hh (by omega) h
        refine ⟨(i + 1, addRun R (l.getD i 0)), ⟨(by show i + 1 ≤ l.length; omega), hs.symm⟩, (by show l.length - (i + 1) < l.length - i; omega), ?_⟩
        clear hs
        rw [et]
        generalize addRun R (l.getD i 0) = R' at *
        conv => whnf
        repeat (first | exact rfl | exact trivial | exact Or.inl (fun _ _ => rfl) | exact (fun _ => rfl) | exact (fun _ _ => rfl) | exact Or.inl (fun _ hi => absurd hi (Nat.not_lt_zero _)) | (refine And.intro rfl ?_; conv => whnf) | (refine And.intro (Or.inl (fun _ _ => rfl)) ?_; conv => whnf) | (refine And.intro (fun _ => rfl) ?_; conv => whnf) | (refine And.intro (fun _ _ => rfl) ?_; conv => whnf) | (refine And.intro ?_ ?_; rotate_left; conv => whnf))
        · refine Or.inl fun j hj => ?_
          rw [q2 j hj, show IntKind.i64.wrap ((R.getD (R.length - 1) (0, 0)).1 + 1) = (R.getD (R.length - 1) (0, 0)).1 + 1 by rw [IntKind.wrap_i64]; omega]
          rfl
        · exact q1.symm
      · have et : ((R.length : Int) - 1).toNat = R.length - 1 := by omega
        rw [et, Int.toNat_natCast] at h
        rw [hmi (Or.inr h)] at hs
        refine ⟨(i + 1, R ++ [(1, l.getD i 0)]), ⟨(by show i + 1 ≤ l.length; omega), hs.symm⟩, (by show l.length - (i + 1) < l.length - i; omega), ?_⟩
        conv => whnf
        repeat (first | exact rfl | exact trivial | exact Or.inl (fun _ _ => rfl) | exact (fun _ => rfl) | exact (fun _ _ => rfl) | exact Or.inl (fun _ hi => absurd hi (Nat.not_lt_zero _)) | (refine And.intro rfl ?_; conv => whnf) | (refine And.intro (Or.inl (fun _ _ => rfl)) ?_; conv => whnf) | (refine And.intro (fun _ => rfl) ?_; conv => whnf) | (refine And.intro (fun _ _ => rfl) ?_; conv => whnf) | (refine And.intro ?_ ?_; rotate_left; conv => whnf))
        · exact Or.inl fun j hj => rowCat_run R (1, l.getD i 0) _ rfl j hj
        · simp
      · rw [hmi (Or.inl (by omega))] at hs
        refine ⟨(i + 1, R ++ [(1, l.getD i 0)]), ⟨(by show i + 1 ≤ l.length; omega), hs.symm⟩, (by show l.length - (i + 1) < l.length - i; omega), ?_⟩
        conv => whnf
        repeat (first | exact rfl | exact trivial | exact Or.inl (fun _ _ => rfl) | exact (fun _ => rfl) | exact (fun _ _ => rfl) | exact Or.inl (fun _ hi => absurd hi (Nat.not_lt_zero _)) | (refine And.intro rfl ?_; conv => whnf) | (refine And.intro (Or.inl (fun _ _ => rfl)) ?_; conv => whnf) | (refine And.intro (fun _ => rfl) ?_; conv => whnf) | (refine And.intro (fun _ _ => rfl) ?_; conv => whnf) | (refine And.intro ?_ ?_; rotate_left; conv => whnf))
        · exact Or.inl fun j hj => rowCat_run R (1, l.getD i 0) _ rfl j hj
        · simp
    · have hie : i = l.length := by omega
      subst hie
      rw [List.take_length] at hR
      subst hR
      conv => whnf
      repeat' (first | refine WA_seq ?_ | (refine WA_region ttok ?_; conv => whnf) | (refine WA_draw ttok mixed ?_; conv => whnf) | (refine WA_cond ?_; conv => whnf) | refine WA_block ?_ | (refine WA_skip ?_; conv => whnf) | (refine WA_exit ?_; conv => whnf) | (refine WA_ret ?_; conv => whnf) | (refine And.intro (fun h => ?_) (fun h => ?_) <;> (try simp only [brsA] at h) <;> conv => whnf) | (refine WR_fit ?_ ?_; (focus (first | exact wr_i64 (by omega) | exact wr_u64 (by omega) | exact wr_u8 (by omega) | exact wr_i32 (by omega) | exact wr_u32 (by omega))); conv => whnf) | (refine WR_wrap ?_; conv => whnf) | (refine And.intro (a := indepB _ _ = true) ?_ ?_; (focus kernel_rfl); conv => whnf) | (refine And.intro rfl ?_; conv => whnf) | (refine And.intro ?_ ?_; (focus (first | omega | decide | (dsimp only; omega) | (simp at *; omega))); conv => whnf))
      all_goals first | contradiction | (exfalso; omega) | skip
      exact Or.inl fun _ _ => rfl
end Go.Proofs.YtagokdeflnkplaaDoor
set_option linter.unusedSimpArgs false
namespace Go.Proofs.YtagokdeflnkplaaDoor
open Go.Proofs.YtagokdeflnkplaaDoor.Am Go.Lib
variable {G : GInv}
def smallR (x : Run) : Prop := 0 ≤ x.1 ∧ x.1 ≤ 1152921504606846976 ∧ 0 ≤ x.2 ∧ x.2 ≤ 1152921504606846976
theorem half_bd {a : Int} (h0 : 0 ≤ a) (h1 : a ≤ 1152921504606846976) : 0 ≤ Int.tdiv a 2 ∧ Int.tdiv a 2 ≤ 576460752303423488 := by
  rw [Int.tdiv_eq_ediv_of_nonneg h0]; omega
set_option maxRecDepth 100000 in
theorem pword_c (hT : HasTab G) (x : Run) (h : smallR x) : ACalls Tryd.prog G 51 [.agg [.int .i64 x.1, .int .i64 x.2]] (.str (wordR x)) := by
  obtain ⟨a1, a2, b1, b2⟩ := h
  obtain ⟨d1, d2⟩ := half_bd b1 b2
  have ht1 := text_c hT (Int.tdiv x.2 2) (by omega) (by omega)
  have ht2 := text_c hT x.1 (by omega) (by omega)
  have l1 := itoa_len (Int.tdiv x.2 2) (by omega) (by omega)
  have l2 := itoa_len x.1 (by omega) (by omega)
  refine ACalls.of_WA ttok Tryd.func51 rfl rfl _ rfl ?_
  conv => whnf
  repeat' (first | refine WA_seq ?_ | (refine WA_region ttok ?_; conv => whnf) | (refine WA_draw ttok mixed ?_; conv => whnf) | (refine WA_cond ?_; conv => whnf) | refine WA_block ?_ | (refine WA_skip ?_; conv => whnf) | (refine WA_exit ?_; conv => whnf) | (refine WA_ret ?_; conv => whnf) | (refine And.intro (fun h => ?_) (fun h => ?_) <;> (try simp only [brsA] at h) <;> conv => whnf) | (refine Or.inl ?_; (conv => whnf); refine Exists.intro _ (And.intro (ht1) ?_); conv => whnf) | (refine Or.inr (Or.inr (Or.inl ?_)); (conv => whnf); refine Exists.intro _ (And.intro (ht1) ?_); conv => whnf) | (refine Exists.intro _ (And.intro (ht1) ?_); conv => whnf) | (refine Or.inl ?_; (conv => whnf); refine Exists.intro _ (And.intro (ht2) ?_); conv => whnf) | (refine Or.inr (Or.inr (Or.inl ?_)); (conv => whnf); refine Exists.intro _ (And.intro (ht2) ?_); conv => whnf) | (refine Exists.intro _ (And.intro (ht2) ?_); conv => whnf) | (refine WR_fit ?_ ?_; (focus (first | exact wr_i64 (by omega) | exact wr_u64 (by omega) | exact wr_u8 (by omega) | exact wr_i32 (by omega) | exact wr_u32 (by omega))); conv => whnf) | (refine WR_wrap ?_; conv => whnf) | (refine And.intro (a := indepB _ _ = true) ?_ ?_; (focus kernel_rfl); conv => whnf) | (refine And.intro rfl ?_; conv => whnf) | (refine And.intro ?_ ?_; (focus (first | omega | decide | (dsimp only; omega) | (simp at *; omega))); conv => whnf))
  all_goals first | contradiction | (exfalso; omega) | skip
  all_goals
    unfold wordR fbW
    first | rw [if_pos (show Int.tmod x.2 2 = 0 by assumption)] | rw [if_neg (show ¬ Int.tmod x.2 2 = 0 by assumption)]
    first | rw [if_pos (show 1 < x.1 by assumption)] | rw [if_neg (show ¬ 1 < x.1 by assumption), List.append_nil]
    try rfl
theorem wordR_len (x : Run) (h : smallR x) : (wordR x).length ≤ 50 := by
  obtain ⟨a1, a2, b1, b2⟩ := h
  obtain ⟨d1, d2⟩ := half_bd b1 b2
  have l1 := itoa_len (Int.tdiv x.2 2) (by omega) (by omega)
  have l2 := itoa_len x.1 (by omega) (by omega)
  unfold wordR fbW
  rw [List.length_append, List.length_append]
  split <;> split <;> simp only [List.length_cons, List.length_nil] <;> omega
theorem totL_le {L : List (List UInt8)} (h : ∀ x ∈ L, x.length ≤ 50) : totL L ≤ L.length * 51 := by
  induction L with
  | nil => simp [totL]
  | cons x L ih =>
    have := ih fun y hy => h y (by simp [hy])
    have := h x (by simp)
    simp only [totL, List.length_cons]
    omega
theorem may_runs {l : List Int} (hm : mayL l) : (runsL l).length ≤ 1000 ∧ ∀ x ∈ runsL l, smallR x ∧ okRun x := by
  obtain ⟨h1, h2⟩ := hm
  obtain ⟨hg, he⟩ := runsL_good l
  have hp := goodR_pos _ hg
  obtain ⟨r1, r2, _⟩ := runs_tot l
  refine ⟨by omega, fun x hx => ?_⟩
  have := hp x hx
  have h3 := le_totR _ hp x hx
  have h4 := expL_mem hp x hx
  rw [he] at h4
  have h5 := h1 _ h4
  unfold smallR okRun
  omega
def wtkR (R : List Run) (i : Nat) : List (List UInt8) := (R.take i).map wordR
theorem wtkR_snoc {R : List Run} {i : Nat} (h : i < R.length) : wtkR R (i + 1) = wtkR R i ++ [wordR (R.getD i (0, 0))] := by
  unfold wtkR
  rw [List.take_add_one, List.getElem?_eq_getElem h, Option.toList_some, List.map_append, List.getD_eq_getElem?_getD, List.getElem?_eq_getElem h]; rfl
theorem wtkR_len {R : List Run} {i : Nat} (h : i ≤ R.length) : (wtkR R i).length = i := by unfold wtkR; simp; omega
theorem wtkR_all (R : List Run) : wtkR R R.length = R.map wordR := by unfold wtkR; rw [List.take_length]
theorem mem_getD {R : List Run} {i : Nat} (h : i < R.length) : R.getD i (0, 0) ∈ R := by
  rw [List.getD_eq_getElem?_getD, List.getElem?_eq_getElem h]; exact List.getElem_mem h
set_option maxRecDepth 100000 in
set_option maxHeartbeats 2000000 in
theorem ptext_c (hT : HasTab G) (l : List Int) (hm : mayL l) : ACalls Tryd.prog G 21 [intsA l] (.tup [.str (textL l), .int .i64 0]) := by
  have hck := pcheck_c (G := G) l (by have := hm.2; omega)
  rw [if_pos hm] at hck
  have hr := pruns_c (G := G) l (by have := hm.2; omega)
  obtain ⟨m1, m2⟩ := may_runs hm
  have hlen := totL_le (L := (runsL l).map wordR) (fun x hx => by
    obtain ⟨y, hy, rfl⟩ := List.mem_map.1 hx
    exact wordR_len y (m2 y hy).1)
  rw [List.length_map] at hlen
  have hj := join_c (G := G) ((runsL l).map wordR) [32] (by rw [List.length_map]; omega) (by have := join_len_le 32 ((runsL l).map wordR); omega)
  have e : textL l = join ((runsL l).map wordR) [32] := rfl
  rw [e]
  clear e hlen
  generalize runsL l = R at *
  refine ACalls.of_WA ttok Tryd.func21 rfl rfl _ rfl ?_
  conv => whnf
  repeat' (first | refine WA_seq ?_ | (refine WA_region ttok ?_; conv => whnf) | (refine WA_draw ttok mixed ?_; conv => whnf) | (refine WA_cond ?_; conv => whnf) | refine WA_block ?_ | (refine WA_skip ?_; conv => whnf) | (refine WA_exit ?_; conv => whnf) | (refine WA_ret ?_; conv => whnf) | (refine And.intro (fun h => ?_) (fun h => ?_) <;> (try simp only [brsA] at h) <;> conv => whnf) | (refine Or.inl ?_; (conv => whnf); refine Exists.intro _ (And.intro (hck) ?_); conv => whnf) | (refine Or.inr (Or.inr (Or.inl ?_)); (conv => whnf); refine Exists.intro _ (And.intro (hck) ?_); conv => whnf) | (refine Exists.intro _ (And.intro (hck) ?_); conv => whnf) | (refine Or.inl ?_; (conv => whnf); refine Exists.intro _ (And.intro (hr) ?_); conv => whnf) | (refine Or.inr (Or.inr (Or.inl ?_)); (conv => whnf); refine Exists.intro _ (And.intro (hr) ?_); conv => whnf) | (refine Exists.intro _ (And.intro (hr) ?_); conv => whnf) | (refine WR_fit ?_ ?_; (focus (first | exact wr_i64 (by omega) | exact wr_u64 (by omega) | exact wr_u8 (by omega) | exact wr_i32 (by omega) | exact wr_u32 (by omega))); conv => whnf) | (refine WR_wrap ?_; conv => whnf) | (refine And.intro (a := indepB _ _ = true) ?_ ?_; (focus kernel_rfl); conv => whnf) | (refine And.intro rfl ?_; conv => whnf) | (refine And.intro ?_ ?_; (focus (first | omega | decide | (dsimp only; omega) | (simp at *; omega))); conv => whnf))
  all_goals first | contradiction | (exfalso; omega) | skip
  refine WA_nil 5 9 1 rfl ?_
  conv => whnf
  refine WA_loopI (fun i : Nat => i ≤ R.length) (fun i => [(5, .own 0), (16, .int .i64 (i : Int)), (7, .junk)]) (fun i => [.row 9 1 i (rowStr (wtkR R i))]) (fun i => R.length - i) 0 (Nat.zero_le _) ?_ ?_
  · conv => whnf
    repeat (first | exact rfl | exact trivial | exact Or.inl (fun _ _ => rfl) | exact (fun _ => rfl) | exact (fun _ _ => rfl) | exact Or.inl (fun _ hi => absurd hi (Nat.not_lt_zero _)) | (refine And.intro rfl ?_; conv => whnf) | (refine And.intro (Or.inl (fun _ _ => rfl)) ?_; conv => whnf) | (refine And.intro (fun _ => rfl) ?_; conv => whnf) | (refine And.intro (fun _ _ => rfl) ?_; conv => whnf) | (refine And.intro ?_ ?_; rotate_left; conv => whnf))
  · intro i hi
    by_cases hil : i < R.length
    · have hw := pword_c hT (R.getD i (0, 0)) (m2 _ (mem_getD hil)).1
      have hsn := wtkR_snoc hil
      have hl1 := wtkR_len hi
      conv => whnf
      repeat' (first | refine WA_seq ?_ | (refine WA_region ttok ?_; conv => whnf) | (refine WA_draw ttok mixed ?_; conv => whnf) | (refine WA_cond ?_; conv => whnf) | refine WA_block ?_ | (refine WA_skip ?_; conv => whnf) | (refine WA_exit ?_; conv => whnf) | (refine WA_ret ?_; conv => whnf) | (refine And.intro (fun h => ?_) (fun h => ?_) <;> (try simp only [brsA] at h) <;> conv => whnf) | (refine Or.inl ?_; (conv => whnf); refine Exists.intro _ (And.intro (hw) ?_); conv => whnf) | (refine Or.inr (Or.inr (Or.inl ?_)); (conv => whnf); refine Exists.intro _ (And.intro (hw) ?_); conv => whnf) | (refine Exists.intro _ (And.intro (hw) ?_); conv => whnf) | (refine WR_fit ?_ ?_; (focus (first | exact wr_i64 (by omega) | exact wr_u64 (by omega) | exact wr_u8 (by omega) | exact wr_i32 (by omega) | exact wr_u32 (by omega))); conv => whnf) | (refine WR_wrap ?_; conv => whnf) | (refine And.intro (a := indepB _ _ = true) ?_ ?_; (focus kernel_rfl); conv => whnf) | (refine And.intro rfl ?_; conv => whnf) | (refine And.intro ?_ ?_; (focus (first | omega | decide | (dsimp only; omega) | (simp at *; omega))); conv => whnf))
      all_goals first | contradiction | (exfalso; omega) | skip
      refine ⟨i + 1, (by show i + 1 ≤ R.length; omega), (by show R.length - (i + 1) < R.length - i; omega), ?_⟩
      conv => whnf
      repeat (first | exact rfl | exact trivial | exact Or.inl (fun _ _ => rfl) | exact (fun _ => rfl) | exact (fun _ _ => rfl) | exact Or.inl (fun _ hi => absurd hi (Nat.not_lt_zero _)) | (refine And.intro rfl ?_; conv => whnf) | (refine And.intro (Or.inl (fun _ _ => rfl)) ?_; conv => whnf) | (refine And.intro (fun _ => rfl) ?_; conv => whnf) | (refine And.intro (fun _ _ => rfl) ?_; conv => whnf) | (refine And.intro ?_ ?_; rotate_left; conv => whnf))
      refine Or.inl fun j hj => ?_
      have hq := rowCat_str (wtkR R i) (wordR (R.getD i (0, 0))) (fun i_2 => takeL 1 (List.drop (i_2 * 1) [A.str (wordR (R.getD i (0, 0)))])) rfl j (by omega)
      rw [hl1] at hq
      rw [hsn]
      exact hq
    · have hie : i = R.length := by omega
      subst hie
      rw [wtkR_all]
      have hj := hj.fit (args' := [.sl R.length 1 (rowStr (R.map wordR)), .str [32]]) (by
        conv => whnf
        repeat (first | exact rfl | exact trivial | exact Or.inl (fun _ _ => rfl) | exact (fun _ => rfl) | exact (fun _ _ => rfl) | exact Or.inl (fun _ hi => absurd hi (Nat.not_lt_zero _)) | (refine And.intro rfl ?_; conv => whnf) | (refine And.intro (Or.inl (fun _ _ => rfl)) ?_; conv => whnf) | (refine And.intro (fun _ => rfl) ?_; conv => whnf) | (refine And.intro (fun _ _ => rfl) ?_; conv => whnf) | (refine And.intro ?_ ?_; rotate_left; conv => whnf))
        rw [List.length_map])
      conv => whnf
      repeat' (first | refine WA_seq ?_ | (refine WA_region ttok ?_; conv => whnf) | (refine WA_draw ttok mixed ?_; conv => whnf) | (refine WA_cond ?_; conv => whnf) | refine WA_block ?_ | (refine WA_skip ?_; conv => whnf) | (refine WA_exit ?_; conv => whnf) | (refine WA_ret ?_; conv => whnf) | (refine And.intro (fun h => ?_) (fun h => ?_) <;> (try simp only [brsA] at h) <;> conv => whnf) | (refine Or.inl ?_; (conv => whnf); refine Exists.intro _ (And.intro (hj) ?_); conv => whnf) | (refine Or.inr (Or.inr (Or.inl ?_)); (conv => whnf); refine Exists.intro _ (And.intro (hj) ?_); conv => whnf) | (refine Exists.intro _ (And.intro (hj) ?_); conv => whnf) | (refine WR_fit ?_ ?_; (focus (first | exact wr_i64 (by omega) | exact wr_u64 (by omega) | exact wr_u8 (by omega) | exact wr_i32 (by omega) | exact wr_u32 (by omega))); conv => whnf) | (refine WR_wrap ?_; conv => whnf) | (refine And.intro (a := indepB _ _ = true) ?_ ?_; (focus kernel_rfl); conv => whnf) | (refine And.intro rfl ?_; conv => whnf) | (refine And.intro ?_ ?_; (focus (first | omega | decide | (dsimp only; omega) | (simp at *; omega))); conv => whnf))
      all_goals first | contradiction | (exfalso; omega) | skip
set_option maxRecDepth 100000 in
theorem ptext_bad (l : List Int) (hl : l.length ≤ 1000000) (hm : ¬ mayL l) : ACalls Tryd.prog G 21 [intsA l] (.tup [.str [], .int .i64 1]) := by
  have hck := pcheck_c (G := G) l hl
  rw [if_neg hm] at hck
  refine ACalls.of_WA ttok Tryd.func21 rfl rfl _ rfl ?_
  conv => whnf
  repeat' (first | refine WA_seq ?_ | (refine WA_region ttok ?_; conv => whnf) | (refine WA_draw ttok mixed ?_; conv => whnf) | (refine WA_cond ?_; conv => whnf) | refine WA_block ?_ | (refine WA_skip ?_; conv => whnf) | (refine WA_exit ?_; conv => whnf) | (refine WA_ret ?_; conv => whnf) | (refine And.intro (fun h => ?_) (fun h => ?_) <;> (try simp only [brsA] at h) <;> conv => whnf) | (refine Or.inl ?_; (conv => whnf); refine Exists.intro _ (And.intro (hck) ?_); conv => whnf) | (refine Or.inr (Or.inr (Or.inl ?_)); (conv => whnf); refine Exists.intro _ (And.intro (hck) ?_); conv => whnf) | (refine Exists.intro _ (And.intro (hck) ?_); conv => whnf) | (refine WR_fit ?_ ?_; (focus (first | exact wr_i64 (by omega) | exact wr_u64 (by omega) | exact wr_u8 (by omega) | exact wr_i32 (by omega) | exact wr_u32 (by omega))); conv => whnf) | (refine WR_wrap ?_; conv => whnf) | (refine And.intro (a := indepB _ _ = true) ?_ ?_; (focus kernel_rfl); conv => whnf) | (refine And.intro rfl ?_; conv => whnf) | (refine And.intro ?_ ?_; (focus (first | omega | decide | (dsimp only; omega) | (simp at *; omega))); conv => whnf))
  all_goals first | contradiction | (exfalso; omega) | skip
/-! ### strings.Cut at one byte -/
theorem index_two (c : UInt8) : ∀ s : List UInt8, (c ∉ s ∧ index s [c] = -1) ∨ ∃ h t, c ∉ h ∧ s = h ++ c :: t ∧ index s [c] = (h.length : Int)
  | [] => Or.inl ⟨by simp, rfl⟩
  | b :: s => by
    by_cases hb : b = c
    · subst hb
      exact Or.inr ⟨[], s, by simp, rfl, by rw [index_one_cons, if_pos rfl]; rfl⟩
    · rcases index_two c s with ⟨h1, h2⟩ | ⟨h, t, h1, h2, h3⟩
      · refine Or.inl ⟨fun q => (List.mem_cons.1 q).elim (fun e => hb e.symm) h1, ?_⟩
        rw [index_one_cons, if_neg hb, if_pos h2]
      · refine Or.inr ⟨b :: h, t, fun q => (List.mem_cons.1 q).elim (fun e => hb e.symm) h1, by rw [h2]; rfl, ?_⟩
        rw [index_one_cons, if_neg hb, h3, if_neg (by omega)]; simp
theorem cut_two (c : UInt8) (s : List UInt8) : (c ∉ s ∧ Lib.cut s [c] = (s, [], false)) ∨ ∃ h t, c ∉ h ∧ s = h ++ c :: t ∧ Lib.cut s [c] = (h, t, true) := by
  rcases index_two c s with ⟨h1, h2⟩ | ⟨h, t, h1, h2, h3⟩
  · refine Or.inl ⟨h1, ?_⟩
    unfold Lib.cut; rw [h2, if_neg (by decide)]
  · refine Or.inr ⟨h, t, h1, h2, ?_⟩
    unfold Lib.cut
    rw [h3, if_pos (by omega), Int.toNat_natCast, h2]
    simp
theorem wcut_c (hM : HasMax G) (s : List UInt8) (c : UInt8) (hs : s.length < 4294967281) : ACalls Tryd.prog G 87 [.str s, .str [c]] (.tup [.str (Lib.cut s [c]).1, .str (Lib.cut s [c]).2.1, .sb (Lib.cut s [c]).2.2]) := by
  refine ⟨⟨_, _, Tryd.func87, rfl, by kernel_rfl⟩, ?_⟩
  intro im w vs him hG hl hr
  match vs, hl with
  | [a, b], _ =>
    have h0 : RelI im w (.str s) a := hr 0 (by simp) (by simp)
    have h1 : RelI im w (.str [c]) b := hr 1 (by simp) (by simp)
    obtain rfl := strI_inv h0
    obtain rfl := strI_inv h1
    obtain ⟨m, hm⟩ := hM w hG
    have hsz : (⟨s.toArray⟩ : ByteArray).size = s.length := by simp [ByteArray.size]
    refine Calls_mono (Tryd.strings_Cut ⟨s.toArray⟩ ⟨[c].toArray⟩ m w (by rw [hsz]; exact hs) hm) ?_
    rintro e w' ⟨rfl, n, rfl⟩
    refine ⟨_, rfl, ?_, Bw.of_below ⟨rfl, rfl, rfl, Nat.le_refl _, fun _ _ => rfl⟩⟩
    refine .tup _ [.string ⟨(Lib.cut s [c]).1.toArray⟩, .string ⟨(Lib.cut s [c]).2.1.toArray⟩, .bool (Lib.cut s [c]).2.2] rfl ?_
    intro j h h'
    match j with
    | 0 => exact .str _
    | 1 => exact .str _
    | 2 => exact .sb _
    | j + 3 => exact absurd h (by simp)
end Go.Proofs.YtagokdeflnkplaaDoor
set_option linter.unusedSimpArgs false
namespace Go.Proofs.YtagokdeflnkplaaDoor
open Go.Proofs.YtagokdeflnkplaaDoor.Am Go.Lib
variable {G : GInv}
/-! ### One run's word -/
def runW (h t : List UInt8) (b : Bool) : Run × Bool :=
  if b = true ∧ (betw t 2 1152921504606846976).2 ≠ 0 then ((0, 0), false) else
  if h = [] then ((0, 0), false) else
  if (betw h.dropLast 0 576460752303423488).2 ≠ 0 then ((0, 0), false) else
  if h.getLast? = some 98 then ((if b = true then (betw t 2 1152921504606846976).1 else 1, 2 * (betw h.dropLast 0 576460752303423488).1 + 1), decide (2 * (betw h.dropLast 0 576460752303423488).1 + 1 ≤ 1152921504606846976)) else
  if h.getLast? = some 102 then ((if b = true then (betw t 2 1152921504606846976).1 else 1, 2 * (betw h.dropLast 0 576460752303423488).1), decide (2 * (betw h.dropLast 0 576460752303423488).1 ≤ 1152921504606846976)) else
  ((0, 0), false)
theorem betw_iff (s : List UInt8) (lo hi : Int) : ((betw s lo hi).2 ≠ 0 ↔ (parseN s).2 ≠ 0 ∨ (parseN s).1 < lo ∨ hi < (parseN s).1) ∧ ((betw s lo hi).2 = 0 → (betw s lo hi).1 = (parseN s).1) := by
  unfold betw
  by_cases h : (parseN s).2 ≠ 0
  · rw [if_pos h]; exact ⟨⟨fun _ => Or.inl h, fun _ => h⟩, fun q => absurd q h⟩
  · rw [if_neg h]
    by_cases h2 : (parseN s).1 < lo ∨ hi < (parseN s).1
    · rw [if_pos h2]; exact ⟨⟨fun _ => Or.inr h2, fun _ => by decide⟩, fun q => absurd q (by decide)⟩
    · rw [if_neg h2]; exact ⟨⟨fun q => absurd rfl q, fun q => absurd q (fun q => q.elim h h2)⟩, fun _ => rfl⟩
theorem parse_120 {t : List UInt8} (h : (120 : UInt8) ∈ t) : (parseN t).2 ≠ 0 := fun q => by
  have := one_law t q
  rw [← this] at h
  exact itoa_not _ _ (by decide) h
theorem parse_nil : (parseN []).2 ≠ 0 := by decide
theorem last_part (k : Int) (g : Option UInt8) (N : Int) (hN : N ≤ 576460752303423488) : (if g = some 98 then ((k, 2 * N + 1), decide (2 * N + 1 ≤ 1152921504606846976)) else if g = some 102 then ((k, 2 * N), decide (2 * N ≤ 1152921504606846976)) else (((0, 0) : Run), false)) =
    (if g = some 102 then ((k, 2 * N), true) else if g = some 98 then ((k, 2 * N + 1), decide (2 * N + 1 ≤ 1152921504606846976)) else ((0, 0), false)) := by
  by_cases h1 : g = some 98
  · subst h1
    rw [if_pos rfl, if_neg (by decide), if_pos rfl]
  · rw [if_neg h1, if_neg h1]
    by_cases h2 : g = some 102
    · rw [if_pos h2, if_pos h2, decide_eq_true (show 2 * N ≤ 1152921504606846976 by omega)]
    · rw [if_neg h2, if_neg h2]
theorem runV_W (s : List UInt8) : runV s = runW (Lib.cut s [120]).1 (Lib.cut s [120]).2.1 (Lib.cut s [120]).2.2 := by
  have main : ∀ (h t : List UInt8) (b : Bool) (L : List (List UInt8)), L.getD 0 [] = h → (b = false → L.length = 1) → (b = true → L.length = 2 ∧ L.getD 1 [] = t) → runVL L = runW h t b := by
    intro h t b L e0 e1 e2
    obtain ⟨i1, v1⟩ := betw_iff t 2 1152921504606846976
    obtain ⟨i2, v2⟩ := betw_iff h.dropLast 0 576460752303423488
    have nt := parseN_near' t
    unfold runVL runW
    rw [e0]
    have hl : ¬ 2 < L.length := by
      cases b
      · rw [e1 rfl]; decide
      · rw [(e2 rfl).1]; decide
    have hc : (L.length = 2 ∧ ((parseN (L.getD 1 [])).2 ≠ 0 ∨ (parseN (L.getD 1 [])).1 < 2)) ↔ (b = true ∧ (betw t 2 1152921504606846976).2 ≠ 0) := by
      cases b
      · exact ⟨fun q => absurd q.1 (by rw [e1 rfl]; decide), fun q => absurd q.1 (by decide)⟩
      · rw [(e2 rfl).1, (e2 rfl).2, i1]
        constructor
        · rintro ⟨_, q | q⟩
          · exact ⟨rfl, Or.inl q⟩
          · exact ⟨rfl, Or.inr (Or.inl q)⟩
        · rintro ⟨_, q | q | q⟩
          · exact ⟨rfl, Or.inl q⟩
          · exact ⟨rfl, Or.inr q⟩
          · omega
    have hk : b = true → (betw t 2 1152921504606846976).2 = 0 → (betw t 2 1152921504606846976).1 = (parseN (L.getD 1 [])).1 := fun q z => by rw [(e2 q).2]; exact v1 z
    have hlb : L.length = 2 ↔ b = true := by
      cases b
      · rw [e1 rfl]; decide
      · rw [(e2 rfl).1]; decide
    by_cases hA : b = true ∧ (betw t 2 1152921504606846976).2 ≠ 0
    · rw [if_pos hA, if_pos (hc.2 hA)]
      split <;> rfl
    · rw [if_neg hA, if_neg (fun q => hA (hc.1 q))]
      by_cases h0 : h = []
      · rw [if_pos h0, if_pos (Or.inr (by rw [h0]; decide))]
      · rw [if_neg h0]
        by_cases hB : (betw h.dropLast 0 576460752303423488).2 ≠ 0
        · rw [if_pos hB, if_pos (i2.1 hB)]
          split <;> rfl
        · have hn := fun q => hB (i2.2 q)
          have hB' : (betw h.dropLast 0 576460752303423488).2 = 0 := by omega
          rw [if_neg hB, if_neg hn, v2 hB']
          rw [last_part (if b = true then (betw t 2 1152921504606846976).1 else 1) _ _ (by omega)]
          have hs : ¬ (2 < L.length ∨ h.length < 2) := by
            rintro (q | q)
            · exact hl q
            · have : h.length = 1 := by have := List.length_pos_iff.2 h0; omega
              match h, this with
              | [c], _ => exact absurd (Or.inl parse_nil) hn
          rw [if_neg hs]
          have hkk : (if L.length = 2 then (parseN (L.getD 1 [])).1 else 1) = (if b = true then (betw t 2 1152921504606846976).1 else 1) := by
            by_cases hb : b = true
            · rw [if_pos hb, if_pos (hlb.2 hb), hk hb (Decidable.byContradiction fun q => hA ⟨hb, q⟩)]
            · rw [if_neg hb, if_neg (fun q => hb (hlb.1 q))]
          rw [hkk]
  unfold runV
  rcases cut_two 120 s with ⟨h1, h2⟩ | ⟨h, t, h1, h2, h3⟩
  · rw [h2, cutL_pure 120 s h1]
    exact main s [] false [s] rfl (fun _ => rfl) (fun q => absurd q (by decide))
  · rw [h3, h2, cutL_at 120 h t h1]
    by_cases ht : (120 : UInt8) ∈ t
    · have hb := (betw_iff t 2 1152921504606846976).1.2 (Or.inl (parse_120 ht))
      unfold runW
      rw [if_pos ⟨rfl, hb⟩]
      unfold runVL
      have : 2 < (h :: cutL 120 t).length := by
        rcases cut_two 120 t with ⟨q, _⟩ | ⟨h', t', q1, q2, _⟩
        · exact absurd ht q
        · rw [q2, cutL_at 120 h' t' q1]
          have := List.length_pos_iff.2 (cutL_ne 120 t')
          simp only [List.length_cons]; omega
      rw [if_pos (Or.inl this)]
    · rw [cutL_pure 120 t ht]
      exact main h t true [h, t] rfl (fun q => absurd q (by decide)) (fun _ => ⟨rfl, rfl⟩)
theorem last_getD' {h : List UInt8} (h0 : h ≠ []) : h.getLast? = some (h.getD (h.length - 1) 0) ∧ h.dropLast = h.take (h.length - 1) := by
  refine ⟨?_, List.dropLast_eq_take⟩
  have : 0 < h.length := List.length_pos_iff.2 h0
  rw [List.getLast?_eq_getElem?, List.getD_eq_getElem?_getD, List.getElem?_eq_getElem (by omega)]; rfl
set_option maxRecDepth 100000 in
set_option maxHeartbeats 4000000 in
theorem prunW_c (hT : HasTab G) (s hd t : List UInt8) (b : Bool) (hl : hd.length ≤ 100000) (hlt : t.length ≤ 100000) (hc : ACalls Tryd.prog G 87 [.str s, .str [120]] (.tup [.str hd, .str t, .sb b])) :
    ACalls Tryd.prog G 54 [.str s] (.tup [.agg [.int .i64 (runW hd t b).1.1, .int .i64 (runW hd t b).1.2], .sb (runW hd t b).2]) := by
  have c1 := between_c hT t 2 1152921504606846976 (by omega)
  have c2 := between_c hT hd.dropLast 0 576460752303423488 (by rw [List.length_dropLast]; omega)
  have b1 := (betw_iff hd.dropLast 0 576460752303423488).1
  have b2 := (betw_iff hd.dropLast 0 576460752303423488).2
  have hlast := last_getD' (h := hd)
  obtain ⟨R, hR⟩ : ∃ R, R = runW hd t b := ⟨_, rfl⟩
  rw [← hR]
  unfold runW at hR
  have hv : (betw hd.dropLast 0 576460752303423488).2 = 0 → 0 ≤ (betw hd.dropLast 0 576460752303423488).1 ∧ (betw hd.dropLast 0 576460752303423488).1 ≤ 576460752303423488 := fun q => by
    rw [b2 q]
    have := fun z => (b1.2 z) q
    omega
  clear b1 b2
  by_cases h0 : hd = []
  · subst h0
    clear c2 hv hlast
    generalize betw t 2 1152921504606846976 = B at *
    have hR' : R = ((0, 0), false) := by rw [hR, if_pos rfl]; split <;> rfl
    clear hR
    subst hR'
    refine ACalls.of_WA ttok Tryd.func54 rfl rfl _ rfl ?_
    conv => whnf
    repeat' (first | refine WA_seq ?_ | (refine WA_region ttok ?_; conv => whnf) | (refine WA_draw ttok mixed ?_; conv => whnf) | (refine WA_cond ?_; conv => whnf) | refine WA_block ?_ | (refine WA_skip ?_; conv => whnf) | (refine WA_exit ?_; conv => whnf) | (refine WA_ret ?_; conv => whnf) | (refine And.intro (fun h => ?_) (fun h => ?_) <;> (try simp only [brsA] at h) <;> conv => whnf) | (refine Or.inl ?_; (conv => whnf); refine Exists.intro _ (And.intro (hc) ?_); conv => whnf) | (refine Or.inr (Or.inr (Or.inl ?_)); (conv => whnf); refine Exists.intro _ (And.intro (hc) ?_); conv => whnf) | (refine Exists.intro _ (And.intro (hc) ?_); conv => whnf) | (refine Or.inl ?_; (conv => whnf); refine Exists.intro _ (And.intro (c1) ?_); conv => whnf) | (refine Or.inr (Or.inr (Or.inl ?_)); (conv => whnf); refine Exists.intro _ (And.intro (c1) ?_); conv => whnf) | (refine Exists.intro _ (And.intro (c1) ?_); conv => whnf) | (refine WR_fit ?_ ?_; (focus (first | exact wr_i64 (by omega) | exact wr_u64 (by omega) | exact wr_u8 (by omega) | exact wr_i32 (by omega) | exact wr_u32 (by omega))); conv => whnf) | (refine WR_wrap ?_; conv => whnf) | (refine And.intro (a := indepB _ _ = true) ?_ ?_; (focus kernel_rfl); conv => whnf) | (refine And.intro rfl ?_; conv => whnf) | (refine And.intro ?_ ?_; (focus (first | omega | decide | (dsimp only; omega) | (simp at *; omega))); conv => whnf))
    all_goals first | contradiction | (exfalso; omega) | skip
    all_goals repeat (first | exact rfl | exact trivial | exact Or.inl (fun _ _ => rfl) | exact (fun _ => rfl) | exact (fun _ _ => rfl) | exact Or.inl (fun _ hi => absurd hi (Nat.not_lt_zero _)) | (refine And.intro rfl ?_; conv => whnf) | (refine And.intro (Or.inl (fun _ _ => rfl)) ?_; conv => whnf) | (refine And.intro (fun _ => rfl) ?_; conv => whnf) | (refine And.intro (fun _ _ => rfl) ?_; conv => whnf) | (refine And.intro ?_ ?_; rotate_left; conv => whnf))
  · obtain ⟨g1, g2⟩ := hlast h0
    rw [g1] at hR
    have hpos : 0 < hd.length := List.length_pos_iff.2 h0
    have hE : List.drop 0 (List.take ((hd.length : Int) - 1).toNat hd) = hd.dropLast := by rw [g2, List.drop_zero, show ((hd.length : Int) - 1).toNat = hd.length - 1 by omega]
    have hZ : hd.getD ((hd.length : Int) - 1).toNat 0 = hd.getD (hd.length - 1) 0 := by rw [show ((hd.length : Int) - 1).toNat = hd.length - 1 by omega]
    rw [← hZ] at hR
    clear hlast g1 g2 hZ
    generalize betw t 2 1152921504606846976 = B at *
    generalize betw hd.dropLast 0 576460752303423488 = C at *
    rw [← hE] at c2
    clear hE
    have r1 : b = true → ¬ B.2 = 0 → R = ((0, 0), false) := fun q1 q2 => by rw [hR, if_pos ⟨q1, q2⟩]
    have r2 : (b = true → B.2 = 0) → ¬ C.2 = 0 → R = ((0, 0), false) := fun q1 q2 => by rw [hR, if_neg (fun q => q.2 (q1 q.1)), if_neg h0, if_pos q2]
    have u := u8_eq (hd.getD ((hd.length : Int) - 1).toNat 0) 98
    have u' := u8_eq (hd.getD ((hd.length : Int) - 1).toNat 0) 102
    have r3 : (b = true → B.2 = 0) → C.2 = 0 → ((hd.getD ((hd.length : Int) - 1).toNat 0).toNat : Int) = 98 → R = ((if b = true then B.1 else 1, 2 * C.1 + 1), decide (2 * C.1 + 1 ≤ 1152921504606846976)) := fun q1 q2 q3 => by
      rw [hR, if_neg (fun q => q.2 (q1 q.1)), if_neg h0, if_neg (fun q => q q2), if_pos (by rw [u.1 q3])]
    have r4 : (b = true → B.2 = 0) → C.2 = 0 → ¬ ((hd.getD ((hd.length : Int) - 1).toNat 0).toNat : Int) = 98 → ((hd.getD ((hd.length : Int) - 1).toNat 0).toNat : Int) = 102 → R = ((if b = true then B.1 else 1, 2 * C.1), decide (2 * C.1 ≤ 1152921504606846976)) := fun q1 q2 q3 q4 => by
      rw [hR, if_neg (fun q => q.2 (q1 q.1)), if_neg h0, if_neg (fun q => q q2), if_neg (fun q => q3 (u.2 (Option.some.inj q))), if_pos (by rw [u'.1 q4])]
    have r5 : (b = true → B.2 = 0) → C.2 = 0 → ¬ ((hd.getD ((hd.length : Int) - 1).toNat 0).toNat : Int) = 98 → ¬ ((hd.getD ((hd.length : Int) - 1).toNat 0).toNat : Int) = 102 → R = ((0, 0), false) := fun q1 q2 q3 q4 => by
      rw [hR, if_neg (fun q => q.2 (q1 q.1)), if_neg h0, if_neg (fun q => q q2), if_neg (fun q => q3 (u.2 (Option.some.inj q))), if_neg (fun q => q4 (u'.2 (Option.some.inj q)))]
    clear hR u u'
    refine ACalls.of_WA ttok Tryd.func54 rfl rfl _ rfl ?_
    conv => whnf
    repeat' (first | refine WA_seq ?_ | (refine WA_region ttok ?_; conv => whnf) | (refine WA_draw ttok mixed ?_; conv => whnf) | (refine WA_cond ?_; conv => whnf) | refine WA_block ?_ | (refine WA_skip ?_; conv => whnf) | (refine WA_exit ?_; conv => whnf) | (refine WA_ret ?_; conv => whnf) | (refine And.intro (fun h => ?_) (fun h => ?_) <;> (try simp only [brsA] at h) <;> conv => whnf) | (refine Or.inl ?_; (conv => whnf); refine Exists.intro _ (And.intro (hc) ?_); conv => whnf) | (refine Or.inr (Or.inr (Or.inl ?_)); (conv => whnf); refine Exists.intro _ (And.intro (hc) ?_); conv => whnf) | (refine Exists.intro _ (And.intro (hc) ?_); conv => whnf) | (refine Or.inl ?_; (conv => whnf); refine Exists.intro _ (And.intro (c1) ?_); conv => whnf) | (refine Or.inr (Or.inr (Or.inl ?_)); (conv => whnf); refine Exists.intro _ (And.intro (c1) ?_); conv => whnf) | (refine Exists.intro _ (And.intro (c1) ?_); conv => whnf) | (refine Or.inl ?_; (conv => whnf); refine Exists.intro _ (And.intro (c2) ?_); conv => whnf) | (refine Or.inr (Or.inr (Or.inl ?_)); (conv => whnf); refine Exists.intro _ (And.intro (c2) ?_); conv => whnf) | (refine Exists.intro _ (And.intro (c2) ?_); conv => whnf) | (refine WR_fit ?_ ?_; (focus (first | exact wr_i64 (by omega) | exact wr_u64 (by omega) | exact wr_u8 (by omega) | exact wr_i32 (by omega) | exact wr_u32 (by omega))); conv => whnf) | (refine WR_wrap ?_; conv => whnf) | (refine And.intro (a := indepB _ _ = true) ?_ ?_; (focus kernel_rfl); conv => whnf) | (refine And.intro rfl ?_; conv => whnf) | (refine And.intro ?_ ?_; (focus (first | omega | decide | (dsimp only; omega) | (simp at *; omega))); conv => whnf))
    all_goals first | contradiction | (exfalso; omega) | skip
    all_goals first | rw [r1 (by assumption) (by assumption)] | rw [r2 (fun _ => by first | assumption | (exfalso; simp_all; done)) (by assumption)] | rw [r3 (fun _ => by first | assumption | (exfalso; simp_all; done)) (by assumption) (by assumption)] | rw [r4 (fun _ => by first | assumption | (exfalso; simp_all; done)) (by assumption) (by assumption) (by assumption)] | rw [r5 (fun _ => by first | assumption | (exfalso; simp_all; done)) (by assumption) (by assumption) (by assumption)] | skip
    all_goals clear r1 r2 r3 r4 r5
    all_goals repeat (first | exact rfl | exact trivial | exact Or.inl (fun _ _ => rfl) | exact (fun _ => rfl) | exact (fun _ _ => rfl) | exact Or.inl (fun _ hi => absurd hi (Nat.not_lt_zero _)) | (refine And.intro rfl ?_; conv => whnf) | (refine And.intro (Or.inl (fun _ _ => rfl)) ?_; conv => whnf) | (refine And.intro (fun _ => rfl) ?_; conv => whnf) | (refine And.intro (fun _ _ => rfl) ?_; conv => whnf) | (refine And.intro ?_ ?_; rotate_left; conv => whnf))
    all_goals
      have hv := hv (by assumption)
      have e1 : IntKind.i64.wrap (2 * C.1) = 2 * C.1 := by rw [IntKind.wrap_i64]; omega
      have e2 : IntKind.i64.wrap (2 * C.1 + 1) = 2 * C.1 + 1 := by rw [IntKind.wrap_i64]; omega
      (try rw [e1])
      (try rw [e2])
    all_goals
      first | (have hb : b = true := (by assumption); subst hb) | (have hb : b = false := (by assumption); subst hb)
      rfl
theorem prun_c (hT : HasTab G) (hM : HasMax G) (s : List UInt8) (hl : s.length ≤ 100000) : ACalls Tryd.prog G 54 [.str s] (.tup [.agg [.int .i64 (runV s).1.1, .int .i64 (runV s).1.2], .sb (runV s).2]) := by
  rw [runV_W]
  have hb : (Lib.cut s [120]).1.length ≤ s.length ∧ (Lib.cut s [120]).2.1.length ≤ s.length := by
    rcases cut_two 120 s with ⟨_, h⟩ | ⟨h, t, _, h2, h3⟩
    · rw [h]; exact ⟨Nat.le_refl _, Nat.zero_le _⟩
    · rw [h3, h2]; simp; omega
  exact prunW_c hT s _ _ _ (by omega) (by omega) (wcut_c hM s 120 (by omega))
end Go.Proofs.YtagokdeflnkplaaDoor

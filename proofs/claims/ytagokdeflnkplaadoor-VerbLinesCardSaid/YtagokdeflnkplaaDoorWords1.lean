/-
  The walk of the reference's Words at a road.
-/
import Derived.Test.YtagokdeflnkplaaDoorVerb3
import Derived.Test.YtagokdeflnkplaaDoorVerb4
import Derived.Test.YtagokdeflnkplaaDoorNum3
set_option linter.unusedSimpArgs false
namespace Go.Proofs.YtagokdeflnkplaaDoor
open Go.Proofs.YtagokdeflnkplaaDoor.Am Go.Lib
variable {G : GInv}
/-! ### The reference: a command's words -/
theorem rowCat_two (r r2 r3 : Nat → List A) (n a b : Nat) (h2 : ∀ j, j < a → r2 j = r (n + j)) (h3 : ∀ j, j < b → r3 j = r (n + a + j)) (j : Nat) (hj : j < n + a + b) : rowCat (n + a) (rowCat n r r2) r3 j = r j := by
  rcases Nat.lt_or_ge j (n + a) with h | h
  · have : rowCat (n + a) (rowCat n r r2) r3 j = rowCat n r r2 j := by
      unfold rowCat
      rw [show Nat.blt j (n + a) = true from Nat.ble_eq_true_of_le h]
    rw [this]
    exact rowCat_many r r2 n a h2 j h
  · have : rowCat (n + a) (rowCat n r r2) r3 j = r3 (j - (n + a)) := by
      conv => lhs; unfold rowCat
      split
      · rename_i q; exact absurd (Nat.le_of_ble_eq_true q) (by omega)
      · rfl
    rw [this, h3 _ (by omega)]
    congr 1; omega
def cntW (i : Nat) : Nat := if i = 0 then 3 else 3 * i + 2
theorem line1_at (c : Cm) (h1 : c.k = 1) (_hl : c.pts.length = c.ws.length + 1) : (lineW c).length = 3 * c.ws.length + 5 ∧ (lineW c).getD 0 [] = nameL 1 ∧ (lineW c).getD 1 [] = Lib.itoa c.rid ∧ (lineW c).getD 2 [] = flagW 1 (c.ow || c.bo) ∧
    ∀ i, i ≤ c.ws.length → (lineW c).getD (3 * i + 3) [] = Lib.itoa (c.pts.getD i (0, 0)).1 ∧ (lineW c).getD (3 * i + 4) [] = Lib.itoa (c.pts.getD i (0, 0)).2 ∧ (i < c.ws.length → (lineW c).getD (3 * i + 5) [] = Lib.itoa (c.ws.getD i 0)) := by
  have ha := allR_at c.rid c.pts c.ws
  have e : allL c = (List.range (3 * c.ws.length + 3)).map (allR c.rid c.pts c.ws) := by unfold allL; rw [if_pos h1]
  have hlen : (allL c).length = 3 * c.ws.length + 3 := by rw [e]; simp
  have hg : ∀ j, j < 3 * c.ws.length + 3 → ((allL c).map Lib.itoa).getD j [] = Lib.itoa (allR c.rid c.pts c.ws j) := fun j hj => by
    rw [e, List.map_map]; exact range_getD _ _ _ _ hj
  have hm : ((allL c).map Lib.itoa).length = 3 * c.ws.length + 3 := by simp [hlen]
  unfold lineW insF
  rw [if_pos h1, h1]
  generalize (allL c).map Lib.itoa = m at *
  generalize flagW 1 (c.ow || c.bo) = f at *
  match m, hm with
  | x :: r, hm =>
    have hm : r.length + 1 = 3 * c.ws.length + 3 := by simpa using hm
    have e2 : nameL 1 :: ((x :: r).take 1 ++ f :: (x :: r).drop 1) = nameL 1 :: x :: f :: r := rfl
    rw [e2]
    have hr : ∀ j, j + 1 < 3 * c.ws.length + 3 → r.getD j [] = Lib.itoa (allR c.rid c.pts c.ws (j + 1)) := fun j hj => by
      have := hg (j + 1) hj
      rwa [List.getD_cons_succ] at this
    refine ⟨by simp; omega, rfl, ?_, rfl, fun i hi => ⟨?_, ?_, fun hi2 => ?_⟩⟩
    · have := hg 0 (by omega)
      rw [(ha 0).2.2.2] at this
      exact this
    · rw [show 3 * i + 3 = 3 * i + 1 + 1 + 1 by omega, List.getD_cons_succ, List.getD_cons_succ, show (f :: r).getD (3 * i + 1) [] = r.getD (3 * i) [] from rfl, hr _ (by omega), (ha i).1]
    · rw [show 3 * i + 4 = 3 * i + 1 + 1 + 1 + 1 by omega, List.getD_cons_succ, List.getD_cons_succ, List.getD_cons_succ, hr _ (by omega), show 3 * i + 1 + 1 = 3 * i + 2 by omega, (ha i).2.1]
    · rw [show 3 * i + 5 = 3 * i + 2 + 1 + 1 + 1 by omega, List.getD_cons_succ, List.getD_cons_succ, List.getD_cons_succ, hr _ (by omega), show 3 * i + 2 + 1 = 3 * i + 3 by omega, (ha i).2.2.1]
set_option maxRecDepth 100000 in
set_option maxHeartbeats 8000000 in
theorem rwds_1 (c : Cm) (hm : mayV c) (h1 : c.k = 1) : ACalls Tryd.prog G 73 [.agg (cmA c)] (strsA (lineW c)) := by
  have hrd := hm.2.1 h1
  obtain ⟨q1, q2, q3, q4, q5⟩ := line1_at c h1 hrd.2.2
  have hr := (vmay_iff c).2 hm
  have hrid : near60 c.rid := ((near_eight c).1 hr.2.2.1).2.2.2.2.2.2.2
  have hws := hr.2.2.2.1
  have hpt := hr.2.2.2.2.1
  have hbo : c.bo = false := by
    have := hr.2.1
    rw [this]; unfold bareC; rw [if_pos h1]
  rw [hbo, Bool.or_false] at q4
  have hn := rvname_c (G := G) c.k
  rw [← h1] at q2
  have ht := refText_c (G := G) c.rid (i64_near hrid).1 (i64_near hrid).2
  have hp1 : 1 ≤ c.pts.length := hrd.1
  generalize lineW c = L at *
  have hy : c.ow = true → L.getD 2 [] = yesW 1 := fun q => by rw [q4, q]; rfl
  have hno : c.ow = false → L.getD 2 [] = noW 1 := fun q => by rw [q4, q]; rfl
  refine ACalls.of_WA ttok Tryd.func73 rfl rfl _ rfl ?_
  conv => whnf
  repeat' (first | refine WA_seq ?_ | (refine WA_region ttok ?_; conv => whnf) | (refine WA_draw ttok mixed ?_; conv => whnf) | (refine WA_cond ?_; conv => whnf) | refine WA_block ?_ | (refine WA_skip ?_; conv => whnf) | (refine WA_exit ?_; conv => whnf) | (refine WA_ret ?_; conv => whnf) | (refine And.intro (fun h => ?_) (fun h => ?_) <;> (try simp only [brsA] at h) <;> conv => whnf) | (refine Or.inl ?_; (conv => whnf); refine Exists.intro _ (And.intro (hn) ?_); conv => whnf) | (refine Or.inr (Or.inr (Or.inl ?_)); (conv => whnf); refine Exists.intro _ (And.intro (hn) ?_); conv => whnf) | (refine Exists.intro _ (And.intro (hn) ?_); conv => whnf) | (refine Or.inl ?_; (conv => whnf); refine Exists.intro _ (And.intro (ht) ?_); conv => whnf) | (refine Or.inr (Or.inr (Or.inl ?_)); (conv => whnf); refine Exists.intro _ (And.intro (ht) ?_); conv => whnf) | (refine Exists.intro _ (And.intro (ht) ?_); conv => whnf) | (refine WR_fit ?_ ?_; (focus (first | exact wr_i64 (by omega) | exact wr_u64 (by omega) | exact wr_u8 (by omega) | exact wr_i32 (by omega) | exact wr_u32 (by omega))); conv => whnf) | (refine WR_wrap ?_; conv => whnf) | (refine And.intro (a := indepB _ _ = true) ?_ ?_; (focus kernel_rfl); conv => whnf) | (refine And.intro rfl ?_; conv => whnf) | (refine And.intro ?_ ?_; (focus (first | omega | decide | (dsimp only; omega) | (simp at *; omega))); conv => whnf))
  all_goals first | contradiction | (exfalso; omega) | skip
  all_goals
    refine WA_loopI (fun i : Nat => i ≤ c.pts.length) (fun i => [(4, .int .i64 (i : Int)), (3, .own 1), (18, .junk), (24, .junk), (27, .junk), (19, .junk), (25, .junk), (28, .junk)]) (fun i => [.box 56 (cmA c), .row 9 1 (cntW i) (wordsR L)]) (fun i => c.pts.length - i) 0 (by omega) ?_ ?_
    · conv => whnf
      repeat (first | exact rfl | exact trivial | exact Or.inl (fun _ _ => rfl) | exact (fun _ => rfl) | exact (fun _ _ => rfl) | exact Or.inl (fun _ hi => absurd hi (Nat.not_lt_zero _)) | (refine And.intro rfl ?_; conv => whnf) | (refine And.intro (Or.inl (fun _ _ => rfl)) ?_; conv => whnf) | (refine And.intro (fun _ => rfl) ?_; conv => whnf) | (refine And.intro (fun _ _ => rfl) ?_; conv => whnf) | (refine And.intro ?_ ?_; rotate_left; conv => whnf))
      all_goals first
        | (refine Or.inl fun j hj => ?_
           have hj3 : j = 0 ∨ j = 1 ∨ j = 2 := by omega
           rcases hj3 with rfl | rfl | rfl
           · exact congrArg (fun x => [A.str x]) q2.symm
           · exact congrArg (fun x => [A.str x]) q3.symm
           · first | exact congrArg (fun x => [A.str x]) (hy (by assumption)).symm | exact congrArg (fun x => [A.str x]) (hno (by assumption)).symm)
        | trace_state
    · intro i hi
      by_cases hip : i < c.pts.length
      · have ei : ((i : Nat) : Int).toNat = i := Int.toNat_natCast i
        have hxy := (near_two _).1 (hpt i hip)
        have tx := refText_c (G := G) (c.pts.getD i (0, 0)).1 (i64_near hxy.1).1 (i64_near hxy.1).2
        have ty := refText_c (G := G) (c.pts.getD i (0, 0)).2 (i64_near hxy.2).1 (i64_near hxy.2).2
        have gx := (q5 i (by omega)).1
        have gy := (q5 i (by omega)).2.1
        by_cases hi0 : i = 0
        · subst hi0
          conv => whnf
          repeat' (first | ((refine WA_renR (id := 10) 4 [0, 3] rfl rfl ?_; conv => whnf)) | refine WA_seq ?_ | (refine WA_region ttok ?_; conv => whnf) | (refine WA_draw ttok mixed ?_; conv => whnf) | (refine WA_cond ?_; conv => whnf) | refine WA_block ?_ | (refine WA_skip ?_; conv => whnf) | (refine WA_exit ?_; conv => whnf) | (refine WA_ret ?_; conv => whnf) | (refine And.intro (fun h => ?_) (fun h => ?_) <;> (try simp only [brsA] at h) <;> conv => whnf) | (refine Or.inl ?_; (conv => whnf); refine Exists.intro _ (And.intro (tx) ?_); conv => whnf) | (refine Or.inr (Or.inr (Or.inl ?_)); (conv => whnf); refine Exists.intro _ (And.intro (tx) ?_); conv => whnf) | (refine Exists.intro _ (And.intro (tx) ?_); conv => whnf) | (refine Or.inl ?_; (conv => whnf); refine Exists.intro _ (And.intro (ty) ?_); conv => whnf) | (refine Or.inr (Or.inr (Or.inl ?_)); (conv => whnf); refine Exists.intro _ (And.intro (ty) ?_); conv => whnf) | (refine Exists.intro _ (And.intro (ty) ?_); conv => whnf) | (refine WR_fit ?_ ?_; (focus (first | exact wr_i64 (by omega) | exact wr_u64 (by omega) | exact wr_u8 (by omega) | exact wr_i32 (by omega) | exact wr_u32 (by omega))); conv => whnf) | (refine WR_wrap ?_; conv => whnf) | (refine And.intro (a := indepB _ _ = true) ?_ ?_; (focus kernel_rfl); conv => whnf) | (refine And.intro rfl ?_; conv => whnf) | (refine And.intro ?_ ?_; (focus (first | omega | decide | (dsimp only; omega) | (simp at *; omega))); conv => whnf))
          all_goals first | contradiction | (exfalso; omega) | skip
          refine ⟨1, hp1, (by show c.pts.length - 1 < c.pts.length - 0; omega), ?_⟩
          conv => whnf
          repeat (first | exact rfl | exact trivial | exact Or.inl (fun _ _ => rfl) | exact (fun _ => rfl) | exact (fun _ _ => rfl) | exact Or.inl (fun _ hi => absurd hi (Nat.not_lt_zero _)) | (refine And.intro rfl ?_; conv => whnf) | (refine And.intro (Or.inl (fun _ _ => rfl)) ?_; conv => whnf) | (refine And.intro (fun _ => rfl) ?_; conv => whnf) | (refine And.intro (fun _ _ => rfl) ?_; conv => whnf) | (refine And.intro ?_ ?_; rotate_left; conv => whnf))
          all_goals first
            | (refine Or.inl fun j hj => rowCat_many (wordsR L) _ 3 2 (fun t ht => ?_) j hj
               have ht2 : t = 0 ∨ t = 1 := by omega
               rcases ht2 with rfl | rfl
               · exact congrArg (fun x => [A.str x]) gx.symm
               · exact congrArg (fun x => [A.str x]) gy.symm)
            | trace_state
        · have hci : cntW i = 3 * i + 2 := if_neg hi0
          have hcj : cntW (i + 1) = 3 * i + 5 := by unfold cntW; rw [if_neg (by omega)]; omega
          have ep : ((i : Int) - 1).toNat = i - 1 := by omega
          have hwn := hws (i - 1) (by omega)
          have tw := refText_c (G := G) (c.ws.getD (i - 1) 0) (i64_near hwn).1 (i64_near hwn).2
          have gw := (q5 (i - 1) (by omega)).2.2 (by omega)
          rw [show 3 * (i - 1) + 5 = 3 * i + 2 by omega] at gw
          rw [← ep] at tw
          conv => whnf
          repeat' (first | ((refine WA_renR (id := 10) 5 [0, 4] rfl rfl ?_; conv => whnf)) | refine WA_seq ?_ | (refine WA_region ttok ?_; conv => whnf) | (refine WA_draw ttok mixed ?_; conv => whnf) | (refine WA_cond ?_; conv => whnf) | refine WA_block ?_ | (refine WA_skip ?_; conv => whnf) | (refine WA_exit ?_; conv => whnf) | (refine WA_ret ?_; conv => whnf) | (refine And.intro (fun h => ?_) (fun h => ?_) <;> (try simp only [brsA] at h) <;> conv => whnf) | (refine Or.inl ?_; (conv => whnf); refine Exists.intro _ (And.intro (tw) ?_); conv => whnf) | (refine Or.inr (Or.inr (Or.inl ?_)); (conv => whnf); refine Exists.intro _ (And.intro (tw) ?_); conv => whnf) | (refine Exists.intro _ (And.intro (tw) ?_); conv => whnf) | (refine Or.inl ?_; (conv => whnf); refine Exists.intro _ (And.intro (tx) ?_); conv => whnf) | (refine Or.inr (Or.inr (Or.inl ?_)); (conv => whnf); refine Exists.intro _ (And.intro (tx) ?_); conv => whnf) | (refine Exists.intro _ (And.intro (tx) ?_); conv => whnf) | (refine Or.inl ?_; (conv => whnf); refine Exists.intro _ (And.intro (ty) ?_); conv => whnf) | (refine Or.inr (Or.inr (Or.inl ?_)); (conv => whnf); refine Exists.intro _ (And.intro (ty) ?_); conv => whnf) | (refine Exists.intro _ (And.intro (ty) ?_); conv => whnf) | (refine WR_fit ?_ ?_; (focus (first | exact wr_i64 (by omega) | exact wr_u64 (by omega) | exact wr_u8 (by omega) | exact wr_i32 (by omega) | exact wr_u32 (by omega))); conv => whnf) | (refine WR_wrap ?_; conv => whnf) | (refine And.intro (a := indepB _ _ = true) ?_ ?_; (focus kernel_rfl); conv => whnf) | (refine And.intro rfl ?_; conv => whnf) | (refine And.intro ?_ ?_; (focus (first | omega | decide | (dsimp only; omega) | (simp at *; omega))); conv => whnf))
          all_goals first | contradiction | (exfalso; omega) | skip
          refine ⟨i + 1, (by show i + 1 ≤ c.pts.length; omega), (by show c.pts.length - (i + 1) < c.pts.length - i; omega), ?_⟩
          conv => whnf
          repeat (first | exact rfl | exact trivial | exact Or.inl (fun _ _ => rfl) | exact (fun _ => rfl) | exact (fun _ _ => rfl) | exact Or.inl (fun _ hi => absurd hi (Nat.not_lt_zero _)) | (refine And.intro rfl ?_; conv => whnf) | (refine And.intro (Or.inl (fun _ _ => rfl)) ?_; conv => whnf) | (refine And.intro (fun _ => rfl) ?_; conv => whnf) | (refine And.intro (fun _ _ => rfl) ?_; conv => whnf) | (refine And.intro ?_ ?_; rotate_left; conv => whnf))
          all_goals first
            | omega
            | (refine Or.inl fun j hj => rowCat_two (wordsR L) _ _ (cntW i) 1 2 (fun t ht => ?_) (fun t ht => ?_) j hj
               · obtain rfl : t = 0 := by omega
                 rw [ep]
                 exact congrArg (fun x => [A.str x]) (show Lib.itoa (c.ws.getD (i - 1) 0) = L.getD (cntW i + 0) [] by rw [hci]; exact gw.symm)
               · have ht2 : t = 0 ∨ t = 1 := by omega
                 rcases ht2 with rfl | rfl
                 · exact congrArg (fun x => [A.str x]) (show Lib.itoa (c.pts.getD i (0, 0)).1 = L.getD (cntW i + 1 + 0) [] by rw [hci]; exact gx.symm)
                 · exact congrArg (fun x => [A.str x]) (show Lib.itoa (c.pts.getD i (0, 0)).2 = L.getD (cntW i + 1 + 1) [] by rw [hci]; exact gy.symm))
      · have hci : cntW i = L.length := by unfold cntW; rw [if_neg (by omega)]; omega
        conv => whnf
        repeat' (first | refine WA_seq ?_ | (refine WA_region ttok ?_; conv => whnf) | (refine WA_draw ttok mixed ?_; conv => whnf) | (refine WA_cond ?_; conv => whnf) | refine WA_block ?_ | (refine WA_skip ?_; conv => whnf) | (refine WA_exit ?_; conv => whnf) | (refine WA_ret ?_; conv => whnf) | (refine And.intro (fun h => ?_) (fun h => ?_) <;> (try simp only [brsA] at h) <;> conv => whnf) | (refine WR_fit ?_ ?_; (focus (first | exact wr_i64 (by omega) | exact wr_u64 (by omega) | exact wr_u8 (by omega) | exact wr_i32 (by omega) | exact wr_u32 (by omega))); conv => whnf) | (refine WR_wrap ?_; conv => whnf) | (refine And.intro (a := indepB _ _ = true) ?_ ?_; (focus kernel_rfl); conv => whnf) | (refine And.intro rfl ?_; conv => whnf) | (refine And.intro ?_ ?_; (focus (first | omega | decide | (dsimp only; omega) | (simp at *; omega))); conv => whnf))
        all_goals first | contradiction | (exfalso; omega) | skip
        exact Or.inl fun _ _ => rfl
end Go.Proofs.YtagokdeflnkplaaDoor

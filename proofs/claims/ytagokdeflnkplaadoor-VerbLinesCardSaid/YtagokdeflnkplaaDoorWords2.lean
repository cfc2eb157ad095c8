/-
  The walk of the reference's Words at any other command.
-/
import Derived.Test.YtagokdeflnkplaaDoorVerb3
import Derived.Test.YtagokdeflnkplaaDoorVerb4
import Derived.Test.YtagokdeflnkplaaDoorNum3
set_option linter.unusedSimpArgs false
namespace Go.Proofs.YtagokdeflnkplaaDoor
open Go.Proofs.YtagokdeflnkplaaDoor.Am Go.Lib
variable {G : GInv}
set_option maxRecDepth 100000 in
set_option maxHeartbeats 8000000 in
theorem rwds_n (c : Cm) (hm : mayV c) (h1 : c.k ≠ 1) : ACalls Tryd.prog G 73 [.agg (cmA c)] (strsA (lineW c)) := by
  have hr := (vmay_iff c).2 hm
  have hE := (near_eight c).1 hr.2.2.1
  have hn := rvname_c (G := G) c.k
  have ow0 : c.ow = false := by
    have := hr.2.1
    rw [this]; unfold bareC; rw [if_neg h1]
    repeat' (split; rfl)
    rfl
  by_cases h4 : c.k = 4 ∨ c.k = 5
  · have tf := refText_c (G := G) c.bf (i64_near hE.2.1).1 (i64_near hE.2.1).2
    have tt' := refText_c (G := G) c.bt (i64_near hE.2.2.1).1 (i64_near hE.2.2.1).2
    have hf0 : flagW c.k c.bo ≠ [] := by unfold flagW; rcases h4 with h4 | h4 <;> rw [h4] <;> split <;> decide
    have hL : lineW c = [nameL c.k, flagW c.k c.bo, Lib.itoa c.bf, Lib.itoa c.bt] := by
      unfold lineW insF allL
      rw [if_neg h1, if_neg h1, if_pos h4, ow0, Bool.false_or, if_pos hf0]; rfl
    have hy : c.bo = true → flagW c.k c.bo = [111, 110, 108, 121] := fun q => by rw [q]; rcases h4 with h4 | h4 <;> rw [h4] <;> rfl
    have hno : c.bo = false → flagW c.k c.bo = [110, 111] := fun q => by rw [q]; rcases h4 with h4 | h4 <;> rw [h4] <;> rfl
    rw [hL]
    generalize flagW c.k c.bo = F at *
    refine ACalls.of_WA ttok Tryd.func73 rfl rfl _ rfl ?_
    conv => whnf
    repeat' (first | refine WA_seq ?_ | (refine WA_region ttok ?_; conv => whnf) | (refine WA_draw ttok mixed ?_; conv => whnf) | (refine WA_cond ?_; conv => whnf) | refine WA_block ?_ | (refine WA_skip ?_; conv => whnf) | (refine WA_exit ?_; conv => whnf) | (refine WA_ret ?_; conv => whnf) | (refine And.intro (fun h => ?_) (fun h => ?_) <;> (try simp only [brsA] at h) <;> conv => whnf) | (refine Or.inl ?_; (conv => whnf); refine Exists.intro _ (And.intro (hn) ?_); conv => whnf) | (refine Or.inr (Or.inr (Or.inl ?_)); (conv => whnf); refine Exists.intro _ (And.intro (hn) ?_); conv => whnf) | (refine Exists.intro _ (And.intro (hn) ?_); conv => whnf) | (refine Or.inl ?_; (conv => whnf); refine Exists.intro _ (And.intro (tf) ?_); conv => whnf) | (refine Or.inr (Or.inr (Or.inl ?_)); (conv => whnf); refine Exists.intro _ (And.intro (tf) ?_); conv => whnf) | (refine Exists.intro _ (And.intro (tf) ?_); conv => whnf) | (refine Or.inl ?_; (conv => whnf); refine Exists.intro _ (And.intro (tt') ?_); conv => whnf) | (refine Or.inr (Or.inr (Or.inl ?_)); (conv => whnf); refine Exists.intro _ (And.intro (tt') ?_); conv => whnf) | (refine Exists.intro _ (And.intro (tt') ?_); conv => whnf) | (refine WR_fit ?_ ?_; (focus (first | exact wr_i64 (by omega) | exact wr_u64 (by omega) | exact wr_u8 (by omega) | exact wr_i32 (by omega) | exact wr_u32 (by omega))); conv => whnf) | (refine WR_wrap ?_; conv => whnf) | (refine And.intro (a := indepB _ _ = true) ?_ ?_; (focus kernel_rfl); conv => whnf) | (refine And.intro rfl ?_; conv => whnf) | (refine And.intro ?_ ?_; (focus (first | omega | decide | (dsimp only; omega) | (simp at *; omega))); conv => whnf))
    all_goals first | contradiction | (exfalso; omega) | skip
    all_goals first
      | (refine Or.inl fun j hj => ?_
         have hj4 : j = 0 ∨ j = 1 ∨ j = 2 ∨ j = 3 := by omega
         rcases hj4 with rfl | rfl | rfl | rfl
         · rfl
         · first | exact congrArg (fun x => [A.str x]) (hy (by assumption)).symm | exact congrArg (fun x => [A.str x]) (hno (by assumption)).symm
         · rfl
         · rfl)
      | trace_state
  · have fl0 : flagW c.k (c.ow || c.bo) = [] := by unfold flagW; rw [(noflag h1 h4).1, (noflag h1 h4).2]; simp
    have hL0 : lineW c = nameL c.k :: (allL c).map Lib.itoa := by
      unfold lineW insF
      rw [fl0, if_neg h1]; simp
    rw [hL0]
    unfold allL
    rw [if_neg h1, if_neg h4]
    have t1 := refText_c (G := G) c.p.1 (i64_near hE.2.2.2.1).1 (i64_near hE.2.2.2.1).2
    have t2 := refText_c (G := G) c.p.2 (i64_near hE.2.2.2.2.1).1 (i64_near hE.2.2.2.2.1).2
    have t3 := refText_c (G := G) c.q.1 (i64_near hE.2.2.2.2.2.1).1 (i64_near hE.2.2.2.2.2.1).2
    have t4 := refText_c (G := G) c.q.2 (i64_near hE.2.2.2.2.2.2.1).1 (i64_near hE.2.2.2.2.2.2.1).2
    have t0 := refText_c (G := G) c.id (i64_near hE.1).1 (i64_near hE.1).2
    by_cases h8 : c.k = 8
    · rw [if_pos h8]
      refine ACalls.of_WA ttok Tryd.func73 rfl rfl _ rfl ?_
      conv => whnf
      repeat' (first | refine WA_seq ?_ | (refine WA_region ttok ?_; conv => whnf) | (refine WA_draw ttok mixed ?_; conv => whnf) | (refine WA_cond ?_; conv => whnf) | refine WA_block ?_ | (refine WA_skip ?_; conv => whnf) | (refine WA_exit ?_; conv => whnf) | (refine WA_ret ?_; conv => whnf) | (refine And.intro (fun h => ?_) (fun h => ?_) <;> (try simp only [brsA] at h) <;> conv => whnf) | (refine Or.inl ?_; (conv => whnf); refine Exists.intro _ (And.intro (hn) ?_); conv => whnf) | (refine Or.inr (Or.inr (Or.inl ?_)); (conv => whnf); refine Exists.intro _ (And.intro (hn) ?_); conv => whnf) | (refine Exists.intro _ (And.intro (hn) ?_); conv => whnf) | (refine Or.inl ?_; (conv => whnf); refine Exists.intro _ (And.intro (t1) ?_); conv => whnf) | (refine Or.inr (Or.inr (Or.inl ?_)); (conv => whnf); refine Exists.intro _ (And.intro (t1) ?_); conv => whnf) | (refine Exists.intro _ (And.intro (t1) ?_); conv => whnf) | (refine Or.inl ?_; (conv => whnf); refine Exists.intro _ (And.intro (t2) ?_); conv => whnf) | (refine Or.inr (Or.inr (Or.inl ?_)); (conv => whnf); refine Exists.intro _ (And.intro (t2) ?_); conv => whnf) | (refine Exists.intro _ (And.intro (t2) ?_); conv => whnf) | (refine WR_fit ?_ ?_; (focus (first | exact wr_i64 (by omega) | exact wr_u64 (by omega) | exact wr_u8 (by omega) | exact wr_i32 (by omega) | exact wr_u32 (by omega))); conv => whnf) | (refine WR_wrap ?_; conv => whnf) | (refine And.intro (a := indepB _ _ = true) ?_ ?_; (focus kernel_rfl); conv => whnf) | (refine And.intro rfl ?_; conv => whnf) | (refine And.intro ?_ ?_; (focus (first | omega | decide | (dsimp only; omega) | (simp at *; omega))); conv => whnf))
      all_goals first | contradiction | (exfalso; omega) | skip
      all_goals first
        | (refine Or.inl fun j hj => ?_
           have hj4 : j = 0 ∨ j = 1 ∨ j = 2 := by omega
           rcases hj4 with rfl | rfl | rfl <;> rfl)
        | trace_state
    · rw [if_neg h8]
      by_cases h9 : c.k = 9 ∨ c.k = 10
      · rw [if_pos h9]
        refine ACalls.of_WA ttok Tryd.func73 rfl rfl _ rfl ?_
        conv => whnf
        repeat' (first | refine WA_seq ?_ | (refine WA_region ttok ?_; conv => whnf) | (refine WA_draw ttok mixed ?_; conv => whnf) | (refine WA_cond ?_; conv => whnf) | refine WA_block ?_ | (refine WA_skip ?_; conv => whnf) | (refine WA_exit ?_; conv => whnf) | (refine WA_ret ?_; conv => whnf) | (refine And.intro (fun h => ?_) (fun h => ?_) <;> (try simp only [brsA] at h) <;> conv => whnf) | (refine Or.inl ?_; (conv => whnf); refine Exists.intro _ (And.intro (hn) ?_); conv => whnf) | (refine Or.inr (Or.inr (Or.inl ?_)); (conv => whnf); refine Exists.intro _ (And.intro (hn) ?_); conv => whnf) | (refine Exists.intro _ (And.intro (hn) ?_); conv => whnf) | (refine Or.inl ?_; (conv => whnf); refine Exists.intro _ (And.intro (t1) ?_); conv => whnf) | (refine Or.inr (Or.inr (Or.inl ?_)); (conv => whnf); refine Exists.intro _ (And.intro (t1) ?_); conv => whnf) | (refine Exists.intro _ (And.intro (t1) ?_); conv => whnf) | (refine Or.inl ?_; (conv => whnf); refine Exists.intro _ (And.intro (t2) ?_); conv => whnf) | (refine Or.inr (Or.inr (Or.inl ?_)); (conv => whnf); refine Exists.intro _ (And.intro (t2) ?_); conv => whnf) | (refine Exists.intro _ (And.intro (t2) ?_); conv => whnf) | (refine Or.inl ?_; (conv => whnf); refine Exists.intro _ (And.intro (t3) ?_); conv => whnf) | (refine Or.inr (Or.inr (Or.inl ?_)); (conv => whnf); refine Exists.intro _ (And.intro (t3) ?_); conv => whnf) | (refine Exists.intro _ (And.intro (t3) ?_); conv => whnf) | (refine Or.inl ?_; (conv => whnf); refine Exists.intro _ (And.intro (t4) ?_); conv => whnf) | (refine Or.inr (Or.inr (Or.inl ?_)); (conv => whnf); refine Exists.intro _ (And.intro (t4) ?_); conv => whnf) | (refine Exists.intro _ (And.intro (t4) ?_); conv => whnf) | (refine WR_fit ?_ ?_; (focus (first | exact wr_i64 (by omega) | exact wr_u64 (by omega) | exact wr_u8 (by omega) | exact wr_i32 (by omega) | exact wr_u32 (by omega))); conv => whnf) | (refine WR_wrap ?_; conv => whnf) | (refine And.intro (a := indepB _ _ = true) ?_ ?_; (focus kernel_rfl); conv => whnf) | (refine And.intro rfl ?_; conv => whnf) | (refine And.intro ?_ ?_; (focus (first | omega | decide | (dsimp only; omega) | (simp at *; omega))); conv => whnf))
        all_goals first | contradiction | (exfalso; omega) | skip
        all_goals first
          | (refine Or.inl fun j hj => ?_
             have hj4 : j = 0 ∨ j = 1 ∨ j = 2 ∨ j = 3 ∨ j = 4 := by omega
             rcases hj4 with rfl | rfl | rfl | rfl | rfl <;> rfl)
          | trace_state
      · rw [if_neg h9]
        by_cases h2 : c.k = 2 ∨ c.k = 6 ∨ c.k = 11 ∨ c.k = 12
        · rw [if_pos h2]
          refine ACalls.of_WA ttok Tryd.func73 rfl rfl _ rfl ?_
          conv => whnf
          repeat' (first | refine WA_seq ?_ | (refine WA_region ttok ?_; conv => whnf) | (refine WA_draw ttok mixed ?_; conv => whnf) | (refine WA_cond ?_; conv => whnf) | refine WA_block ?_ | (refine WA_skip ?_; conv => whnf) | (refine WA_exit ?_; conv => whnf) | (refine WA_ret ?_; conv => whnf) | (refine And.intro (fun h => ?_) (fun h => ?_) <;> (try simp only [brsA] at h) <;> conv => whnf) | (refine Or.inl ?_; (conv => whnf); refine Exists.intro _ (And.intro (hn) ?_); conv => whnf) | (refine Or.inr (Or.inr (Or.inl ?_)); (conv => whnf); refine Exists.intro _ (And.intro (hn) ?_); conv => whnf) | (refine Exists.intro _ (And.intro (hn) ?_); conv => whnf) | (refine Or.inl ?_; (conv => whnf); refine Exists.intro _ (And.intro (t0) ?_); conv => whnf) | (refine Or.inr (Or.inr (Or.inl ?_)); (conv => whnf); refine Exists.intro _ (And.intro (t0) ?_); conv => whnf) | (refine Exists.intro _ (And.intro (t0) ?_); conv => whnf) | (refine WR_fit ?_ ?_; (focus (first | exact wr_i64 (by omega) | exact wr_u64 (by omega) | exact wr_u8 (by omega) | exact wr_i32 (by omega) | exact wr_u32 (by omega))); conv => whnf) | (refine WR_wrap ?_; conv => whnf) | (refine And.intro (a := indepB _ _ = true) ?_ ?_; (focus kernel_rfl); conv => whnf) | (refine And.intro rfl ?_; conv => whnf) | (refine And.intro ?_ ?_; (focus (first | omega | decide | (dsimp only; omega) | (simp at *; omega))); conv => whnf))
          all_goals first | contradiction | (exfalso; omega) | skip
          all_goals first
            | (refine Or.inl fun j hj => ?_
               have hj4 : j = 0 ∨ j = 1 := by omega
               rcases hj4 with rfl | rfl <;> rfl)
            | trace_state
        · rw [if_neg h2]
          refine ACalls.of_WA ttok Tryd.func73 rfl rfl _ rfl ?_
          conv => whnf
          repeat' (first | refine WA_seq ?_ | (refine WA_region ttok ?_; conv => whnf) | (refine WA_draw ttok mixed ?_; conv => whnf) | (refine WA_cond ?_; conv => whnf) | refine WA_block ?_ | (refine WA_skip ?_; conv => whnf) | (refine WA_exit ?_; conv => whnf) | (refine WA_ret ?_; conv => whnf) | (refine And.intro (fun h => ?_) (fun h => ?_) <;> (try simp only [brsA] at h) <;> conv => whnf) | (refine Or.inl ?_; (conv => whnf); refine Exists.intro _ (And.intro (hn) ?_); conv => whnf) | (refine Or.inr (Or.inr (Or.inl ?_)); (conv => whnf); refine Exists.intro _ (And.intro (hn) ?_); conv => whnf) | (refine Exists.intro _ (And.intro (hn) ?_); conv => whnf) | (refine WR_fit ?_ ?_; (focus (first | exact wr_i64 (by omega) | exact wr_u64 (by omega) | exact wr_u8 (by omega) | exact wr_i32 (by omega) | exact wr_u32 (by omega))); conv => whnf) | (refine WR_wrap ?_; conv => whnf) | (refine And.intro (a := indepB _ _ = true) ?_ ?_; (focus kernel_rfl); conv => whnf) | (refine And.intro rfl ?_; conv => whnf) | (refine And.intro ?_ ?_; (focus (first | omega | decide | (dsimp only; omega) | (simp at *; omega))); conv => whnf))
          all_goals first | contradiction | (exfalso; omega) | skip
          all_goals first
            | (refine Or.inl fun j hj => ?_
               obtain rfl : j = 0 := by omega
               rfl)
            | trace_state
end Go.Proofs.YtagokdeflnkplaaDoor

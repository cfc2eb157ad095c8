/-
  Texts of spots, as far as the law's example goes.
-/
import Derived.Test.YtcomiiakkhafpaaGreatSpot2
import Derived.Test.YtcomiiakkhafpaaGreatShelf
import Derived.Lib.Join
set_option linter.unusedSimpArgs false
set_option linter.unusedSectionVars false
namespace Go.Proofs.YtcomiiakkhafpaaGreat
open Go.Proofs.YtcomiiakkhafpaaGreat.Am Go.Lib
open Go.RowKit (Below)
variable [Inhabited DRT]
variable {G : GInv}
/-! ### Texts of spots: as far as the example goes -/
def rowStr (l : List (List UInt8)) : Nat → List A := fun i => [.str (l.getD i [])]
def strsA (l : List (List UInt8)) : A := .sl l.length 1 (rowStr l)
theorem strI_inv {im : Nat → Prop} {w : World} {s : List UInt8} {v : Value} (h : RelI im w (.str s) v) : v = .string ⟨s.toArray⟩ := by cases h; rfl
theorem join_c (hns : (default : DRT).ns) (l : List (List UInt8)) (sep : List UInt8) (hl : l.length ≤ 1000000) (hj : (join l sep).length ≤ 1000000) : ACalls Tryz.prog G 49 [strsA l, .str sep] (.str (join l sep)) := by
  refine ⟨⟨_, _, Tryz.func49, rfl, by kernel_rfl⟩, ?_⟩
  intro im w vs him hG hlen hr
  match vs, hlen with
  | [a, b], _ =>
    have h0 : RelI im w (.sl l.length 1 (rowStr l)) a := hr 0 (by simp) (by simp)
    have h1 : RelI im w (.str sep) b := hr 1 (by simp) (by simp)
    obtain rfl := strI_inv h1
    have none : ∀ (x : Option Addr) (c : Nat), l = [] → Calls Tryz.prog 49 #[.slice x 0 c, .string ⟨sep.toArray⟩] w fun e w' => ∃ v, e = .returned v ∧ RelI (fun b => im b ∨ (w.heap.size ≤ b ∧ b < w'.heap.size)) w' (.str (join l sep)) v ∧ Bw w.heap.size w w' := by
      rintro x c rfl
      refine Calls_mono (Tryz.strings_Join_none x c ⟨sep.toArray⟩ w) ?_
      rintro e w' ⟨rfl, rfl⟩
      exact ⟨_, rfl, .str [], Bw.refl _ _⟩
    generalize hn : l.length = n at h0
    cases h0 with
    | sl0 => exact none _ _ (List.length_eq_zero_iff.1 hn)
    | sle => exact none _ _ (List.length_eq_zero_iff.1 hn)
    | sl _ _ _ blk base cap vs hb hcap hll hc ho hrr =>
      subst hn
      have hxs : (l.map fun x => (⟨x.toArray⟩ : ByteArray)).map (fun x => x.data.toList) = l := by
        rw [List.map_map]; simp [Function.comp_def]
      have hmain := Tryz.strings_Join blk base cap (l.map fun x => ⟨x.toArray⟩) ⟨sep.toArray⟩ w ?_ (him blk hb) (by simp; omega) (by simpa using hcap) (by rw [hxs]; simpa using Nat.le_trans hj (by omega))
      · rw [hxs, List.length_map] at hmain
        refine Calls_mono hmain ?_
        rintro e w' ⟨rfl, hbl⟩
        exact ⟨_, rfl, .str _, ⟨hbl.os, hbl.tape, hbl.output, hbl.size, hbl.block, Or.inl hns⟩⟩
      · intro j x hx
        have hj : j < l.length := by
          rcases Nat.lt_or_ge j l.length with h | h
          · exact h
          · rw [List.getElem?_eq_none (by simpa using h)] at hx; cases hx
        rw [List.getElem?_map, List.getElem?_eq_getElem hj] at hx
        have hx := Option.some.inj hx
        have c1 := hc j 0 hj (by omega)
        rw [show base + j * 1 + 0 = base + j by omega] at c1
        have r1 := hrr j 0 hj (by simp [rowStr])
        have r1 : RelI im w (.str (l.getD j [])) (vs j 0) := r1
        rw [c1, strI_inv r1, ← hx]
        simp [List.getD_eq_getElem?_getD, hj]
set_option maxRecDepth 100000 in
theorem rev1_c (r : Nat → List A) : MCalls Tryz.prog G 102 [.own 1] [.ghost [.own 1, .junk], .row 5 1 1 r] (.tup []) [.ghost [.own 1, .junk], .row 5 1 1 r] := by
  refine MCalls.of_WA ttok Tryz.func102 rfl rfl _ rfl ?_
  conv => whnf
  repeat' (first | refine WA_seq ?_ | refine WA_block ?_ | ((first | refine WA_region ttok ?_ | refine WA_draw ttok mixed ?_ | refine WA_cond ?_ | refine WA_skip ?_ | refine WA_exit ?_ | refine WA_ret ?_); conv => whnf) | (refine And.intro (fun h => ?_) (fun h => ?_) <;> (try simp only [brsA] at h) <;> conv => whnf) | (refine WR_fit ?_ ?_; (focus (first | exact wr_i64 (by omega) | exact wr_u64 (by omega) | exact wr_u8 (by omega) | exact wr_i32 (by omega) | exact wr_u32 (by omega))); conv => whnf) | ((first | refine WR_wrap ?_ | (refine And.intro (a := indepB _ _ = true) ?_ ?_; (focus kernel_rfl)) | refine And.intro rfl ?_ | (refine And.intro ?_ ?_; (focus (first | omega | decide | (dsimp only; omega) | (simp at *; omega))))); conv => whnf))
  all_goals first | contradiction | (exfalso; omega) | skip
  refine WA_loopI (fun _ : Unit => True) (fun _ => [(2, .int .i64 0), (3, .int .i64 0)]) (fun _ => [.ghost [.own 1, .junk], .row 5 1 1 r]) (fun _ => 0) () trivial ?_ ?_
  · conv => whnf
    repeat (first | exact rfl | exact trivial | exact Or.inl (fun _ _ => rfl) | exact (fun _ => rfl) | exact (fun _ _ => rfl) | exact Or.inl (fun _ hi => absurd hi (Nat.not_lt_zero _)) | ((first | refine And.intro rfl ?_ | refine And.intro (Or.inl (fun _ _ => rfl)) ?_ | refine And.intro (fun _ => rfl) ?_ | refine And.intro (fun _ _ => rfl) ?_ | (refine And.intro ?_ ?_; rotate_left)); conv => whnf))
    all_goals trace_state
  · intro _ _
    conv => whnf
    repeat' (first | refine WA_seq ?_ | refine WA_block ?_ | ((first | refine WA_region ttok ?_ | refine WA_draw ttok mixed ?_ | refine WA_cond ?_ | refine WA_skip ?_ | refine WA_exit ?_ | refine WA_ret ?_); conv => whnf) | (refine And.intro (fun h => ?_) (fun h => ?_) <;> (try simp only [brsA] at h) <;> conv => whnf) | (refine WR_fit ?_ ?_; (focus (first | exact wr_i64 (by omega) | exact wr_u64 (by omega) | exact wr_u8 (by omega) | exact wr_i32 (by omega) | exact wr_u32 (by omega))); conv => whnf) | ((first | refine WR_wrap ?_ | (refine And.intro (a := indepB _ _ = true) ?_ ?_; (focus kernel_rfl)) | refine And.intro rfl ?_ | (refine And.intro ?_ ?_; (focus (first | omega | decide | (dsimp only; omega) | (simp at *; omega))))); conv => whnf))
    all_goals first | contradiction | (exfalso; omega) | skip
    all_goals exact Or.inl fun _ _ => rfl
set_option maxRecDepth 100000 in
theorem text_1 : ACalls Tryz.prog G 51 [wide1 1] (.str [49]) := by
  have hs := short_c (G := G) 1 10 (by rw [pow512]; omega) (by omega) (by omega)
  have hz := wideZero_c (G := G) 0 (by rw [pow512]; omega)
  rw [show 1 / 10 = 0 from rfl, show 1 % 10 = 1 from rfl, wide1_eq (b := 1) (by omega), wide1_eq (b := 0) (by omega)] at hs
  rw [decide_eq_true rfl, wide1_eq (b := 0) (by omega)] at hz
  unfold wide1 at *
  refine ACalls.of_WA ttok Tryz.func51 rfl rfl _ rfl ?_
  conv => whnf
  repeat (first | refine WA_seq ?_ | refine WA_block ?_ | ((first | refine WA_region ttok ?_ | refine WA_draw ttok mixed ?_ | refine WA_cond ?_ | refine WA_skip ?_ | refine WA_exit ?_ | refine WA_ret ?_); conv => whnf))
  refine WA_loopI (fun _ : Unit => True) (fun _ => [(3, .nils)]) (fun _ => [.box 30 [.int .u64 (1 : Nat), .int .u64 0, .int .u64 0, .int .u64 0, .int .u64 0, .int .u64 0, .int .u64 0, .int .u64 0]]) (fun _ => 0) () trivial ?_ ?_
  · conv => whnf
    repeat (first | exact rfl | exact trivial | exact Or.inl (fun _ _ => rfl) | exact (fun _ => rfl) | exact (fun _ _ => rfl) | exact Or.inl (fun _ hi => absurd hi (Nat.not_lt_zero _)) | ((first | refine And.intro rfl ?_ | refine And.intro (Or.inl (fun _ _ => rfl)) ?_ | refine And.intro (fun _ => rfl) ?_ | refine And.intro (fun _ _ => rfl) ?_ | (refine And.intro ?_ ?_; rotate_left)); conv => whnf))
    all_goals trace_state
  · intro _ _
    conv => whnf
    repeat' (first | refine WA_seq ?_ | refine WA_block ?_ | ((first | refine WA_region ttok ?_ | refine WA_draw ttok mixed ?_ | refine WA_cond ?_ | refine WA_skip ?_ | refine WA_exit ?_ | refine WA_ret ?_); conv => whnf) | (refine And.intro (fun h => ?_) (fun h => ?_) <;> (try simp only [brsA] at h) <;> conv => whnf) | (refine Or.inl ?_; (conv => whnf); refine ⟨_, hs, ?_⟩; conv => whnf) | (refine Or.inr (Or.inr (Or.inl ?_)); (conv => whnf); refine ⟨_, hs, ?_⟩; conv => whnf) | (refine Exists.intro _ (And.intro (hs) ?_); conv => whnf) | (refine Or.inl ?_; (conv => whnf); refine ⟨_, hz, ?_⟩; conv => whnf) | (refine Or.inr (Or.inr (Or.inl ?_)); (conv => whnf); refine ⟨_, hz, ?_⟩; conv => whnf) | (refine Exists.intro _ (And.intro (hz) ?_); conv => whnf) | (refine Or.inr (Or.inl ?_); (conv => whnf); refine ⟨_, _, rev1_c _, ?_⟩; conv => whnf) | (refine Exists.intro _ (And.intro (rev1_c _) ?_); conv => whnf) | (refine WR_fit ?_ ?_; (focus (first | exact wr_i64 (by omega) | exact wr_u64 (by omega) | exact wr_u8 (by omega) | exact wr_i32 (by omega) | exact wr_u32 (by omega))); conv => whnf) | ((first | refine WR_wrap ?_ | (refine And.intro (a := indepB _ _ = true) ?_ ?_; (focus kernel_rfl)) | refine And.intro rfl ?_ | (refine And.intro ?_ ?_; (focus (first | omega | decide | (dsimp only; omega) | (simp at *; omega))))); conv => whnf))
    all_goals first | contradiction | (exfalso; omega) | rfl | skip
    all_goals trace_state
set_option maxRecDepth 100000 in
theorem text_2 : ACalls Tryz.prog G 51 [wide1 2] (.str [50]) := by
  have hs := short_c (G := G) 2 10 (by rw [pow512]; omega) (by omega) (by omega)
  have hz := wideZero_c (G := G) 0 (by rw [pow512]; omega)
  rw [show 2 / 10 = 0 from rfl, show 2 % 10 = 2 from rfl, wide1_eq (b := 2) (by omega), wide1_eq (b := 0) (by omega)] at hs
  rw [decide_eq_true rfl, wide1_eq (b := 0) (by omega)] at hz
  unfold wide1 at *
  refine ACalls.of_WA ttok Tryz.func51 rfl rfl _ rfl ?_
  conv => whnf
  repeat (first | refine WA_seq ?_ | refine WA_block ?_ | ((first | refine WA_region ttok ?_ | refine WA_draw ttok mixed ?_ | refine WA_cond ?_ | refine WA_skip ?_ | refine WA_exit ?_ | refine WA_ret ?_); conv => whnf))
  refine WA_loopI (fun _ : Unit => True) (fun _ => [(3, .nils)]) (fun _ => [.box 30 [.int .u64 (2 : Nat), .int .u64 0, .int .u64 0, .int .u64 0, .int .u64 0, .int .u64 0, .int .u64 0, .int .u64 0]]) (fun _ => 0) () trivial ?_ ?_
  · conv => whnf
    repeat (first | exact rfl | exact trivial | exact Or.inl (fun _ _ => rfl) | exact (fun _ => rfl) | exact (fun _ _ => rfl) | exact Or.inl (fun _ hi => absurd hi (Nat.not_lt_zero _)) | ((first | refine And.intro rfl ?_ | refine And.intro (Or.inl (fun _ _ => rfl)) ?_ | refine And.intro (fun _ => rfl) ?_ | refine And.intro (fun _ _ => rfl) ?_ | (refine And.intro ?_ ?_; rotate_left)); conv => whnf))
    all_goals trace_state
  · intro _ _
    conv => whnf
    repeat' (first | refine WA_seq ?_ | refine WA_block ?_ | ((first | refine WA_region ttok ?_ | refine WA_draw ttok mixed ?_ | refine WA_cond ?_ | refine WA_skip ?_ | refine WA_exit ?_ | refine WA_ret ?_); conv => whnf) | (refine And.intro (fun h => ?_) (fun h => ?_) <;> (try simp only [brsA] at h) <;> conv => whnf) | (refine Or.inl ?_; (conv => whnf); refine ⟨_, hs, ?_⟩; conv => whnf) | (refine Or.inr (Or.inr (Or.inl ?_)); (conv => whnf); refine ⟨_, hs, ?_⟩; conv => whnf) | (refine Exists.intro _ (And.intro (hs) ?_); conv => whnf) | (refine Or.inl ?_; (conv => whnf); refine ⟨_, hz, ?_⟩; conv => whnf) | (refine Or.inr (Or.inr (Or.inl ?_)); (conv => whnf); refine ⟨_, hz, ?_⟩; conv => whnf) | (refine Exists.intro _ (And.intro (hz) ?_); conv => whnf) | (refine Or.inr (Or.inl ?_); (conv => whnf); refine ⟨_, _, rev1_c _, ?_⟩; conv => whnf) | (refine Exists.intro _ (And.intro (rev1_c _) ?_); conv => whnf) | (refine WR_fit ?_ ?_; (focus (first | exact wr_i64 (by omega) | exact wr_u64 (by omega) | exact wr_u8 (by omega) | exact wr_i32 (by omega) | exact wr_u32 (by omega))); conv => whnf) | ((first | refine WR_wrap ?_ | (refine And.intro (a := indepB _ _ = true) ?_ ?_; (focus kernel_rfl)) | refine And.intro rfl ?_ | (refine And.intro ?_ ?_; (focus (first | omega | decide | (dsimp only; omega) | (simp at *; omega))))); conv => whnf))
    all_goals first | contradiction | (exfalso; omega) | rfl | skip
    all_goals trace_state
theorem int_1 : intN 1 = .agg [.sb false, .int .u64 1, .int .u64 0, .int .u64 0, .int .u64 0, .int .u64 0, .int .u64 0, .int .u64 0, .int .u64 0] := rfl
theorem spot_112 : spotA 1 1 2 = .agg [.sb false, .int .u64 1, .int .u64 0, .int .u64 0, .int .u64 0, .int .u64 0, .int .u64 0, .int .u64 0, .int .u64 0, .sb false, .int .u64 1, .int .u64 0, .int .u64 0, .int .u64 0, .int .u64 0, .int .u64 0, .int .u64 0, .int .u64 0, .int .u64 2, .int .u64 0, .int .u64 0, .int .u64 0, .int .u64 0, .int .u64 0, .int .u64 0, .int .u64 0] := rfl
set_option maxRecDepth 100000 in
theorem stext_1 : ACalls Tryz.prog G 50 [.agg [.sb false, .int .u64 1, .int .u64 0, .int .u64 0, .int .u64 0, .int .u64 0, .int .u64 0, .int .u64 0, .int .u64 0]] (.str [49]) := by
  have hf := fixI_c (G := G) 1 (by decide)
  have ht := text_1 (G := G)
  rw [int_1] at hf
  unfold wide1 at ht
  refine ACalls.of_WA ttok Tryz.func50 rfl rfl _ rfl ?_
  conv => whnf
  repeat' (first | refine WA_seq ?_ | refine WA_block ?_ | ((first | refine WA_region ttok ?_ | refine WA_draw ttok mixed ?_ | refine WA_cond ?_ | refine WA_skip ?_ | refine WA_exit ?_ | refine WA_ret ?_); conv => whnf) | (refine And.intro (fun h => ?_) (fun h => ?_) <;> (try simp only [brsA] at h) <;> conv => whnf) | (refine Or.inl ?_; (conv => whnf); refine ⟨_, hf, ?_⟩; conv => whnf) | (refine Or.inr (Or.inr (Or.inl ?_)); (conv => whnf); refine ⟨_, hf, ?_⟩; conv => whnf) | (refine Exists.intro _ (And.intro (hf) ?_); conv => whnf) | (refine Or.inl ?_; (conv => whnf); refine ⟨_, ht, ?_⟩; conv => whnf) | (refine Or.inr (Or.inr (Or.inl ?_)); (conv => whnf); refine ⟨_, ht, ?_⟩; conv => whnf) | (refine Exists.intro _ (And.intro (ht) ?_); conv => whnf) | (refine WR_fit ?_ ?_; (focus (first | exact wr_i64 (by omega) | exact wr_u64 (by omega) | exact wr_u8 (by omega) | exact wr_i32 (by omega) | exact wr_u32 (by omega))); conv => whnf) | ((first | refine WR_wrap ?_ | (refine And.intro (a := indepB _ _ = true) ?_ ?_; (focus kernel_rfl)) | refine And.intro rfl ?_ | (refine And.intro ?_ ?_; (focus (first | omega | decide | (dsimp only; omega) | (simp at *; omega))))); conv => whnf))
  all_goals first | contradiction | (exfalso; omega) | rfl | skip
  all_goals trace_state
theorem norm_112 : NormP 1 1 2 := ⟨by decide, by decide, by decide, by decide, by decide⟩
theorem lit_join (hj : ACalls Tryz.prog G 49 [strsA [[49], [49], [50]], .str [32]] (.str [49, 32, 49, 32, 50])) : ACalls Tryz.prog G 49 [.sl 3 1 (fun i => takeL 1 (List.drop (i * 1) [.str [49], .str [49], .str [50]])), .str [32]] (.str [49, 32, 49, 32, 50]) := hj.fit (by
  conv => whnf
  repeat (first | exact rfl | exact trivial | exact Or.inl (fun _ _ => rfl) | exact (fun _ => rfl) | exact (fun _ _ => rfl) | exact Or.inl (fun _ hi => absurd hi (Nat.not_lt_zero _)) | ((first | refine And.intro rfl ?_ | refine And.intro (Or.inl (fun _ _ => rfl)) ?_ | refine And.intro (fun _ => rfl) ?_ | refine And.intro (fun _ _ => rfl) ?_ | (refine And.intro ?_ ?_; rotate_left)); conv => whnf))
  all_goals (refine Or.inl fun i hi => ?_; rcases i with _ | _ | _ | _ | i <;> first | rfl | omega))
set_option maxRecDepth 100000 in
theorem sptext_c (hj : ACalls Tryz.prog G 49 [strsA [[49], [49], [50]], .str [32]] (.str [49, 32, 49, 32, 50])) : ACalls Tryz.prog G 14 [.agg [.sb false, .int .u64 1, .int .u64 0, .int .u64 0, .int .u64 0, .int .u64 0, .int .u64 0, .int .u64 0, .int .u64 0, .sb false, .int .u64 1, .int .u64 0, .int .u64 0, .int .u64 0, .int .u64 0, .int .u64 0, .int .u64 0, .int .u64 0, .int .u64 2, .int .u64 0, .int .u64 0, .int .u64 0, .int .u64 0, .int .u64 0, .int .u64 0, .int .u64 0]] (.str [49, 32, 49, 32, 50]) := by
  have h1 := stext_1 (G := G)
  have h2 := text_2 (G := G)
  have h3 := lit_join hj
  unfold wide1 at h2
  refine ACalls.of_WA ttok Tryz.func14 rfl rfl _ rfl ?_
  conv => whnf
  repeat' (first | refine WA_seq ?_ | refine WA_block ?_ | ((first | refine WA_region ttok ?_ | refine WA_draw ttok mixed ?_ | refine WA_cond ?_ | refine WA_skip ?_ | refine WA_exit ?_ | refine WA_ret ?_); conv => whnf) | (refine And.intro (fun h => ?_) (fun h => ?_) <;> (try simp only [brsA] at h) <;> conv => whnf) | (refine Or.inl ?_; (conv => whnf); refine ⟨_, h1, ?_⟩; conv => whnf) | (refine Or.inr (Or.inr (Or.inl ?_)); (conv => whnf); refine ⟨_, h1, ?_⟩; conv => whnf) | (refine Exists.intro _ (And.intro (h1) ?_); conv => whnf) | (refine Or.inl ?_; (conv => whnf); refine ⟨_, h2, ?_⟩; conv => whnf) | (refine Or.inr (Or.inr (Or.inl ?_)); (conv => whnf); refine ⟨_, h2, ?_⟩; conv => whnf) | (refine Exists.intro _ (And.intro (h2) ?_); conv => whnf) | (refine Or.inl ?_; (conv => whnf); refine ⟨_, h3, ?_⟩; conv => whnf) | (refine Or.inr (Or.inr (Or.inl ?_)); (conv => whnf); refine ⟨_, h3, ?_⟩; conv => whnf) | (refine Exists.intro _ (And.intro (h3) ?_); conv => whnf) | (refine WR_fit ?_ ?_; (focus (first | exact wr_i64 (by omega) | exact wr_u64 (by omega) | exact wr_u8 (by omega) | exact wr_i32 (by omega) | exact wr_u32 (by omega))); conv => whnf) | ((first | refine WR_wrap ?_ | (refine And.intro (a := indepB _ _ = true) ?_ ?_; (focus kernel_rfl)) | refine And.intro rfl ?_ | (refine And.intro ?_ ?_; (focus (first | omega | decide | (dsimp only; omega) | (simp at *; omega))))); conv => whnf))
  all_goals first | contradiction | (exfalso; omega) | rfl | skip
  all_goals trace_state
set_option maxRecDepth 100000 in
theorem rAt_301 : ACalls Tryz.prog G 30 [.agg [.int .i64 3, .int .i64 0]] (.agg [.sb false, .int .u64 3, .int .u64 0, .int .u64 0, .int .u64 0, .int .u64 0, .int .u64 0, .int .u64 0, .int .u64 0, .sb false, .int .u64 0, .int .u64 0, .int .u64 0, .int .u64 0, .int .u64 0, .int .u64 0, .int .u64 0, .int .u64 0, .int .u64 1, .int .u64 0, .int .u64 0, .int .u64 0, .int .u64 0, .int .u64 0, .int .u64 0, .int .u64 0]) := by
  have o1 := of5_c (G := G) 3 (by decide) (by decide)
  have o2 := of5_c (G := G) 0 (by decide) (by decide)
  have e1 : intN 3 = .agg [.sb false, .int .u64 3, .int .u64 0, .int .u64 0, .int .u64 0, .int .u64 0, .int .u64 0, .int .u64 0, .int .u64 0] := rfl
  have e2 : intN 0 = .agg [.sb false, .int .u64 0, .int .u64 0, .int .u64 0, .int .u64 0, .int .u64 0, .int .u64 0, .int .u64 0, .int .u64 0] := rfl
  rw [e1] at o1
  rw [e2] at o2
  refine ACalls.of_WA ttok Tryz.func30 rfl rfl _ rfl ?_
  conv => whnf
  repeat' (first | refine WA_seq ?_ | refine WA_block ?_ | ((first | refine WA_region ttok ?_ | refine WA_draw ttok mixed ?_ | refine WA_cond ?_ | refine WA_skip ?_ | refine WA_exit ?_ | refine WA_ret ?_); conv => whnf) | (refine And.intro (fun h => ?_) (fun h => ?_) <;> (try simp only [brsA] at h) <;> conv => whnf) | (refine Or.inl ?_; (conv => whnf); refine ⟨_, o1, ?_⟩; conv => whnf) | (refine Or.inr (Or.inr (Or.inl ?_)); (conv => whnf); refine ⟨_, o1, ?_⟩; conv => whnf) | (refine Exists.intro _ (And.intro (o1) ?_); conv => whnf) | (refine Or.inl ?_; (conv => whnf); refine ⟨_, o2, ?_⟩; conv => whnf) | (refine Or.inr (Or.inr (Or.inl ?_)); (conv => whnf); refine ⟨_, o2, ?_⟩; conv => whnf) | (refine Exists.intro _ (And.intro (o2) ?_); conv => whnf) | (refine WR_fit ?_ ?_; (focus (first | exact wr_i64 (by omega) | exact wr_u64 (by omega) | exact wr_u8 (by omega) | exact wr_i32 (by omega) | exact wr_u32 (by omega))); conv => whnf) | ((first | refine WR_wrap ?_ | (refine And.intro (a := indepB _ _ = true) ?_ ?_; (focus kernel_rfl)) | refine And.intro rfl ?_ | (refine And.intro ?_ ?_; (focus (first | omega | decide | (dsimp only; omega) | (simp at *; omega))))); conv => whnf))
  all_goals first | contradiction | (exfalso; omega) | rfl | skip
  all_goals trace_state
set_option maxRecDepth 100000 in
theorem sawake_c (hj : ACalls Tryz.prog G 49 [strsA [[49], [49], [50]], .str [32]] (.str [49, 32, 49, 32, 50])) : ACalls Tryz.prog G 9 [] (.sb true) := by
  have c1 := sOf_ok (G := G) ⟨⟨0, 0⟩, ⟨1, 1⟩⟩ 1 2 (by decide) (by decide)
  have e1 : lowA (xS ⟨⟨0, 0⟩, ⟨1, 1⟩⟩ 1 2) (yS ⟨⟨0, 0⟩, ⟨1, 1⟩⟩ 1 2) (2 : Int).toNat = .agg [.sb false, .int .u64 1, .int .u64 0, .int .u64 0, .int .u64 0, .int .u64 0, .int .u64 0, .int .u64 0, .int .u64 0, .sb false, .int .u64 1, .int .u64 0, .int .u64 0, .int .u64 0, .int .u64 0, .int .u64 0, .int .u64 0, .int .u64 0, .int .u64 2, .int .u64 0, .int .u64 0, .int .u64 0, .int .u64 0, .int .u64 0, .int .u64 0, .int .u64 0] := (low_norm norm_112).trans spot_112
  rw [e1] at c1
  have c2 := sptext_c hj
  have c3 := sMay_c (G := G) 1 1 2 norm_112
  rw [spot_112] at c3
  have c4 := sAt_c (G := G) ⟨3, 0⟩ (by decide) (by decide)
  rw [show spotA (⟨3, 0⟩ : Pt).x (⟨3, 0⟩ : Pt).y 1 = .agg [.sb false, .int .u64 3, .int .u64 0, .int .u64 0, .int .u64 0, .int .u64 0, .int .u64 0, .int .u64 0, .int .u64 0, .sb false, .int .u64 0, .int .u64 0, .int .u64 0, .int .u64 0, .int .u64 0, .int .u64 0, .int .u64 0, .int .u64 0, .int .u64 1, .int .u64 0, .int .u64 0, .int .u64 0, .int .u64 0, .int .u64 0, .int .u64 0, .int .u64 0] from rfl] at c4
  have c5 := rAt_301 (G := G)
  refine ACalls.of_WA ttok Tryz.func9 rfl rfl _ rfl ?_
  conv => whnf
  repeat' (first | refine WA_seq ?_ | refine WA_block ?_ | ((first | refine WA_region ttok ?_ | refine WA_draw ttok mixed ?_ | refine WA_cond ?_ | refine WA_skip ?_ | refine WA_exit ?_ | refine WA_ret ?_); conv => whnf) | (refine And.intro (fun h => ?_) (fun h => ?_) <;> (try simp only [brsA] at h) <;> conv => whnf) | (refine Or.inl ?_; (conv => whnf); refine ⟨_, c1, ?_⟩; conv => whnf) | (refine Or.inr (Or.inr (Or.inl ?_)); (conv => whnf); refine ⟨_, c1, ?_⟩; conv => whnf) | (refine Exists.intro _ (And.intro (c1) ?_); conv => whnf) | (refine Or.inl ?_; (conv => whnf); refine ⟨_, c2, ?_⟩; conv => whnf) | (refine Or.inr (Or.inr (Or.inl ?_)); (conv => whnf); refine ⟨_, c2, ?_⟩; conv => whnf) | (refine Exists.intro _ (And.intro (c2) ?_); conv => whnf) | (refine Or.inl ?_; (conv => whnf); refine ⟨_, c3, ?_⟩; conv => whnf) | (refine Or.inr (Or.inr (Or.inl ?_)); (conv => whnf); refine ⟨_, c3, ?_⟩; conv => whnf) | (refine Exists.intro _ (And.intro (c3) ?_); conv => whnf) | (refine Or.inl ?_; (conv => whnf); refine ⟨_, c4, ?_⟩; conv => whnf) | (refine Or.inr (Or.inr (Or.inl ?_)); (conv => whnf); refine ⟨_, c4, ?_⟩; conv => whnf) | (refine Exists.intro _ (And.intro (c4) ?_); conv => whnf) | (refine Or.inl ?_; (conv => whnf); refine ⟨_, c5, ?_⟩; conv => whnf) | (refine Or.inr (Or.inr (Or.inl ?_)); (conv => whnf); refine ⟨_, c5, ?_⟩; conv => whnf) | (refine Exists.intro _ (And.intro (c5) ?_); conv => whnf) | (refine WR_fit ?_ ?_; (focus (first | exact wr_i64 (by omega) | exact wr_u64 (by omega) | exact wr_u8 (by omega) | exact wr_i32 (by omega) | exact wr_u32 (by omega))); conv => whnf) | ((first | refine WR_wrap ?_ | (refine And.intro (a := indepB _ _ = true) ?_ ?_; (focus kernel_rfl)) | refine And.intro rfl ?_ | (refine And.intro ?_ ?_; (focus (first | omega | decide | (dsimp only; omega) | (simp at *; omega))))); conv => whnf))
  all_goals first | contradiction | (exfalso; omega) | rfl | (simp; done) | skip
  all_goals trace_state
theorem join_112 (hns : (default : DRT).ns) : ACalls Tryz.prog G 49 [strsA [[49], [49], [50]], .str [32]] (.str [49, 32, 49, 32, 50]) := join_c hns [[49], [49], [50]] [32] (by decide) (by decide)
theorem spotAlong_all (hns : (default : DRT).ns) (s t : Sg) (n m d : Int) (hd : d ≤ 9223372036854775807) : ACalls Tryz.prog G 4 [.agg (sgA s), .agg (sgA t), .agg [.int .i64 n, .int .i64 m, .int .i64 d]] (.sb true) := spotAlong_c (sawake_c (join_112 hns)) s t n m d hd
end Go.Proofs.YtcomiiakkhafpaaGreat

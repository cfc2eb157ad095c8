/-
  The walk of verb.Line.
-/
import Derived.Test.YtagokdeflnkplaaDoorVerb2
import Derived.Test.YtagokdeflnkplaaDoorIns
set_option linter.unusedSimpArgs false
namespace Go.Proofs.YtagokdeflnkplaaDoor
open Go.Proofs.YtagokdeflnkplaaDoor.Am Go.Lib
variable {G : GInv}
/-- A line of words, where it may be. -/
def lineA (L : List (List UInt8)) : A := .tup [.str (if totL L ≤ 4097 then join L [32] else []), .int .i64 (if totL L ≤ 4097 then 0 else 1)]
theorem tjoin_l (L : List (List UInt8)) (hl : L.length ≤ 1000000) (hw : ∀ x ∈ L, wordP x) : ACalls Tryd.prog G 46 [strsA L] (lineA L) := by
  unfold lineA
  by_cases hk : totL L ≤ 4097
  · rw [if_pos hk, if_pos hk]
    exact tjoin_ok _ hl ⟨allW_of hw, hk⟩
  · rw [if_neg hk, if_neg hk]
    exact tjoin_bad _ hl (fun q => hk q.2)
theorem name_word {k : Int} (h : nameL k ≠ []) : wordP (nameL k) := by
  have hk : 1 ≤ k ∧ k ≤ 13 := by
    apply Classical.byContradiction
    intro q; exact h (nameL_ne.2 q)
  have a := kind13 hk
  have key : ∀ l : List UInt8, (!l.isEmpty && l.all fun b => Nat.ble 33 b.toNat && Nat.ble b.toNat 126) = true → wordP l := fun l hl => by
    rw [Bool.and_eq_true] at hl
    exact wordP_of (by intro q; subst q; exact absurd hl.1 (by decide)) hl.2
  rcases a with a | a | a | a | a | a | a | a | a | a | a | a | a <;> subst a <;> exact key _ (by decide)
theorem flag_word {k : Int} (h : k = 1 ∨ k = 4 ∨ k = 5) : wordP (noW k) ∧ wordP (yesW k) := by
  have key : ∀ l : List UInt8, (!l.isEmpty && l.all fun b => Nat.ble 33 b.toNat && Nat.ble b.toNat 126) = true → wordP l := fun l hl => by
    rw [Bool.and_eq_true] at hl
    exact wordP_of (by intro q; subst q; exact absurd hl.1 (by decide)) hl.2
  rcases h with a | a | a <;> subst a <;> exact ⟨key _ (by decide), key _ (by decide)⟩
theorem nums_word (ns : List Int) : ∀ x ∈ ns.map Lib.itoa, wordP x := fun x hx => by
  obtain ⟨n, _, rfl⟩ := List.mem_map.1 hx
  exact itoa_word n
set_option maxRecDepth 100000 in
set_option maxHeartbeats 8000000 in
theorem vline_1 (hT : HasTab G) (c : Cm) (hm : mayV c) (h1 : c.k = 1) : ACalls Tryd.prog G 35 [.agg (cmA c)] (lineA (lineW c)) := by
  have hrd := hm.2.1 h1
  have hmc := vmay_c (G := G) c (by omega) (by omega)
  rw [decide_eq_true hm] at hmc
  have ha := vall_c (G := G) c hm.2.1
  have hN := hm.2.2.1
  have hn := vname_c (G := G) c.k
  have hfl := vflag_c (G := G) c.k
  have hal := all_len c hm.2.1
  have h3 : 3 ≤ (allL c).length := by unfold allL; rw [if_pos h1]; simp
  have hnw := name_word hm.1
  have hfw := flag_word (k := c.k) (Or.inl h1)
  have hlY : (c.ow || c.bo) = true → lineW c = nameL c.k :: (((allL c).map Lib.itoa).take 1 ++ yesW c.k :: ((allL c).map Lib.itoa).drop 1) := fun q => by
    unfold lineW insF flagW; rw [if_pos h1, if_pos q]
  have hlN : (c.ow || c.bo) = false → lineW c = nameL c.k :: (((allL c).map Lib.itoa).take 1 ++ noW c.k :: ((allL c).map Lib.itoa).drop 1) := fun q => by
    unfold lineW insF flagW; rw [if_pos h1, q]; rfl
  have hnumw := nums_word (allL c)
  have hlen : ((allL c).map Lib.itoa).length = (allL c).length := by simp
  have hgt : ∀ i, i < (allL c).length → ((allL c).map Lib.itoa).getD i [] = Lib.itoa ((allL c).getD i 0) := fun i hi => by
    rw [List.getD_eq_getElem?_getD, List.getElem?_map, List.getElem?_eq_getElem hi, List.getD_eq_getElem?_getD, List.getElem?_eq_getElem hi]; rfl
  generalize (allL c).map Lib.itoa = ws at *
  generalize allL c = ns at *
  generalize noW c.k = no at *
  generalize yesW c.k = yes at *
  generalize nameL c.k = nm at *
  have hW : ∀ f, wordP f → ∀ x ∈ nm :: (ws.take 1 ++ f :: ws.drop 1), wordP x := fun f hf x hx => by
    rcases List.mem_cons.1 hx with rfl | hx
    · exact hnw
    · rcases List.mem_append.1 hx with hx | hx
      · exact hnumw x (List.mem_of_mem_take hx)
      · rcases List.mem_cons.1 hx with rfl | hx
        · exact hf
        · exact hnumw x (List.mem_of_mem_drop hx)
  have hWl : ∀ f, (nm :: (ws.take 1 ++ f :: ws.drop 1)).length = ns.length + 1 + 1 := fun f => by simp; omega
  have hins := fun (f : List UInt8) => insertL_c (G := G) ws f 1 ns.length hlen (by omega) (by omega) (fun j => [.str (ws.getD j [])]) (fun i => takeL 1 (List.drop (i * 1) [.str f])) (fun _ _ => rfl) rfl
  have hins2 := fun (f : List UInt8) => insertL_c (G := G) (ws.take 1 ++ f :: ws.drop 1) nm 0 (ns.length + 1) (by simp; omega) (by omega) (by omega) (wordsR (ws.take 1 ++ f :: ws.drop 1)) (fun i => takeL 1 (List.drop (i * 1) [.str nm])) (fun _ _ => rfl) rfl
  have hjn := fun (f : List UInt8) (hf : wordP f) => (tjoin_l (G := G) (nm :: (ws.take 1 ++ f :: ws.drop 1)) (by rw [hWl]; omega) (hW f hf)).fit (args' := [.sl (ns.length + 1 + 1) 1 (wordsR (nm :: (ws.take 1 ++ f :: ws.drop 1)))]) (by
    have := hWl f
    conv => whnf
    exact ⟨this.symm, Or.inl fun _ _ => rfl⟩)
  refine ACalls.of_WA ttok Tryd.func35 rfl rfl _ rfl ?_
  conv => whnf
  repeat' (first | refine WA_seq ?_ | (refine WA_region ttok ?_; conv => whnf) | (refine WA_draw ttok mixed ?_; conv => whnf) | (refine WA_cond ?_; conv => whnf) | refine WA_block ?_ | (refine WA_skip ?_; conv => whnf) | (refine WA_exit ?_; conv => whnf) | (refine WA_ret ?_; conv => whnf) | (refine And.intro (fun h => ?_) (fun h => ?_) <;> (try simp only [brsA] at h) <;> conv => whnf) | (refine Or.inl ?_; (conv => whnf); refine Exists.intro _ (And.intro (hmc) ?_); conv => whnf) | (refine Or.inr (Or.inr (Or.inl ?_)); (conv => whnf); refine Exists.intro _ (And.intro (hmc) ?_); conv => whnf) | (refine Exists.intro _ (And.intro (hmc) ?_); conv => whnf) | (refine Or.inl ?_; (conv => whnf); refine Exists.intro _ (And.intro (ha) ?_); conv => whnf) | (refine Or.inr (Or.inr (Or.inl ?_)); (conv => whnf); refine Exists.intro _ (And.intro (ha) ?_); conv => whnf) | (refine Exists.intro _ (And.intro (ha) ?_); conv => whnf) | (refine WR_fit ?_ ?_; (focus (first | exact wr_i64 (by omega) | exact wr_u64 (by omega) | exact wr_u8 (by omega) | exact wr_i32 (by omega) | exact wr_u32 (by omega))); conv => whnf) | (refine WR_wrap ?_; conv => whnf) | (refine And.intro (a := indepB _ _ = true) ?_ ?_; (focus kernel_rfl); conv => whnf) | (refine And.intro rfl ?_; conv => whnf) | (refine And.intro ?_ ?_; (focus (first | omega | decide | (dsimp only; omega) | (simp at *; omega))); conv => whnf))
  all_goals first | contradiction | (exfalso; omega) | skip
  refine WA_nil 4 9 1 rfl ?_
  conv => whnf
  refine WA_loopI (fun i : Nat => i ≤ ns.length) (fun i => [(15, .int .i64 (i : Int)), (6, .junk), (4, .own 1)]) (fun i => [.box 56 (cmA c), .row 9 1 i (fun j => [.str (ws.getD j [])])]) (fun i => ns.length - i) 0 (Nat.zero_le _) ?_ ?_
  · conv => whnf
    repeat (first | exact rfl | exact trivial | exact Or.inl (fun _ _ => rfl) | exact (fun _ => rfl) | exact (fun _ _ => rfl) | exact Or.inl (fun _ hi => absurd hi (Nat.not_lt_zero _)) | (refine And.intro rfl ?_; conv => whnf) | (refine And.intro (Or.inl (fun _ _ => rfl)) ?_; conv => whnf) | (refine And.intro (fun _ => rfl) ?_; conv => whnf) | (refine And.intro (fun _ _ => rfl) ?_; conv => whnf) | (refine And.intro ?_ ?_; rotate_left; conv => whnf))
  · intro i hi
    by_cases hil : i < ns.length
    · have ht := text_c hT (ns.getD i 0) (i64_near (hN i hil)).1 (i64_near (hN i hil)).2
      have hg := hgt i hil
      conv => whnf
      repeat' (first | refine WA_seq ?_ | (refine WA_region ttok ?_; conv => whnf) | (refine WA_draw ttok mixed ?_; conv => whnf) | (refine WA_cond ?_; conv => whnf) | refine WA_block ?_ | (refine WA_skip ?_; conv => whnf) | (refine WA_exit ?_; conv => whnf) | (refine WA_ret ?_; conv => whnf) | (refine And.intro (fun h => ?_) (fun h => ?_) <;> (try simp only [brsA] at h) <;> conv => whnf) | (refine Or.inl ?_; (conv => whnf); refine Exists.intro _ (And.intro (ht) ?_); conv => whnf) | (refine Or.inr (Or.inr (Or.inl ?_)); (conv => whnf); refine Exists.intro _ (And.intro (ht) ?_); conv => whnf) | (refine Exists.intro _ (And.intro (ht) ?_); conv => whnf) | (refine WR_fit ?_ ?_; (focus (first | exact wr_i64 (by omega) | exact wr_u64 (by omega) | exact wr_u8 (by omega) | exact wr_i32 (by omega) | exact wr_u32 (by omega))); conv => whnf) | (refine WR_wrap ?_; conv => whnf) | (refine And.intro (a := indepB _ _ = true) ?_ ?_; (focus kernel_rfl); conv => whnf) | (refine And.intro rfl ?_; conv => whnf) | (refine And.intro ?_ ?_; (focus (first | omega | decide | (dsimp only; omega) | (simp at *; omega))); conv => whnf))
      all_goals first | contradiction | (exfalso; omega) | skip
      refine ⟨i + 1, (by show i + 1 ≤ ns.length; omega), (by show ns.length - (i + 1) < ns.length - i; omega), ?_⟩
      conv => whnf
      repeat (first | exact rfl | exact trivial | exact Or.inl (fun _ _ => rfl) | exact (fun _ => rfl) | exact (fun _ _ => rfl) | exact Or.inl (fun _ hi => absurd hi (Nat.not_lt_zero _)) | (refine And.intro rfl ?_; conv => whnf) | (refine And.intro (Or.inl (fun _ _ => rfl)) ?_; conv => whnf) | (refine And.intro (fun _ => rfl) ?_; conv => whnf) | (refine And.intro (fun _ _ => rfl) ?_; conv => whnf) | (refine And.intro ?_ ?_; rotate_left; conv => whnf))
      refine Or.inl fun j hj => rowCat_one (fun j => [A.str (ws.getD j [])]) _ i ?_ j hj
      show [A.str (Lib.itoa (ns.getD i 0))] = [A.str (ws.getD i [])]
      rw [hg]
    · have hie : i = ns.length := by omega
      subst hie
      conv => whnf
      repeat' (first | refine WA_seq ?_ | (refine WA_region ttok ?_; conv => whnf) | (refine WA_draw ttok mixed ?_; conv => whnf) | (refine WA_cond ?_; conv => whnf) | refine WA_block ?_ | (refine WA_skip ?_; conv => whnf) | (refine WA_exit ?_; conv => whnf) | (refine WA_ret ?_; conv => whnf) | (refine And.intro (fun h => ?_) (fun h => ?_) <;> (try simp only [brsA] at h) <;> conv => whnf) | (refine Or.inl ?_; (conv => whnf); refine Exists.intro _ (And.intro (hfl) ?_); conv => whnf) | (refine Or.inr (Or.inr (Or.inl ?_)); (conv => whnf); refine Exists.intro _ (And.intro (hfl) ?_); conv => whnf) | (refine Exists.intro _ (And.intro (hfl) ?_); conv => whnf) | (refine Or.inl ?_; (conv => whnf); refine Exists.intro _ (And.intro (hn) ?_); conv => whnf) | (refine Or.inr (Or.inr (Or.inl ?_)); (conv => whnf); refine Exists.intro _ (And.intro (hn) ?_); conv => whnf) | (refine Exists.intro _ (And.intro (hn) ?_); conv => whnf) | (refine Or.inr (Or.inl ?_); (conv => whnf); refine Exists.intro _ (Exists.intro _ (And.intro (hins no) ?_)); conv => whnf) | (refine Exists.intro _ (And.intro (hins no) ?_); conv => whnf) | (refine Or.inr (Or.inl ?_); (conv => whnf); refine Exists.intro _ (Exists.intro _ (And.intro (hins yes) ?_)); conv => whnf) | (refine Exists.intro _ (And.intro (hins yes) ?_); conv => whnf) | (refine Or.inr (Or.inl ?_); (conv => whnf); refine Exists.intro _ (Exists.intro _ (And.intro (hins2 no) ?_)); conv => whnf) | (refine Exists.intro _ (And.intro (hins2 no) ?_); conv => whnf) | (refine Or.inr (Or.inl ?_); (conv => whnf); refine Exists.intro _ (Exists.intro _ (And.intro (hins2 yes) ?_)); conv => whnf) | (refine Exists.intro _ (And.intro (hins2 yes) ?_); conv => whnf) | (refine Or.inl ?_; (conv => whnf); refine Exists.intro _ (And.intro (hjn no hfw.1) ?_); conv => whnf) | (refine Or.inr (Or.inr (Or.inl ?_)); (conv => whnf); refine Exists.intro _ (And.intro (hjn no hfw.1) ?_); conv => whnf) | (refine Exists.intro _ (And.intro (hjn no hfw.1) ?_); conv => whnf) | (refine Or.inl ?_; (conv => whnf); refine Exists.intro _ (And.intro (hjn yes hfw.2) ?_); conv => whnf) | (refine Or.inr (Or.inr (Or.inl ?_)); (conv => whnf); refine Exists.intro _ (And.intro (hjn yes hfw.2) ?_); conv => whnf) | (refine Exists.intro _ (And.intro (hjn yes hfw.2) ?_); conv => whnf) | (refine WR_fit ?_ ?_; (focus (first | exact wr_i64 (by omega) | exact wr_u64 (by omega) | exact wr_u8 (by omega) | exact wr_i32 (by omega) | exact wr_u32 (by omega))); conv => whnf) | (refine WR_wrap ?_; conv => whnf) | (refine And.intro (a := indepB _ _ = true) ?_ ?_; (focus kernel_rfl); conv => whnf) | (refine And.intro rfl ?_; conv => whnf) | (refine And.intro ?_ ?_; (focus (first | omega | decide | (dsimp only; omega) | (simp at *; omega))); conv => whnf))
      all_goals first | contradiction | (exfalso; omega) | skip
      all_goals first
        | (rw [hlY (by rw [show c.ow = true by assumption]; rfl)]; exact ⟨rfl, rfl⟩)
        | (rw [hlY (by rw [show c.ow = false by assumption, show c.bo = true by assumption]; rfl)]; exact ⟨rfl, rfl⟩)
        | (rw [hlN (by rw [show c.ow = false by assumption, show c.bo = false by assumption]; rfl)]; exact ⟨rfl, rfl⟩)
set_option maxRecDepth 100000 in
set_option maxHeartbeats 8000000 in
theorem vline_f (hT : HasTab G) (c : Cm) (hm : mayV c) (hp : c.pts.length ≤ 1000000) (hw : c.ws.length ≤ 1000000) (h4 : c.k = 4 ∨ c.k = 5) : ACalls Tryd.prog G 35 [.agg (cmA c)] (lineA (lineW c)) := by
  have h1 : c.k ≠ 1 := by omega
  have hmc := vmay_c (G := G) c hp hw
  rw [decide_eq_true hm] at hmc
  have ha := vall_c (G := G) c hm.2.1
  have hN := hm.2.2.1
  have hn := vname_c (G := G) c.k
  have hfl := vflag_c (G := G) c.k
  have hal := all_len c hm.2.1
  have h3 : 1 ≤ (allL c).length := by unfold allL; rw [if_neg h1, if_pos h4]; simp
  have hnn : noW c.k ≠ [] := by rcases h4 with h4 | h4 <;> rw [h4] <;> decide
  have hyn : yesW c.k ≠ [] := by rcases h4 with h4 | h4 <;> rw [h4] <;> decide
  have hnw := name_word hm.1
  have hfw := flag_word (k := c.k) (Or.inr h4)
  have hlY : (c.ow || c.bo) = true → lineW c = nameL c.k :: (yesW c.k :: (allL c).map Lib.itoa) := fun q => by
    unfold lineW insF flagW; rw [if_neg h1, if_pos q, if_pos hyn]
  have hlN : (c.ow || c.bo) = false → lineW c = nameL c.k :: (noW c.k :: (allL c).map Lib.itoa) := fun q => by
    unfold lineW insF flagW; rw [if_neg h1, q]; show nameL c.k :: (if noW c.k ≠ [] then noW c.k :: _ else _) = _; rw [if_pos hnn]
  have hnumw := nums_word (allL c)
  have hlen : ((allL c).map Lib.itoa).length = (allL c).length := by simp
  have hgt : ∀ i, i < (allL c).length → ((allL c).map Lib.itoa).getD i [] = Lib.itoa ((allL c).getD i 0) := fun i hi => by
    rw [List.getD_eq_getElem?_getD, List.getElem?_map, List.getElem?_eq_getElem hi, List.getD_eq_getElem?_getD, List.getElem?_eq_getElem hi]; rfl
  generalize (allL c).map Lib.itoa = ws at *
  generalize allL c = ns at *
  generalize noW c.k = no at *
  generalize yesW c.k = yes at *
  generalize nameL c.k = nm at *
  have hW : ∀ f, wordP f → ∀ x ∈ nm :: (f :: ws), wordP x := fun f hf x hx => by
    rcases List.mem_cons.1 hx with rfl | hx
    · exact hnw
    · rcases List.mem_cons.1 hx with rfl | hx
      · exact hf
      · exact hnumw x hx
  have hWl : ∀ f, (nm :: (f :: ws)).length = ns.length + 1 + 1 := fun f => by simp; omega
  have hins := fun (f : List UInt8) => insertL_c (G := G) ws f 0 ns.length hlen (by omega) (by omega) (fun j => [.str (ws.getD j [])]) (fun i => takeL 1 (List.drop (i * 1) [.str f])) (fun _ _ => rfl) rfl
  have hins2 := fun (f : List UInt8) => insertL_c (G := G) (f :: ws) nm 0 (ns.length + 1) (by simp; omega) (by omega) (by omega) (wordsR (f :: ws)) (fun i => takeL 1 (List.drop (i * 1) [.str nm])) (fun _ _ => rfl) rfl
  have hjn := fun (f : List UInt8) (hf : wordP f) => (tjoin_l (G := G) (nm :: (f :: ws)) (by rw [hWl]; omega) (hW f hf)).fit (args' := [.sl (ns.length + 1 + 1) 1 (wordsR (nm :: (f :: ws)))]) (by
    have := hWl f
    conv => whnf
    exact ⟨this.symm, Or.inl fun _ _ => rfl⟩)
  refine ACalls.of_WA ttok Tryd.func35 rfl rfl _ rfl ?_
  conv => whnf
  repeat' (first | refine WA_seq ?_ | (refine WA_region ttok ?_; conv => whnf) | (refine WA_draw ttok mixed ?_; conv => whnf) | (refine WA_cond ?_; conv => whnf) | refine WA_block ?_ | (refine WA_skip ?_; conv => whnf) | (refine WA_exit ?_; conv => whnf) | (refine WA_ret ?_; conv => whnf) | (refine And.intro (fun h => ?_) (fun h => ?_) <;> (try simp only [brsA] at h) <;> conv => whnf) | (refine Or.inl ?_; (conv => whnf); refine Exists.intro _ (And.intro (hmc) ?_); conv => whnf) | (refine Or.inr (Or.inr (Or.inl ?_)); (conv => whnf); refine Exists.intro _ (And.intro (hmc) ?_); conv => whnf) | (refine Exists.intro _ (And.intro (hmc) ?_); conv => whnf) | (refine Or.inl ?_; (conv => whnf); refine Exists.intro _ (And.intro (ha) ?_); conv => whnf) | (refine Or.inr (Or.inr (Or.inl ?_)); (conv => whnf); refine Exists.intro _ (And.intro (ha) ?_); conv => whnf) | (refine Exists.intro _ (And.intro (ha) ?_); conv => whnf) | (refine WR_fit ?_ ?_; (focus (first | exact wr_i64 (by omega) | exact wr_u64 (by omega) | exact wr_u8 (by omega) | exact wr_i32 (by omega) | exact wr_u32 (by omega))); conv => whnf) | (refine WR_wrap ?_; conv => whnf) | (refine And.intro (a := indepB _ _ = true) ?_ ?_; (focus kernel_rfl); conv => whnf) | (refine And.intro rfl ?_; conv => whnf) | (refine And.intro ?_ ?_; (focus (first | omega | decide | (dsimp only; omega) | (simp at *; omega))); conv => whnf))
  all_goals first | contradiction | (exfalso; omega) | skip
  refine WA_nil 4 9 1 rfl ?_
  conv => whnf
  refine WA_loopI (fun i : Nat => i ≤ ns.length) (fun i => [(15, .int .i64 (i : Int)), (6, .junk), (4, .own 1)]) (fun i => [.box 56 (cmA c), .row 9 1 i (fun j => [.str (ws.getD j [])])]) (fun i => ns.length - i) 0 (Nat.zero_le _) ?_ ?_
  · conv => whnf
    repeat (first | exact rfl | exact trivial | exact Or.inl (fun _ _ => rfl) | exact (fun _ => rfl) | exact (fun _ _ => rfl) | exact Or.inl (fun _ hi => absurd hi (Nat.not_lt_zero _)) | (refine And.intro rfl ?_; conv => whnf) | (refine And.intro (Or.inl (fun _ _ => rfl)) ?_; conv => whnf) | (refine And.intro (fun _ => rfl) ?_; conv => whnf) | (refine And.intro (fun _ _ => rfl) ?_; conv => whnf) | (refine And.intro ?_ ?_; rotate_left; conv => whnf))
  · intro i hi
    by_cases hil : i < ns.length
    · have ht := text_c hT (ns.getD i 0) (i64_near (hN i hil)).1 (i64_near (hN i hil)).2
      have hg := hgt i hil
      conv => whnf
      repeat' (first | refine WA_seq ?_ | (refine WA_region ttok ?_; conv => whnf) | (refine WA_draw ttok mixed ?_; conv => whnf) | (refine WA_cond ?_; conv => whnf) | refine WA_block ?_ | (refine WA_skip ?_; conv => whnf) | (refine WA_exit ?_; conv => whnf) | (refine WA_ret ?_; conv => whnf) | (refine And.intro (fun h => ?_) (fun h => ?_) <;> (try simp only [brsA] at h) <;> conv => whnf) | (refine Or.inl ?_; (conv => whnf); refine Exists.intro _ (And.intro (ht) ?_); conv => whnf) | (refine Or.inr (Or.inr (Or.inl ?_)); (conv => whnf); refine Exists.intro _ (And.intro (ht) ?_); conv => whnf) | (refine Exists.intro _ (And.intro (ht) ?_); conv => whnf) | (refine WR_fit ?_ ?_; (focus (first | exact wr_i64 (by omega) | exact wr_u64 (by omega) | exact wr_u8 (by omega) | exact wr_i32 (by omega) | exact wr_u32 (by omega))); conv => whnf) | (refine WR_wrap ?_; conv => whnf) | (refine And.intro (a := indepB _ _ = true) ?_ ?_; (focus kernel_rfl); conv => whnf) | (refine And.intro rfl ?_; conv => whnf) | (refine And.intro ?_ ?_; (focus (first | omega | decide | (dsimp only; omega) | (simp at *; omega))); conv => whnf))
      all_goals first | contradiction | (exfalso; omega) | skip
      refine ⟨i + 1, (by show i + 1 ≤ ns.length; omega), (by show ns.length - (i + 1) < ns.length - i; omega), ?_⟩
      conv => whnf
      repeat (first | exact rfl | exact trivial | exact Or.inl (fun _ _ => rfl) | exact (fun _ => rfl) | exact (fun _ _ => rfl) | exact Or.inl (fun _ hi => absurd hi (Nat.not_lt_zero _)) | (refine And.intro rfl ?_; conv => whnf) | (refine And.intro (Or.inl (fun _ _ => rfl)) ?_; conv => whnf) | (refine And.intro (fun _ => rfl) ?_; conv => whnf) | (refine And.intro (fun _ _ => rfl) ?_; conv => whnf) | (refine And.intro ?_ ?_; rotate_left; conv => whnf))
      refine Or.inl fun j hj => rowCat_one (fun j => [A.str (ws.getD j [])]) _ i ?_ j hj
      show [A.str (Lib.itoa (ns.getD i 0))] = [A.str (ws.getD i [])]
      rw [hg]
    · have hie : i = ns.length := by omega
      subst hie
      conv => whnf
      repeat' (first | refine WA_seq ?_ | (refine WA_region ttok ?_; conv => whnf) | (refine WA_draw ttok mixed ?_; conv => whnf) | (refine WA_cond ?_; conv => whnf) | refine WA_block ?_ | (refine WA_skip ?_; conv => whnf) | (refine WA_exit ?_; conv => whnf) | (refine WA_ret ?_; conv => whnf) | (refine And.intro (fun h => ?_) (fun h => ?_) <;> (try simp only [brsA] at h) <;> conv => whnf) | (refine Or.inl ?_; (conv => whnf); refine Exists.intro _ (And.intro (hfl) ?_); conv => whnf) | (refine Or.inr (Or.inr (Or.inl ?_)); (conv => whnf); refine Exists.intro _ (And.intro (hfl) ?_); conv => whnf) | (refine Exists.intro _ (And.intro (hfl) ?_); conv => whnf) | (refine Or.inl ?_; (conv => whnf); refine Exists.intro _ (And.intro (hn) ?_); conv => whnf) | (refine Or.inr (Or.inr (Or.inl ?_)); (conv => whnf); refine Exists.intro _ (And.intro (hn) ?_); conv => whnf) | (refine Exists.intro _ (And.intro (hn) ?_); conv => whnf) | (refine Or.inr (Or.inl ?_); (conv => whnf); refine Exists.intro _ (Exists.intro _ (And.intro (hins no) ?_)); conv => whnf) | (refine Exists.intro _ (And.intro (hins no) ?_); conv => whnf) | (refine Or.inr (Or.inl ?_); (conv => whnf); refine Exists.intro _ (Exists.intro _ (And.intro (hins yes) ?_)); conv => whnf) | (refine Exists.intro _ (And.intro (hins yes) ?_); conv => whnf) | (refine Or.inr (Or.inl ?_); (conv => whnf); refine Exists.intro _ (Exists.intro _ (And.intro (hins2 no) ?_)); conv => whnf) | (refine Exists.intro _ (And.intro (hins2 no) ?_); conv => whnf) | (refine Or.inr (Or.inl ?_); (conv => whnf); refine Exists.intro _ (Exists.intro _ (And.intro (hins2 yes) ?_)); conv => whnf) | (refine Exists.intro _ (And.intro (hins2 yes) ?_); conv => whnf) | (refine Or.inl ?_; (conv => whnf); refine Exists.intro _ (And.intro (hjn no hfw.1) ?_); conv => whnf) | (refine Or.inr (Or.inr (Or.inl ?_)); (conv => whnf); refine Exists.intro _ (And.intro (hjn no hfw.1) ?_); conv => whnf) | (refine Exists.intro _ (And.intro (hjn no hfw.1) ?_); conv => whnf) | (refine Or.inl ?_; (conv => whnf); refine Exists.intro _ (And.intro (hjn yes hfw.2) ?_); conv => whnf) | (refine Or.inr (Or.inr (Or.inl ?_)); (conv => whnf); refine Exists.intro _ (And.intro (hjn yes hfw.2) ?_); conv => whnf) | (refine Exists.intro _ (And.intro (hjn yes hfw.2) ?_); conv => whnf) | (refine WR_fit ?_ ?_; (focus (first | exact wr_i64 (by omega) | exact wr_u64 (by omega) | exact wr_u8 (by omega) | exact wr_i32 (by omega) | exact wr_u32 (by omega))); conv => whnf) | (refine WR_wrap ?_; conv => whnf) | (refine And.intro (a := indepB _ _ = true) ?_ ?_; (focus kernel_rfl); conv => whnf) | (refine And.intro rfl ?_; conv => whnf) | (refine And.intro ?_ ?_; (focus (first | omega | decide | (dsimp only; omega) | (simp at *; omega))); conv => whnf))
      all_goals first | contradiction | (exfalso; omega) | skip
      all_goals first
        | (rw [hlY (by rw [show c.ow = true by assumption]; rfl)]; exact ⟨rfl, rfl⟩)
        | (rw [hlY (by rw [show c.ow = false by assumption, show c.bo = true by assumption]; rfl)]; exact ⟨rfl, rfl⟩)
        | (rw [hlN (by rw [show c.ow = false by assumption, show c.bo = false by assumption]; rfl)]; exact ⟨rfl, rfl⟩)
set_option maxRecDepth 100000 in
set_option maxHeartbeats 8000000 in
theorem vline_n (hT : HasTab G) (c : Cm) (hm : mayV c) (hp : c.pts.length ≤ 1000000) (hw : c.ws.length ≤ 1000000) (h1 : c.k ≠ 1) (h4 : ¬ (c.k = 4 ∨ c.k = 5)) (h3 : 1 ≤ (allL c).length) : ACalls Tryd.prog G 35 [.agg (cmA c)] (lineA (lineW c)) := by
  have hmc := vmay_c (G := G) c hp hw
  rw [decide_eq_true hm] at hmc
  have ha := vall_c (G := G) c hm.2.1
  have hN := hm.2.2.1
  have hn := vname_c (G := G) c.k
  have hfl := vflag_c (G := G) c.k
  have hal := all_len c hm.2.1
  have hnw := name_word hm.1
  rw [(noflag h1 h4).1, (noflag h1 h4).2] at hfl
  have hlw : lineW c = nameL c.k :: (allL c).map Lib.itoa := by
    have : flagW c.k (c.ow || c.bo) = [] := by unfold flagW; rw [(noflag h1 h4).1, (noflag h1 h4).2]; simp
    unfold lineW insF
    rw [this, if_neg h1]; simp
  have hnumw := nums_word (allL c)
  have hlen : ((allL c).map Lib.itoa).length = (allL c).length := by simp
  have hgt : ∀ i, i < (allL c).length → ((allL c).map Lib.itoa).getD i [] = Lib.itoa ((allL c).getD i 0) := fun i hi => by
    rw [List.getD_eq_getElem?_getD, List.getElem?_map, List.getElem?_eq_getElem hi, List.getD_eq_getElem?_getD, List.getElem?_eq_getElem hi]; rfl
  generalize (allL c).map Lib.itoa = ws at *
  generalize allL c = ns at *
  generalize nameL c.k = nm at *
  have hW : ∀ x ∈ nm :: ws, wordP x := fun x hx => by
    rcases List.mem_cons.1 hx with rfl | hx
    · exact hnw
    · exact hnumw x hx
  have hWl : (nm :: ws).length = ns.length + 1 := by simp; omega
  have hins2 := insertL_c (G := G) ws nm 0 ns.length hlen (by omega) (by omega) (fun j => [.str (ws.getD j [])]) (fun i => takeL 1 (List.drop (i * 1) [.str nm])) (fun _ _ => rfl) rfl
  have hjn := (tjoin_l (G := G) (nm :: ws) (by rw [hWl]; omega) hW).fit (args' := [.sl (ns.length + 1) 1 (wordsR (nm :: ws))]) (by
    conv => whnf
    exact ⟨hWl.symm, Or.inl fun _ _ => rfl⟩)
  refine ACalls.of_WA ttok Tryd.func35 rfl rfl _ rfl ?_
  conv => whnf
  repeat' (first | refine WA_seq ?_ | (refine WA_region ttok ?_; conv => whnf) | (refine WA_draw ttok mixed ?_; conv => whnf) | (refine WA_cond ?_; conv => whnf) | refine WA_block ?_ | (refine WA_skip ?_; conv => whnf) | (refine WA_exit ?_; conv => whnf) | (refine WA_ret ?_; conv => whnf) | (refine And.intro (fun h => ?_) (fun h => ?_) <;> (try simp only [brsA] at h) <;> conv => whnf) | (refine Or.inl ?_; (conv => whnf); refine Exists.intro _ (And.intro (hmc) ?_); conv => whnf) | (refine Or.inr (Or.inr (Or.inl ?_)); (conv => whnf); refine Exists.intro _ (And.intro (hmc) ?_); conv => whnf) | (refine Exists.intro _ (And.intro (hmc) ?_); conv => whnf) | (refine Or.inl ?_; (conv => whnf); refine Exists.intro _ (And.intro (ha) ?_); conv => whnf) | (refine Or.inr (Or.inr (Or.inl ?_)); (conv => whnf); refine Exists.intro _ (And.intro (ha) ?_); conv => whnf) | (refine Exists.intro _ (And.intro (ha) ?_); conv => whnf) | (refine WR_fit ?_ ?_; (focus (first | exact wr_i64 (by omega) | exact wr_u64 (by omega) | exact wr_u8 (by omega) | exact wr_i32 (by omega) | exact wr_u32 (by omega))); conv => whnf) | (refine WR_wrap ?_; conv => whnf) | (refine And.intro (a := indepB _ _ = true) ?_ ?_; (focus kernel_rfl); conv => whnf) | (refine And.intro rfl ?_; conv => whnf) | (refine And.intro ?_ ?_; (focus (first | omega | decide | (dsimp only; omega) | (simp at *; omega))); conv => whnf))
  all_goals first | contradiction | (exfalso; omega) | skip
  refine WA_nil 4 9 1 rfl ?_
  conv => whnf
  refine WA_loopI (fun i : Nat => i ≤ ns.length) (fun i => [(15, .int .i64 (i : Int)), (6, .junk), (4, .own 1)]) (fun i => [.box 56 (cmA c), .row 9 1 i (fun j => [.str (ws.getD j [])])]) (fun i => ns.length - i) 0 (Nat.zero_le _) ?_ ?_
  · conv => whnf
    repeat (first | exact rfl | exact trivial | exact Or.inl (fun _ _ => rfl) | exact (fun _ => rfl) | exact (fun _ _ => rfl) | exact Or.inl (fun _ hi => absurd hi (Nat.not_lt_zero _)) | (refine And.intro rfl ?_; conv => whnf) | (refine And.intro (Or.inl (fun _ _ => rfl)) ?_; conv => whnf) | (refine And.intro (fun _ => rfl) ?_; conv => whnf) | (refine And.intro (fun _ _ => rfl) ?_; conv => whnf) | (refine And.intro ?_ ?_; rotate_left; conv => whnf))
  · intro i hi
    by_cases hil : i < ns.length
    · have ht := text_c hT (ns.getD i 0) (i64_near (hN i hil)).1 (i64_near (hN i hil)).2
      have hg := hgt i hil
      conv => whnf
      repeat' (first | refine WA_seq ?_ | (refine WA_region ttok ?_; conv => whnf) | (refine WA_draw ttok mixed ?_; conv => whnf) | (refine WA_cond ?_; conv => whnf) | refine WA_block ?_ | (refine WA_skip ?_; conv => whnf) | (refine WA_exit ?_; conv => whnf) | (refine WA_ret ?_; conv => whnf) | (refine And.intro (fun h => ?_) (fun h => ?_) <;> (try simp only [brsA] at h) <;> conv => whnf) | (refine Or.inl ?_; (conv => whnf); refine Exists.intro _ (And.intro (ht) ?_); conv => whnf) | (refine Or.inr (Or.inr (Or.inl ?_)); (conv => whnf); refine Exists.intro _ (And.intro (ht) ?_); conv => whnf) | (refine Exists.intro _ (And.intro (ht) ?_); conv => whnf) | (refine WR_fit ?_ ?_; (focus (first | exact wr_i64 (by omega) | exact wr_u64 (by omega) | exact wr_u8 (by omega) | exact wr_i32 (by omega) | exact wr_u32 (by omega))); conv => whnf) | (refine WR_wrap ?_; conv => whnf) | (refine And.intro (a := indepB _ _ = true) ?_ ?_; (focus kernel_rfl); conv => whnf) | (refine And.intro rfl ?_; conv => whnf) | (refine And.intro ?_ ?_; (focus (first | omega | decide | (dsimp only; omega) | (simp at *; omega))); conv => whnf))
      all_goals first | contradiction | (exfalso; omega) | skip
      refine ⟨i + 1, (by show i + 1 ≤ ns.length; omega), (by show ns.length - (i + 1) < ns.length - i; omega), ?_⟩
      conv => whnf
      repeat (first | exact rfl | exact trivial | exact Or.inl (fun _ _ => rfl) | exact (fun _ => rfl) | exact (fun _ _ => rfl) | exact Or.inl (fun _ hi => absurd hi (Nat.not_lt_zero _)) | (refine And.intro rfl ?_; conv => whnf) | (refine And.intro (Or.inl (fun _ _ => rfl)) ?_; conv => whnf) | (refine And.intro (fun _ => rfl) ?_; conv => whnf) | (refine And.intro (fun _ _ => rfl) ?_; conv => whnf) | (refine And.intro ?_ ?_; rotate_left; conv => whnf))
      refine Or.inl fun j hj => rowCat_one (fun j => [A.str (ws.getD j [])]) _ i ?_ j hj
      show [A.str (Lib.itoa (ns.getD i 0))] = [A.str (ws.getD i [])]
      rw [hg]
    · have hie : i = ns.length := by omega
      subst hie
      conv => whnf
      repeat' (first | refine WA_seq ?_ | (refine WA_region ttok ?_; conv => whnf) | (refine WA_draw ttok mixed ?_; conv => whnf) | (refine WA_cond ?_; conv => whnf) | refine WA_block ?_ | (refine WA_skip ?_; conv => whnf) | (refine WA_exit ?_; conv => whnf) | (refine WA_ret ?_; conv => whnf) | (refine And.intro (fun h => ?_) (fun h => ?_) <;> (try simp only [brsA] at h) <;> conv => whnf) | (refine Or.inl ?_; (conv => whnf); refine Exists.intro _ (And.intro (hfl) ?_); conv => whnf) | (refine Or.inr (Or.inr (Or.inl ?_)); (conv => whnf); refine Exists.intro _ (And.intro (hfl) ?_); conv => whnf) | (refine Exists.intro _ (And.intro (hfl) ?_); conv => whnf) | (refine Or.inl ?_; (conv => whnf); refine Exists.intro _ (And.intro (hn) ?_); conv => whnf) | (refine Or.inr (Or.inr (Or.inl ?_)); (conv => whnf); refine Exists.intro _ (And.intro (hn) ?_); conv => whnf) | (refine Exists.intro _ (And.intro (hn) ?_); conv => whnf) | (refine Or.inr (Or.inl ?_); (conv => whnf); refine Exists.intro _ (Exists.intro _ (And.intro (hins2) ?_)); conv => whnf) | (refine Exists.intro _ (And.intro (hins2) ?_); conv => whnf) | (refine Or.inl ?_; (conv => whnf); refine Exists.intro _ (And.intro (hjn) ?_); conv => whnf) | (refine Or.inr (Or.inr (Or.inl ?_)); (conv => whnf); refine Exists.intro _ (And.intro (hjn) ?_); conv => whnf) | (refine Exists.intro _ (And.intro (hjn) ?_); conv => whnf) | (refine WR_fit ?_ ?_; (focus (first | exact wr_i64 (by omega) | exact wr_u64 (by omega) | exact wr_u8 (by omega) | exact wr_i32 (by omega) | exact wr_u32 (by omega))); conv => whnf) | (refine WR_wrap ?_; conv => whnf) | (refine And.intro (a := indepB _ _ = true) ?_ ?_; (focus kernel_rfl); conv => whnf) | (refine And.intro rfl ?_; conv => whnf) | (refine And.intro ?_ ?_; (focus (first | omega | decide | (dsimp only; omega) | (simp at *; omega))); conv => whnf))
      all_goals first | contradiction | (exfalso; omega) | skip
      all_goals (rw [hlw]; exact ⟨rfl, rfl⟩)
set_option maxRecDepth 100000 in
set_option maxHeartbeats 8000000 in
theorem vline_0 (c : Cm) (hm : mayV c) (hp : c.pts.length ≤ 1000000) (hw : c.ws.length ≤ 1000000) (h1 : c.k ≠ 1) (h4 : ¬ (c.k = 4 ∨ c.k = 5)) (h0 : allL c = []) : ACalls Tryd.prog G 35 [.agg (cmA c)] (lineA (lineW c)) := by
  have hmc := vmay_c (G := G) c hp hw
  rw [decide_eq_true hm] at hmc
  have ha := vall_c (G := G) c hm.2.1
  rw [h0] at ha
  have hn := vname_c (G := G) c.k
  have hfl := vflag_c (G := G) c.k
  have hnw := name_word hm.1
  rw [(noflag h1 h4).1, (noflag h1 h4).2] at hfl
  have hlw : lineW c = [nameL c.k] := by
    have : flagW c.k (c.ow || c.bo) = [] := by unfold flagW; rw [(noflag h1 h4).1, (noflag h1 h4).2]; simp
    unfold lineW insF
    rw [this, if_neg h1, h0]; simp
  rw [hlw]
  generalize nameL c.k = nm at *
  have hins := insert_nil (G := G) nm (fun i => takeL 1 (List.drop (i * 1) [.str nm])) rfl
  have hjn := (tjoin_l (G := G) [nm] (by simp) (fun x hx => by rw [List.mem_singleton.1 hx]; exact hnw)).fit (args' := [.sl 1 1 (wordsR [nm])]) (by
    conv => whnf
    exact ⟨rfl, Or.inl fun _ _ => rfl⟩)
  refine ACalls.of_WA ttok Tryd.func35 rfl rfl _ rfl ?_
  conv => whnf
  repeat' (first | refine WA_seq ?_ | (refine WA_region ttok ?_; conv => whnf) | (refine WA_draw ttok mixed ?_; conv => whnf) | (refine WA_cond ?_; conv => whnf) | refine WA_block ?_ | (refine WA_skip ?_; conv => whnf) | (refine WA_exit ?_; conv => whnf) | (refine WA_ret ?_; conv => whnf) | (refine And.intro (fun h => ?_) (fun h => ?_) <;> (try simp only [brsA] at h) <;> conv => whnf) | (refine Or.inl ?_; (conv => whnf); refine Exists.intro _ (And.intro (hmc) ?_); conv => whnf) | (refine Or.inr (Or.inr (Or.inl ?_)); (conv => whnf); refine Exists.intro _ (And.intro (hmc) ?_); conv => whnf) | (refine Exists.intro _ (And.intro (hmc) ?_); conv => whnf) | (refine Or.inl ?_; (conv => whnf); refine Exists.intro _ (And.intro (ha) ?_); conv => whnf) | (refine Or.inr (Or.inr (Or.inl ?_)); (conv => whnf); refine Exists.intro _ (And.intro (ha) ?_); conv => whnf) | (refine Exists.intro _ (And.intro (ha) ?_); conv => whnf) | (refine WR_fit ?_ ?_; (focus (first | exact wr_i64 (by omega) | exact wr_u64 (by omega) | exact wr_u8 (by omega) | exact wr_i32 (by omega) | exact wr_u32 (by omega))); conv => whnf) | (refine WR_wrap ?_; conv => whnf) | (refine And.intro (a := indepB _ _ = true) ?_ ?_; (focus kernel_rfl); conv => whnf) | (refine And.intro rfl ?_; conv => whnf) | (refine And.intro ?_ ?_; (focus (first | omega | decide | (dsimp only; omega) | (simp at *; omega))); conv => whnf))
  all_goals first | contradiction | (exfalso; omega) | skip
  refine WA_loopI (fun i : Nat => i = 0) (fun i => [(15, .int .i64 0), (6, .junk), (4, .nils)]) (fun i => [.box 56 (cmA c)]) (fun i => i) 0 rfl ?_ ?_
  · conv => whnf
    repeat (first | exact rfl | exact trivial | exact Or.inl (fun _ _ => rfl) | exact (fun _ => rfl) | exact (fun _ _ => rfl) | exact Or.inl (fun _ hi => absurd hi (Nat.not_lt_zero _)) | (refine And.intro rfl ?_; conv => whnf) | (refine And.intro (Or.inl (fun _ _ => rfl)) ?_; conv => whnf) | (refine And.intro (fun _ => rfl) ?_; conv => whnf) | (refine And.intro (fun _ _ => rfl) ?_; conv => whnf) | (refine And.intro ?_ ?_; rotate_left; conv => whnf))
  · intro i hi
    subst hi
    conv => whnf
    repeat' (first | refine WA_seq ?_ | (refine WA_region ttok ?_; conv => whnf) | (refine WA_draw ttok mixed ?_; conv => whnf) | (refine WA_cond ?_; conv => whnf) | refine WA_block ?_ | (refine WA_skip ?_; conv => whnf) | (refine WA_exit ?_; conv => whnf) | (refine WA_ret ?_; conv => whnf) | (refine And.intro (fun h => ?_) (fun h => ?_) <;> (try simp only [brsA] at h) <;> conv => whnf) | (refine Or.inl ?_; (conv => whnf); refine Exists.intro _ (And.intro (hfl) ?_); conv => whnf) | (refine Or.inr (Or.inr (Or.inl ?_)); (conv => whnf); refine Exists.intro _ (And.intro (hfl) ?_); conv => whnf) | (refine Exists.intro _ (And.intro (hfl) ?_); conv => whnf) | (refine Or.inl ?_; (conv => whnf); refine Exists.intro _ (And.intro (hn) ?_); conv => whnf) | (refine Or.inr (Or.inr (Or.inl ?_)); (conv => whnf); refine Exists.intro _ (And.intro (hn) ?_); conv => whnf) | (refine Exists.intro _ (And.intro (hn) ?_); conv => whnf) | (refine Or.inr (Or.inl ?_); (conv => whnf); refine Exists.intro _ (Exists.intro _ (And.intro (hins) ?_)); conv => whnf) | (refine Exists.intro _ (And.intro (hins) ?_); conv => whnf) | (refine Or.inl ?_; (conv => whnf); refine Exists.intro _ (And.intro (hjn) ?_); conv => whnf) | (refine Or.inr (Or.inr (Or.inl ?_)); (conv => whnf); refine Exists.intro _ (And.intro (hjn) ?_); conv => whnf) | (refine Exists.intro _ (And.intro (hjn) ?_); conv => whnf) | (refine WR_fit ?_ ?_; (focus (first | exact wr_i64 (by omega) | exact wr_u64 (by omega) | exact wr_u8 (by omega) | exact wr_i32 (by omega) | exact wr_u32 (by omega))); conv => whnf) | (refine WR_wrap ?_; conv => whnf) | (refine And.intro (a := indepB _ _ = true) ?_ ?_; (focus kernel_rfl); conv => whnf) | (refine And.intro rfl ?_; conv => whnf) | (refine And.intro ?_ ?_; (focus (first | omega | decide | (dsimp only; omega) | (simp at *; omega))); conv => whnf))
    all_goals first | contradiction | (exfalso; omega) | skip
    all_goals first | exact ⟨rfl, rfl⟩ | trace_state
/-- A command's line. -/
theorem vline_yes (hT : HasTab G) (c : Cm) (hm : mayV c) (hp : c.pts.length ≤ 1000000) (hw : c.ws.length ≤ 1000000) : ACalls Tryd.prog G 35 [.agg (cmA c)] (lineA (lineW c)) := by
  by_cases h1 : c.k = 1
  · exact vline_1 hT c hm h1
  · by_cases h4 : c.k = 4 ∨ c.k = 5
    · exact vline_f hT c hm hp hw h4
    · by_cases h0 : allL c = []
      · exact vline_0 c hm hp hw h1 h4 h0
      · exact vline_n hT c hm hp hw h1 h4 (List.length_pos_iff.2 h0)
end Go.Proofs.YtagokdeflnkplaaDoor

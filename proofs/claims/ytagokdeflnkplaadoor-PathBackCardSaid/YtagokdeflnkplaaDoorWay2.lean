/-
  slices.Repeat; the walks of path.Parse and of the references; both read the same.
-/
import Derived.Test.YtagokdeflnkplaaDoorText
import Derived.Test.YtagokdeflnkplaaDoorWay1
import Derived.Laws.CopyOwn
import Derived.Laws.MakeOwn
import Derived.LoopTactic
import Derived.OwnWalk
import Derived.Deep.RegionLaw
import Derived.Test.YtagokdeflnkplaaDoorRep1
set_option linter.unusedSimpArgs false
namespace Go.Proofs.YtagokdeflnkplaaDoor
open Go.RowKit Go.Lib Go.Proofs.YtagokdeflnkplaaDoor.Am
def repC (a : Int) (n k : Nat) : List Value := List.replicate n (.int .i64 a) ++ List.replicate (k - n) (.int .i64 0)
theorem infoI : (Tryd.prog.info? 3).map (fun i => (i.zero, i.size, i.bytes)) = some (some (.int .i64 0), 1, 8) := by kernel_rfl
theorem alloc_at (w : World) (o : Obj) : (w.alloc o).heap[w.heap.size]? = some o := by show (w.heap.push o)[w.heap.size]? = _; simp
theorem repC_splice (a : Int) (n k m : Nat) (h : n + m ≤ k) : splice (repC a n k) n (List.replicate m (.int .i64 a)) = repC a (n + m) k := by
  unfold splice repC
  rw [List.take_left' (by simp), List.drop_append, List.length_replicate, List.length_replicate, List.drop_eq_nil_of_le (by simp), List.drop_replicate, List.nil_append, ← List.append_assoc, List.replicate_append_replicate]
  congr 2
  omega
theorem repC_len (a : Int) (n k : Nat) (h : n ≤ k) : (repC a n k).length = k := by unfold repC; simp; omega
theorem made_rep (k : Nat) : madeCells (Value.int .i64 0).cells (k * 1) = (repC 0 0 k).toArray := by
  have e : repC 0 0 k = List.replicate k (Value.int .i64 0) := by unfold repC; simp
  rw [e]
  have hz : (Value.int .i64 0).cells = #[Value.int .i64 0] := rfl
  apply Array.toList_inj.1
  rw [hz]
  unfold madeCells
  apply List.ext_getElem
  · simp
  · intro i h1 h2
    simp [Nat.mod_one]
theorem cell_one {w : World} {ad : Addr} {u : Value} (h : w.cell? ad = some u) : ∀ (j : Nat) (v : Value), [u][j]? = some v → w.cell? (ad.add j) = some v := fun j v hj => by
  match j, hj with
  | 0, hj =>
    have e : u = v := by simpa using hj
    subst e
    rw [show ad.add 0 = ad by unfold Addr.add; split <;> simp_all]; exact h
  | j + 1, hj => simp at hj
set_option maxRecDepth 100000 in
set_option maxHeartbeats 4000000 in
theorem repeat_raw (a : Int) (k : Nat) (h1 : 1 ≤ k) (h2 : k ≤ 1000000) (ad : Addr) (cap : Nat) (w : World) (hc : w.cell? ad = some (.int .i64 a)) (_hlt : ad.block < w.heap.size) :
    Calls Tryd.prog 55 #[.slice (some ad) 1 cap, .int .i64 k] w fun e w' => e = .returned (.slice (some ⟨w.heap.size, 0, none⟩) k k) ∧ w'.heap[w.heap.size]? = some (.cells (repC a k k).toArray 3 (0, 0)) ∧ Below w.heap.size w w' ∧ w.heap.size < w'.heap.size := by
  obtain ⟨i0, hi, hz0, hz1, hz2⟩ := info_parts infoI
  have hsz : (Tryd.prog.info? 3).map (·.size) = some 1 := by rw [hi]; simp [hz1]
  have hmk : ∀ w', (Instr.makeSlice 24 (.int .i64 (k : Int)) (.int .i64 (k : Int))).run Tryd.prog w' = .ok (.slice (some ⟨w'.heap.size, 0, none⟩) k k) (w'.alloc (.cells (repC 0 0 k).toArray 3)) := fun w' => by
    have := run_make (P := Tryd.prog) (w := w') 24 3 i0 (.int .i64 0) Tryd.underlying24 hi hz0 .i64 .i64 (k : Int) (k : Int) (by omega) (by omega) (by rw [hz2]; omega) (by omega)
    rw [hz1, Int.toNat_natCast, made_rep] at this
    exact this
  have e1 : ((1 * k / 18446744073709551616 : Nat) : Int) = 0 := by omega
  have e2 : ((1 * k % 18446744073709551616 : Nat) : Int) = k := by omega
  have hmul : ∀ w', Calls Tryd.prog 89 #[.int .u64 1, .int .u64 k] w' fun e w'' => e = .returned (.tuple #[.int .u64 0, .int .u64 k]) ∧ w'' = w' := fun w' => by
    have := Tryd.bits_Mul 1 k (by decide) (by omega) w'
    rw [e1, e2] at this
    exact this
  go_enter Tryd.func55, Tryd.ntmps55
  have hr0 : repC 0 0 k = repC a 0 k := rfl
  have hb0 : Below w.heap.size w (w.alloc (.cells (repC 0 0 k).toArray 3)) := (Below.refl _ w).alloc (Nat.le_refl _) _
  have hg0 : (w.alloc (.cells (repC 0 0 k).toArray 3)).heap[w.heap.size]? = some (.cells (repC a 0 k).toArray 3 (0, 0)) := by rw [hr0]; exact alloc_at w _
  have hc0 : (w.alloc (.cells (repC 0 0 k).toArray 3)).cell? ad = some (.int .i64 a) := Lib.cell?_alloc_some _ hc
  have HC : Aside ((w.alloc (.cells (repC 0 0 k).toArray 3)).cell? ad = some (.int .i64 a)) := hc0
  have HG : Aside ((w.alloc (.cells (repC 0 0 k).toArray 3)).heap[w.heap.size]? = some (.cells (repC a 0 k).toArray 3 (0, 0))) := hg0
  have HB : Aside (Below w.heap.size w (w.alloc (.cells (repC 0 0 k).toArray 3))) := hb0
  have hl0 := repC_len a 0 k (Nat.zero_le _)
  clear hc hc0 hg0 hb0
  obtain ⟨W2, hcp, HG2, HB2, hz2⟩ : ∃ W2, (Builtin.copy_ #[24, 24] 3 #[.slice (some ⟨w.heap.size, 0, none⟩) k k, .slice (some ad) 1 cap]).run Tryd.prog (w.alloc (.cells (repC a 0 k).toArray 3)) = .ok (goInt 1) W2 ∧
      Aside (W2.heap[w.heap.size]? = some (.cells (repC a 1 k).toArray 3 (0, 0))) ∧ Aside (Below w.heap.size w W2) ∧ w.heap.size < W2.heap.size := by
    have hcp := run_copy_row (P := Tryd.prog) (w.alloc (.cells (repC a 0 k).toArray 3)) 24 24 3 3 w.heap.size 0 k k ad 1 cap (repC a 0 k).toArray 3 [.int .i64 a] Tryd.underlying24 hsz HG.out (by simp [Nat.min_def]; omega) (cell_one HC.out) (by simp; omega) (by simp [Value.oneCell'])
    have hsp := repC_splice a 0 k 1 (by omega)
    refine ⟨_, hcp, ?_, below_setRow HB.out (Nat.le_refl _) _, ?_⟩
    · have := setRow_heap (w.alloc (.cells (repC a 0 k).toArray 3)) w.heap.size (repC a 0 k).toArray ((repC a 0 k).toArray.toList.take 0 ++ [Value.int .i64 a] ++ (repC a 0 k).toArray.toList.drop (0 + 1)).toArray 3 (0, 0) HG.out
      refine this.trans ?_
      rw [← show splice (repC a 0 k) 0 [Value.int .i64 a] = repC a (0 + 1) k from hsp]
      simp [splice]
    · simp [World.setRow]
  go_wp2_with (go_at_call 89; refine (hmul _).mono ?_; rintro e w' ⟨rfl, q⟩; have q := q.symm; subst q)
  go_loopw [8] (fun s8 wr => ∃ n : Nat, s8 = .int .i64 n ∧ 1 ≤ n ∧ n ≤ k ∧ Aside (wr.heap[w.heap.size]? = some (.cells (repC a n k).toArray 3 (0, 0))) ∧ Aside (Below w.heap.size w wr) ∧ w.heap.size < wr.heap.size) (fun s8 _ => k - (RowKit.intOf s8).toNat)
  case atStart => exact ⟨1, rfl, Nat.le_refl _, h1, HG2, HB2, hz2⟩
  case round =>
    obtain ⟨n, rfl, hn1, hn2, HGn, HBn, hzn⟩ := hrel
    by_cases hnk : n < k
    · obtain ⟨m, hm⟩ : ∃ m, m = min n (k - n) := ⟨_, rfl⟩
      have hm1 : 1 ≤ m ∧ n + m ≤ k ∧ m ≤ n := by omega
      have HGd : wr.drew.heap[w.heap.size]? = some (.cells (repC a n k).toArray 3 (0, 0)) := HGn.out
      have hln := repC_len a n k hn2
      obtain ⟨W3, hcp3, HG3, HB3, hz3⟩ : ∃ W3, (Builtin.copy_ #[24, 24] 3 #[.slice (some ⟨w.heap.size, n, none⟩) (k - n) (k - n), .slice (some ⟨w.heap.size, 0, none⟩) n k]).run Tryd.prog wr.drew = .ok (goInt m) W3 ∧
          Aside (W3.heap[w.heap.size]? = some (.cells (repC a (n + m) k).toArray 3 (0, 0))) ∧ Aside (Below w.heap.size w W3) ∧ w.heap.size < W3.heap.size := by
        have hcp := run_copy_row (P := Tryd.prog) wr.drew 24 24 3 3 w.heap.size n (k - n) (k - n) ⟨w.heap.size, 0, none⟩ n k (repC a n k).toArray 3 (List.replicate m (.int .i64 a)) Tryd.underlying24 hsz HGd (by rw [List.length_replicate, hm]) (fun j v hj => by
            have hjm : j < m := by have := (List.getElem?_eq_some_iff.1 hj).1; simpa using this
            rw [List.getElem?_replicate, if_pos hjm] at hj
            have hj := Option.some.inj hj
            subst hj
            rw [show (⟨w.heap.size, 0, none⟩ : Addr).add j = ⟨w.heap.size, j, none⟩ by simp [Addr.add]; omega]
            show World.cell? _ _ = _
            unfold World.cell?
            simp only [HGd]
            unfold repC
            simp [List.getElem?_append, show j < n by omega]) (by rw [List.length_replicate, List.size_toArray, hln]; omega) (by intro v hv; rw [(List.mem_replicate.1 hv).2]; rfl)
        have hsp := repC_splice a n k m (by omega)
        rw [List.length_replicate] at hcp
        have HBd : Below w.heap.size w wr.drew := HBn.out.trans ⟨rfl, rfl, rfl, Nat.le_refl _, fun _ _ => rfl⟩
        refine ⟨_, hcp, ?_, below_setRow HBd (Nat.le_refl _) _, ?_⟩
        · refine (setRow_heap wr.drew w.heap.size (repC a n k).toArray _ 3 (0, 0) HGd).trans ?_
          rw [← hsp]
          simp [splice]
        · simp [World.setRow]; exact hzn
      go_wp2
      go_region
      all_goals go_roundw
      case rel =>
       refine ⟨_, _, _, _, _, _, _, _, _, _, _, _, _, _, ⟨n + m, ?_, by omega, by omega, HG3, HB3, hz3⟩, rfl⟩
       rw [hm, Int.natCast_add]
      case measure => simp [RowKit.intOf]; omega
    · obtain rfl : n = k := by omega
      go_wp2
      go_ret
      exact ⟨rfl, HGn.out, HBn.out, hzn⟩
end Go.Proofs.YtagokdeflnkplaaDoor
set_option linter.unusedSimpArgs false
namespace Go.Proofs.YtagokdeflnkplaaDoor
open Go.Proofs.YtagokdeflnkplaaDoor.Am Go.Lib
open Go.RowKit (Below)
variable {G : GInv}
/-! ### slices.Repeat of one number -/
theorem intI_inv {im : Nat → Prop} {w : World} {k : IntKind} {n : Int} {v : Value} (h : RelI im w (.int k n) v) : v = .int k n := by cases h; rfl
theorem repeat_c (a : Int) (k : Nat) (h1 : 1 ≤ k) (h2 : k ≤ 1000000) : ACalls Tryd.prog G 55 [.sl 1 1 (fun _ => [.int .i64 a]), .int .i64 k] (.sl k 1 (fun _ => [.int .i64 a])) := by
  refine ⟨⟨_, _, Tryd.func55, rfl, by kernel_rfl⟩, ?_⟩
  intro im w vs him hG hl hr
  match vs, hl with
  | [u, b], _ =>
    have h0 : RelI im w (.sl 1 1 (fun _ => [.int .i64 a])) u := hr 0 (by simp) (by simp)
    have hb : RelI im w (.int .i64 k) b := hr 1 (by simp) (by simp)
    obtain rfl := intI_inv hb
    generalize hA : A.sl 1 1 (fun _ => [A.int IntKind.i64 a]) = X at h0
    cases h0 with
    | sl n sz row blk base cap us hbk hcap hln hc ho hrr =>
      injection hA with e1 e2 e3
      subst e1 e2 e3
      have hcell := hc 0 0 (by omega) (by omega)
      have hv : us 0 0 = .int .i64 a := intI_inv (hrr 0 0 (by omega) (by simp))
      rw [hv] at hcell
      simp only [Nat.zero_mul, Nat.add_zero] at hcell
      refine Calls_mono (repeat_raw a k h1 h2 ⟨blk, base, none⟩ cap w hcell (him _ hbk)) ?_
      rintro e w' ⟨rfl, hg, hB, hz⟩
      refine ⟨_, rfl, ?_, Bw.of_below hB⟩
      have hrow : ∀ i, i < k → w'.cell? ⟨w.heap.size, 0 + i * 1 + 0, none⟩ = some (.int .i64 a) := fun i hi => by
        unfold World.cell?
        simp only [hg]
        unfold repC
        simp [hi]
      refine .sl k 1 _ w.heap.size 0 k (fun _ _ => .int .i64 a) (.inr ⟨Nat.le_refl _, hz⟩) (Nat.le_refl _) (fun _ _ => rfl) ?_ (fun _ _ _ _ => rfl) ?_
      · intro i j hi hj
        have hj0 : j = 0 := by omega
        subst hj0
        exact hrow i hi
      · intro i j hi hj
        match j, hj with
        | 0, _ => exact .int _ _
        | j + 1, hj => exact absurd hj (by simp)
    | _ => cases hA
/-! ### Texts of ways are read -/
def gdP (ws : List (List UInt8)) (i : Nat) : Prop := (runV (ws.getD i [])).2 = true ∧ (i = 0 ∨ (runV (ws.getD (i - 1) [])).1.2 ≠ (runV (ws.getD i [])).1.2)
instance (ws : List (List UInt8)) (i : Nat) : Decidable (gdP ws i) := inferInstanceAs (Decidable (_ ∧ _))
def allGd (ws : List (List UInt8)) : Prop := ∀ i, i < ws.length → gdP ws i
instance (ws : List (List UInt8)) : Decidable (allGd ws) := inferInstanceAs (Decidable (∀ i, i < ws.length → gdP ws i))
def runsP (ws : List (List UInt8)) : List Run := ws.map fun w => (runV w).1
def parseW (s : List UInt8) : List Int × Int :=
  if s = [] then ([], 0) else
  if allGd (cutL 32 s) then (if totR (runsP (cutL 32 s)) ≤ 1000 then (expL (runsP (cutL 32 s)), 0) else ([], 4)) else ([], 2)
theorem rK_get {ws : List (List UInt8)} {i j : Nat} (hj : j < i) (hi : i ≤ ws.length) : (runsP (ws.take i)).getD j (0, 0) = (runV (ws.getD j [])).1 := by
  unfold runsP
  rw [List.getD_eq_getElem?_getD, List.getElem?_map, List.getElem?_take, if_pos hj, List.getD_eq_getElem?_getD, List.getElem?_eq_getElem (by omega)]; rfl
theorem rK_snoc {ws : List (List UInt8)} {i : Nat} (hi : i < ws.length) : runsP (ws.take (i + 1)) = runsP (ws.take i) ++ [(runV (ws.getD i [])).1] := by
  unfold runsP
  rw [List.take_add_one, List.getElem?_eq_getElem hi, Option.toList_some, List.map_append, List.getD_eq_getElem?_getD, List.getElem?_eq_getElem hi]; rfl
theorem rK_len {ws : List (List UInt8)} {i : Nat} (hi : i ≤ ws.length) : (runsP (ws.take i)).length = i := by unfold runsP; simp; omega
theorem rowCat_rep (L : List Int) (a : Int) (k : Nat) (j : Nat) (hj : j < L.length + k) : rowCat L.length (fun j => [A.int .i64 (L.getD j 0)]) (fun _ => [A.int .i64 a]) j = [A.int .i64 ((L ++ List.replicate k a).getD j 0)] := by
  unfold rowCat
  split
  · rename_i h
    have h : j < L.length := Nat.le_of_ble_eq_true h
    show [A.int IntKind.i64 (L.getD j 0)] = _
    rw [List.getD_eq_getElem?_getD, List.getD_eq_getElem?_getD, List.getElem?_append_left h]
  · rename_i h
    have h : ¬ j < L.length := fun h' => by rw [show Nat.blt j L.length = true from Nat.ble_eq_true_of_le h'] at h; cases h
    rw [List.getD_eq_getElem?_getD, List.getElem?_append_right (by omega), List.getElem?_replicate, if_pos (by omega)]; rfl
theorem exp_snoc {R : List Run} {i : Nat} (hi : i < R.length) : expL (R.take (i + 1)) = expL (R.take i) ++ List.replicate (R.getD i (0, 0)).1.toNat (R.getD i (0, 0)).2 ∧ totR (R.take (i + 1)) = totR (R.take i) + (R.getD i (0, 0)).1 := by
  rw [List.take_add_one, List.getElem?_eq_getElem hi, Option.toList_some, expL_app, expL_one, totR_app, List.getD_eq_getElem?_getD, List.getElem?_eq_getElem hi]
  exact ⟨rfl, by show _ = _ + _; simp [totR]⟩
theorem tot_take {R : List Run} (hp : ∀ x ∈ R, 1 ≤ x.1) {i : Nat} : totR (R.take i) ≤ totR R ∧ 0 ≤ totR (R.take i) := by
  have key : ∀ S : List Run, (∀ x ∈ S, 1 ≤ x.1) → 0 ≤ totR S := fun S h => by
    induction S with
    | nil => exact Int.le_refl _
    | cons x S ih => have := ih fun y hy => h y (by simp [hy]); have := h x (by simp); rw [totR]; omega
  have h1 := totR_app (R.take i) (R.drop i)
  rw [List.take_append_drop] at h1
  have h2 := key (R.drop i) fun x hx => hp x (List.mem_of_mem_drop hx)
  have h3 := key (R.take i) fun x hx => hp x (List.mem_of_mem_take hx)
  omega
theorem pparse_empty : ACalls Tryd.prog G 26 [.str []] (.tup [.nils, .int .i64 0]) := by
  refine ACalls.of_WA ttok Tryd.func26 rfl rfl _ rfl ?_
  conv => whnf
  repeat' (first | refine WA_seq ?_ | (refine WA_region ttok ?_; conv => whnf) | (refine WA_draw ttok mixed ?_; conv => whnf) | (refine WA_cond ?_; conv => whnf) | refine WA_block ?_ | (refine WA_skip ?_; conv => whnf) | (refine WA_exit ?_; conv => whnf) | (refine WA_ret ?_; conv => whnf) | (refine And.intro (fun h => ?_) (fun h => ?_) <;> (try simp only [brsA] at h) <;> conv => whnf) | (refine WR_fit ?_ ?_; (focus (first | exact wr_i64 (by omega) | exact wr_u64 (by omega) | exact wr_u8 (by omega) | exact wr_i32 (by omega) | exact wr_u32 (by omega))); conv => whnf) | (refine WR_wrap ?_; conv => whnf) | (refine And.intro (a := indepB _ _ = true) ?_ ?_; (focus kernel_rfl); conv => whnf) | (refine And.intro rfl ?_; conv => whnf) | (refine And.intro ?_ ?_; (focus (first | omega | decide | (dsimp only; omega) | (simp at *; omega))); conv => whnf))
  all_goals first | contradiction | (exfalso; omega) | skip
set_option maxRecDepth 100000 in
set_option maxHeartbeats 8000000 in
theorem pparse_c (hT : HasTab G) (hM : HasMax G) (s : List UInt8) (hs : s.length ≤ 100000) (h0 : s ≠ []) : ACalls Tryd.prog G 26 [.str s] (.tup [if (parseW s).2 = 0 then intsA (parseW s).1 else .nils, .int .i64 (parseW s).2]) := by
  have hsp := split_c hM s 32 (by omega)
  have hcl := cutL_len 32 s
  have hgl := cutL_get_len 32 s
  have p2 : ¬ allGd (cutL 32 s) → parseW s = ([], 2) := fun q => by unfold parseW; rw [if_neg h0, if_neg q]
  have p4 : allGd (cutL 32 s) → 1000 < totR (runsP (cutL 32 s)) → parseW s = ([], 4) := fun q z => by unfold parseW; rw [if_neg h0, if_pos q, if_neg (by omega)]
  have p0 : allGd (cutL 32 s) → totR (runsP (cutL 32 s)) ≤ 1000 → parseW s = (expL (runsP (cutL 32 s)), 0) := fun q z => by unfold parseW; rw [if_neg h0, if_pos q, if_pos z]
  generalize parseW s = P at *
  generalize cutL 32 s = ws at *
  refine ACalls.of_WA ttok Tryd.func26 rfl rfl _ rfl ?_
  conv => whnf
  repeat' (first | refine WA_seq ?_ | (refine WA_region ttok ?_; conv => whnf) | (refine WA_draw ttok mixed ?_; conv => whnf) | (refine WA_cond ?_; conv => whnf) | refine WA_block ?_ | (refine WA_skip ?_; conv => whnf) | (refine WA_exit ?_; conv => whnf) | (refine WA_ret ?_; conv => whnf) | (refine And.intro (fun h => ?_) (fun h => ?_) <;> (try simp only [brsA] at h) <;> conv => whnf) | (refine Or.inl ?_; (conv => whnf); refine Exists.intro _ (And.intro (hsp) ?_); conv => whnf) | (refine Or.inr (Or.inr (Or.inl ?_)); (conv => whnf); refine Exists.intro _ (And.intro (hsp) ?_); conv => whnf) | (refine Exists.intro _ (And.intro (hsp) ?_); conv => whnf) | (refine WR_fit ?_ ?_; (focus (first | exact wr_i64 (by omega) | exact wr_u64 (by omega) | exact wr_u8 (by omega) | exact wr_i32 (by omega) | exact wr_u32 (by omega))); conv => whnf) | (refine WR_wrap ?_; conv => whnf) | (refine And.intro (a := indepB _ _ = true) ?_ ?_; (focus kernel_rfl); conv => whnf) | (refine And.intro rfl ?_; conv => whnf) | (refine And.intro ?_ ?_; (focus (first | omega | decide | (dsimp only; omega) | (simp at *; omega))); conv => whnf))
  all_goals first | contradiction | (exfalso; omega) | skip
  refine WA_nil 4 78 2 rfl ?_
  conv => whnf
  refine WA_loopI (fun i : Nat => i ≤ ws.length ∧ ∀ j, j < i → gdP ws j) (fun i => [(17, .int .i64 (i : Int)), (6, .junk), (7, .junk), (8, .junk), (4, .own 0)]) (fun i => [.row 78 2 i (rowR (runsP (ws.take i)))]) (fun i => ws.length - i) 0 ⟨Nat.zero_le _, fun j hj => absurd hj (Nat.not_lt_zero _)⟩ ?_ ?_
  · conv => whnf
    repeat (first | exact rfl | exact trivial | exact Or.inl (fun _ _ => rfl) | exact (fun _ => rfl) | exact (fun _ _ => rfl) | exact Or.inl (fun _ hi => absurd hi (Nat.not_lt_zero _)) | (refine And.intro rfl ?_; conv => whnf) | (refine And.intro (Or.inl (fun _ _ => rfl)) ?_; conv => whnf) | (refine And.intro (fun _ => rfl) ?_; conv => whnf) | (refine And.intro (fun _ _ => rfl) ?_; conv => whnf) | (refine And.intro ?_ ?_; rotate_left; conv => whnf))
  · rintro i ⟨hi, hg⟩
    by_cases hil : i < ws.length
    · have hrun := prun_c hT hM (ws.getD i []) (by have := hgl i; omega)
      have hgd1 : ((runV (ws.getD i [])).2 = true ∧ (i = 0 ∨ (runV (ws.getD (i - 1) [])).1.2 ≠ (runV (ws.getD i [])).1.2)) → gdP ws i := fun q => q
      have hgd2 : ¬ ((runV (ws.getD i [])).2 = true ∧ (i = 0 ∨ (runV (ws.getD (i - 1) [])).1.2 ≠ (runV (ws.getD i [])).1.2)) → P = ([], 2) := fun q => p2 fun z => q (z i hil)
      have hrk := fun (q : 0 < i) => rK_get (ws := ws) (i := i) (j := i - 1) (by omega) hi
      have hsn := rK_snoc hil
      have hln := rK_len hi
      have et : ((i : Int) - 1).toNat = i - 1 := by omega
      generalize (runV (ws.getD i [])).1 = X at *
      generalize (runV (ws.getD i [])).2 = ok at *
      generalize (runV (ws.getD (i - 1) [])).1 = Y at *
      clear p0 p2 p4
      conv => whnf
      repeat' (first | refine WA_seq ?_ | (refine WA_region ttok ?_; conv => whnf) | (refine WA_draw ttok mixed ?_; conv => whnf) | (refine WA_cond ?_; conv => whnf) | refine WA_block ?_ | (refine WA_skip ?_; conv => whnf) | (refine WA_exit ?_; conv => whnf) | (refine WA_ret ?_; conv => whnf) | (refine And.intro (fun h => ?_) (fun h => ?_) <;> (try simp only [brsA] at h) <;> conv => whnf) | (refine Or.inl ?_; (conv => whnf); refine Exists.intro _ (And.intro (hrun) ?_); conv => whnf) | (refine Or.inr (Or.inr (Or.inl ?_)); (conv => whnf); refine Exists.intro _ (And.intro (hrun) ?_); conv => whnf) | (refine Exists.intro _ (And.intro (hrun) ?_); conv => whnf) | (refine WR_fit ?_ ?_; (focus (first | exact wr_i64 (by omega) | exact wr_u64 (by omega) | exact wr_u8 (by omega) | exact wr_i32 (by omega) | exact wr_u32 (by omega))); conv => whnf) | (refine WR_wrap ?_; conv => whnf) | (refine And.intro (a := indepB _ _ = true) ?_ ?_; (focus kernel_rfl); conv => whnf) | (refine And.intro rfl ?_; conv => whnf) | (refine And.intro ?_ ?_; (focus (first | omega | decide | (dsimp only; omega) | (simp at *; omega))); conv => whnf))
      all_goals first | contradiction | (exfalso; omega) | skip
      all_goals (try rw [et, hrk (by omega)] at *)
      all_goals first
        | (rw [hgd2 (fun q => by have := q.1; simp_all; done)]; repeat (first | exact rfl | exact trivial | exact Or.inl (fun _ _ => rfl) | exact (fun _ => rfl) | exact (fun _ _ => rfl) | exact Or.inl (fun _ hi => absurd hi (Nat.not_lt_zero _)) | (refine And.intro rfl ?_; conv => whnf) | (refine And.intro (Or.inl (fun _ _ => rfl)) ?_; conv => whnf) | (refine And.intro (fun _ => rfl) ?_; conv => whnf) | (refine And.intro (fun _ _ => rfl) ?_; conv => whnf) | (refine And.intro ?_ ?_; rotate_left; conv => whnf)); done)
        | (rw [hgd2 (fun q => by rcases q.2 with q | q <;> first | omega | exact q (by assumption))]; repeat (first | exact rfl | exact trivial | exact Or.inl (fun _ _ => rfl) | exact (fun _ => rfl) | exact (fun _ _ => rfl) | exact Or.inl (fun _ hi => absurd hi (Nat.not_lt_zero _)) | (refine And.intro rfl ?_; conv => whnf) | (refine And.intro (Or.inl (fun _ _ => rfl)) ?_; conv => whnf) | (refine And.intro (fun _ => rfl) ?_; conv => whnf) | (refine And.intro (fun _ _ => rfl) ?_; conv => whnf) | (refine And.intro ?_ ?_; rotate_left; conv => whnf)); done)
        | skip
      all_goals
        refine ⟨i + 1, ⟨(by omega), upto_succ hg (hgd1 ⟨by assumption, ?_⟩)⟩, (by show ws.length - (i + 1) < ws.length - i; omega), ?_⟩
        · first | exact Or.inl (by omega) | exact Or.inr (by assumption)
        · conv => whnf
          repeat (first | exact rfl | exact trivial | exact Or.inl (fun _ _ => rfl) | exact (fun _ => rfl) | exact (fun _ _ => rfl) | exact Or.inl (fun _ hi => absurd hi (Nat.not_lt_zero _)) | (refine And.intro rfl ?_; conv => whnf) | (refine And.intro (Or.inl (fun _ _ => rfl)) ?_; conv => whnf) | (refine And.intro (fun _ => rfl) ?_; conv => whnf) | (refine And.intro (fun _ _ => rfl) ?_; conv => whnf) | (refine And.intro ?_ ?_; rotate_left; conv => whnf))
          refine Or.inl fun j hj => ?_
          have hq := rowCat_run (runsP (ws.take i)) X (fun i => takeL 2 (List.drop (i * 2) [A.int .i64 X.1, A.int .i64 X.2])) rfl j (by omega)
          rw [hln] at hq
          rw [hsn]
          exact hq
    · have hie : i = ws.length := by omega
      subst hie
      have hall : allGd ws := hg
      rw [List.take_length]
      have hlR : (runsP ws).length = ws.length := by unfold runsP; simp
      have hok : ∀ x ∈ runsP ws, okRun x := fun x hx => by
        unfold runsP at hx
        obtain ⟨u, hu, rfl⟩ := List.mem_map.1 hx
        obtain ⟨j, hj, e⟩ := List.getElem_of_mem hu
        have := (hall j hj).1
        rw [List.getD_eq_getElem?_getD, List.getElem?_eq_getElem hj, Option.getD_some, e] at this
        exact (runV_some this).1
      have p4 := p4 hall
      have p0 := p0 hall
      clear p2 hg hgl hsp hall
      generalize runsP ws = R at *
      have hex := expL_len R (fun x hx => by have := (hok x hx).1; omega)
      have hpos : ∀ x ∈ R, 1 ≤ x.1 := fun x hx => (hok x hx).1
      conv => whnf
      repeat (first | refine WA_seq ?_ | (refine WA_region ttok ?_; conv => whnf) | (refine WA_draw ttok mixed ?_; conv => whnf) | (refine WA_cond ?_; conv => whnf) | refine WA_block ?_ | (refine WA_skip ?_; conv => whnf) | (refine WA_exit ?_; conv => whnf) | (refine WA_ret ?_; conv => whnf))
      refine ⟨fun h => ?_, fun h => ?_⟩
      · exact absurd (of_decide_eq_true h) (by omega)
      conv => whnf
      repeat' (first | refine WA_seq ?_ | (refine WA_region ttok ?_; conv => whnf) | (refine WA_draw ttok mixed ?_; conv => whnf) | (refine WA_cond ?_; conv => whnf) | refine WA_block ?_ | (refine WA_skip ?_; conv => whnf) | (refine WA_exit ?_; conv => whnf) | (refine WA_ret ?_; conv => whnf) | (refine And.intro (fun h => ?_) (fun h => ?_) <;> (try simp only [brsA] at h) <;> conv => whnf) | (refine WR_fit ?_ ?_; (focus (first | exact wr_i64 (by omega) | exact wr_u64 (by omega) | exact wr_u8 (by omega) | exact wr_i32 (by omega) | exact wr_u32 (by omega))); conv => whnf) | (refine WR_wrap ?_; conv => whnf) | (refine And.intro (a := indepB _ _ = true) ?_ ?_; (focus kernel_rfl); conv => whnf) | (refine And.intro rfl ?_; conv => whnf) | (refine And.intro ?_ ?_; (focus (first | omega | decide | (dsimp only; omega) | (simp at *; omega))); conv => whnf))
      all_goals first | contradiction | (exfalso; omega) | skip
      refine WA_nil 9 3 1 rfl ?_
      conv => whnf
      refine WA_loopI (fun i : Nat => i ≤ R.length ∧ totR (R.take i) ≤ 1000) (fun i => [(52, .int .i64 (i : Int)), (9, .own 1), (11, .junk)]) (fun i => [.row 78 2 R.length (rowR R), .row 3 1 (expL (R.take i)).length (fun j => [.int .i64 ((expL (R.take i)).getD j 0)])]) (fun i => R.length - i) 0 ⟨Nat.zero_le _, (by show (0 : Int) ≤ 1000; decide)⟩ ?_ ?_
      · conv => whnf
        repeat (first | exact rfl | exact trivial | exact Or.inl (fun _ _ => rfl) | exact (fun _ => rfl) | exact (fun _ _ => rfl) | exact Or.inl (fun _ hi => absurd hi (Nat.not_lt_zero _)) | (refine And.intro rfl ?_; conv => whnf) | (refine And.intro (Or.inl (fun _ _ => rfl)) ?_; conv => whnf) | (refine And.intro (fun _ => rfl) ?_; conv => whnf) | (refine And.intro (fun _ _ => rfl) ?_; conv => whnf) | (refine And.intro ?_ ?_; rotate_left; conv => whnf))
        exact hlR.symm
      · rintro i ⟨hi, ht⟩
        by_cases hil : i < R.length
        · have hm := mem_getD hil
          obtain ⟨o1, o2, o3, o4⟩ := hok _ hm
          obtain ⟨ex1, ex2⟩ := exp_snoc hil
          obtain ⟨tt1, tt2⟩ := tot_take hpos (i := i + 1)
          have hl1 := expL_len (R.take i) (fun x hx => by have := hpos x (List.mem_of_mem_take hx); omega)
          have hrep := repeat_c (G := G) (R.getD i (0, 0)).2 (R.getD i (0, 0)).1.toNat (by omega)
          rw [Int.toNat_of_nonneg (by omega)] at hrep
          rw [ex2] at tt1 tt2
          by_cases hf : 1000 - ((expL (R.take i)).length : Int) < (R.getD i (0, 0)).1
          · have hP := p4 (by omega)
            subst hP
            clear hrep
            conv => whnf
            repeat' (first | refine WA_seq ?_ | (refine WA_region ttok ?_; conv => whnf) | (refine WA_draw ttok mixed ?_; conv => whnf) | (refine WA_cond ?_; conv => whnf) | refine WA_block ?_ | (refine WA_skip ?_; conv => whnf) | (refine WA_exit ?_; conv => whnf) | (refine WA_ret ?_; conv => whnf) | (refine And.intro (fun h => ?_) (fun h => ?_) <;> (try simp only [brsA] at h) <;> conv => whnf) | (refine WR_fit ?_ ?_; (focus (first | exact wr_i64 (by omega) | exact wr_u64 (by omega) | exact wr_u8 (by omega) | exact wr_i32 (by omega) | exact wr_u32 (by omega))); conv => whnf) | (refine WR_wrap ?_; conv => whnf) | (refine And.intro (a := indepB _ _ = true) ?_ ?_; (focus kernel_rfl); conv => whnf) | (refine And.intro rfl ?_; conv => whnf) | (refine And.intro ?_ ?_; (focus (first | omega | decide | (dsimp only; omega) | (simp at *; omega))); conv => whnf))
            all_goals first | contradiction | (exfalso; omega) | skip
            all_goals first | (repeat (first | exact rfl | exact trivial | exact Or.inl (fun _ _ => rfl) | exact (fun _ => rfl) | exact (fun _ _ => rfl) | exact Or.inl (fun _ hi => absurd hi (Nat.not_lt_zero _)) | (refine And.intro rfl ?_; conv => whnf) | (refine And.intro (Or.inl (fun _ _ => rfl)) ?_; conv => whnf) | (refine And.intro (fun _ => rfl) ?_; conv => whnf) | (refine And.intro (fun _ _ => rfl) ?_; conv => whnf) | (refine And.intro ?_ ?_; rotate_left; conv => whnf)); done) | (exfalso; rw [Int.toNat_natCast] at *; omega) | skip
          · have hrep := hrep (by omega)
            have hfit : andL (fitA.fitL 6 0 [.sl 1 1 (fun k => takeL 1 (List.drop (k * 1) [A.int .i64 (R.getD i (0, 0)).2])), .int .i64 (R.getD i (0, 0)).1] [.sl 1 1 (fun _ => [.int .i64 (R.getD i (0, 0)).2]), .int .i64 (R.getD i (0, 0)).1]) := by
              conv => whnf
              repeat (first | exact rfl | exact trivial | exact Or.inl (fun _ _ => rfl) | exact (fun _ => rfl) | exact (fun _ _ => rfl) | exact Or.inl (fun _ hi => absurd hi (Nat.not_lt_zero _)) | (refine And.intro rfl ?_; conv => whnf) | (refine And.intro (Or.inl (fun _ _ => rfl)) ?_; conv => whnf) | (refine And.intro (fun _ => rfl) ?_; conv => whnf) | (refine And.intro (fun _ _ => rfl) ?_; conv => whnf) | (refine And.intro ?_ ?_; rotate_left; conv => whnf))
              all_goals (refine Or.inl fun i hi => ?_; rcases i with _ | _ | _ | _ | i <;> first | rfl | omega)
            have hcat := fun j hj => rowCat_rep (expL (R.take i)) (R.getD i (0, 0)).2 (R.getD i (0, 0)).1.toNat j hj
            conv => whnf
            repeat' (first | refine WA_seq ?_ | (refine WA_region ttok ?_; conv => whnf) | (refine WA_draw ttok mixed ?_; conv => whnf) | (refine WA_cond ?_; conv => whnf) | refine WA_block ?_ | (refine WA_skip ?_; conv => whnf) | (refine WA_exit ?_; conv => whnf) | (refine WA_ret ?_; conv => whnf) | (refine And.intro (fun h => ?_) (fun h => ?_) <;> (try simp only [brsA] at h) <;> conv => whnf) | (refine Or.inr (Or.inr (Or.inl ?_)); (conv => whnf); refine Exists.intro _ (And.intro (hrep.fit hfit) ?_); conv => whnf) | (refine Exists.intro _ (And.intro (hrep.fit hfit) ?_); conv => whnf) | (refine WR_fit ?_ ?_; (focus (first | exact wr_i64 (by omega) | exact wr_u64 (by omega) | exact wr_u8 (by omega) | exact wr_i32 (by omega) | exact wr_u32 (by omega))); conv => whnf) | (refine WR_wrap ?_; conv => whnf) | (refine And.intro (a := indepB _ _ = true) ?_ ?_; (focus kernel_rfl); conv => whnf) | (refine And.intro rfl ?_; conv => whnf) | (refine And.intro ?_ ?_; (focus (first | omega | decide | (dsimp only; omega) | (simp at *; omega))); conv => whnf))
            all_goals first | contradiction | (exfalso; omega) | (exfalso; rw [Int.toNat_natCast] at *; omega) | skip
            refine ⟨i + 1, ⟨(by omega), (by show totR (R.take (i + 1)) ≤ 1000; omega)⟩, (by show R.length - (i + 1) < R.length - i; omega), ?_⟩
            conv => whnf
            repeat (first | exact rfl | exact trivial | exact Or.inl (fun _ _ => rfl) | exact (fun _ => rfl) | exact (fun _ _ => rfl) | exact Or.inl (fun _ hi => absurd hi (Nat.not_lt_zero _)) | (refine And.intro rfl ?_; conv => whnf) | (refine And.intro (Or.inl (fun _ _ => rfl)) ?_; conv => whnf) | (refine And.intro (fun _ => rfl) ?_; conv => whnf) | (refine And.intro (fun _ _ => rfl) ?_; conv => whnf) | (refine And.intro ?_ ?_; rotate_left; conv => whnf))
            · refine Or.inl fun j hj => ?_
              rw [ex1]
              exact hcat j hj
            · rw [ex1, List.length_append, List.length_replicate]
        · have hie : i = R.length := by omega
          subst hie
          rw [List.take_length] at ht ⊢
          have hP := p0 ht
          subst hP
          conv => whnf
          repeat' (first | refine WA_seq ?_ | (refine WA_region ttok ?_; conv => whnf) | (refine WA_draw ttok mixed ?_; conv => whnf) | (refine WA_cond ?_; conv => whnf) | refine WA_block ?_ | (refine WA_skip ?_; conv => whnf) | (refine WA_exit ?_; conv => whnf) | (refine WA_ret ?_; conv => whnf) | (refine And.intro (fun h => ?_) (fun h => ?_) <;> (try simp only [brsA] at h) <;> conv => whnf) | (refine WR_fit ?_ ?_; (focus (first | exact wr_i64 (by omega) | exact wr_u64 (by omega) | exact wr_u8 (by omega) | exact wr_i32 (by omega) | exact wr_u32 (by omega))); conv => whnf) | (refine WR_wrap ?_; conv => whnf) | (refine And.intro (a := indepB _ _ = true) ?_ ?_; (focus kernel_rfl); conv => whnf) | (refine And.intro rfl ?_; conv => whnf) | (refine And.intro ?_ ?_; (focus (first | omega | decide | (dsimp only; omega) | (simp at *; omega))); conv => whnf))
          all_goals first | contradiction | (exfalso; omega) | skip
          exact ⟨Or.inl fun _ _ => rfl, rfl⟩
end Go.Proofs.YtagokdeflnkplaaDoor
set_option linter.unusedSimpArgs false
namespace Go.Proofs.YtagokdeflnkplaaDoor
open Go.Proofs.YtagokdeflnkplaaDoor.Am Go.Lib
variable {G : GInv}
/-! ### The reference -/
set_option maxRecDepth 100000 in
theorem ritems_c (L : List Run) (hl : L.length ≤ 1000000) : ACalls Tryd.prog G 22 [runsA L, runsA L] (.sb true) := by
  refine ACalls.of_WA ttok Tryd.func22 rfl rfl _ rfl ?_
  conv => whnf
  repeat' (first | refine WA_seq ?_ | (refine WA_region ttok ?_; conv => whnf) | (refine WA_draw ttok mixed ?_; conv => whnf) | (refine WA_cond ?_; conv => whnf) | refine WA_block ?_ | (refine WA_skip ?_; conv => whnf) | (refine WA_exit ?_; conv => whnf) | (refine WA_ret ?_; conv => whnf) | (refine And.intro (fun h => ?_) (fun h => ?_) <;> (try simp only [brsA] at h) <;> conv => whnf) | (refine WR_fit ?_ ?_; (focus (first | exact wr_i64 (by omega) | exact wr_u64 (by omega) | exact wr_u8 (by omega) | exact wr_i32 (by omega) | exact wr_u32 (by omega))); conv => whnf) | (refine WR_wrap ?_; conv => whnf) | (refine And.intro (a := indepB _ _ = true) ?_ ?_; (focus kernel_rfl); conv => whnf) | (refine And.intro rfl ?_; conv => whnf) | (refine And.intro ?_ ?_; (focus (first | omega | decide | (dsimp only; omega) | (simp at *; omega))); conv => whnf))
  all_goals first | contradiction | (exfalso; omega) | skip
  refine WA_loopI (fun i : Nat => i ≤ L.length) (fun i => [(5, .int .i64 (i : Int))]) (fun _ => []) (fun i => L.length - i) 0 (by omega) ?_ ?_
  · conv => whnf
    repeat (first | exact rfl | exact trivial | exact Or.inl (fun _ _ => rfl) | exact (fun _ => rfl) | exact (fun _ _ => rfl) | exact Or.inl (fun _ hi => absurd hi (Nat.not_lt_zero _)) | (refine And.intro rfl ?_; conv => whnf) | (refine And.intro (Or.inl (fun _ _ => rfl)) ?_; conv => whnf) | (refine And.intro (fun _ => rfl) ?_; conv => whnf) | (refine And.intro (fun _ _ => rfl) ?_; conv => whnf) | (refine And.intro ?_ ?_; rotate_left; conv => whnf))
  · intro i hi
    have hs : ((L.getD i (0, 0)).1 != (L.getD i (0, 0)).1 || ((L.getD i (0, 0)).2 != (L.getD i (0, 0)).2 || false)) = false := by simp
    have hs2 : ((L.getD i (0, 0)).1 == (L.getD i (0, 0)).1 && ((L.getD i (0, 0)).2 == (L.getD i (0, 0)).2 && true)) = true := by simp
    conv => whnf
    repeat' (first | refine WA_seq ?_ | (refine WA_region ttok ?_; conv => whnf) | (refine WA_draw ttok mixed ?_; conv => whnf) | (refine WA_cond ?_; conv => whnf) | refine WA_block ?_ | (refine WA_skip ?_; conv => whnf) | (refine WA_exit ?_; conv => whnf) | (refine WA_ret ?_; conv => whnf) | (refine And.intro (fun h => ?_) (fun h => ?_) <;> (try simp only [brsA] at h) <;> conv => whnf) | (refine WR_fit ?_ ?_; (focus (first | exact wr_i64 (by omega) | exact wr_u64 (by omega) | exact wr_u8 (by omega) | exact wr_i32 (by omega) | exact wr_u32 (by omega))); conv => whnf) | (refine WR_wrap ?_; conv => whnf) | (refine And.intro (a := indepB _ _ = true) ?_ ?_; (focus kernel_rfl); conv => whnf) | (refine And.intro rfl ?_; conv => whnf) | (refine And.intro ?_ ?_; (focus (first | omega | decide | (dsimp only; omega) | (simp at *; omega))); conv => whnf))
    all_goals first | contradiction | (exfalso; omega) | (exfalso; simp_all; done) | skip
    refine ⟨i + 1, (by show i + 1 ≤ L.length; omega), (by show L.length - (i + 1) < L.length - i; omega), ?_⟩
    conv => whnf
    repeat (first | exact rfl | exact trivial | exact Or.inl (fun _ _ => rfl) | exact (fun _ => rfl) | exact (fun _ _ => rfl) | exact Or.inl (fun _ hi => absurd hi (Nat.not_lt_zero _)) | (refine And.intro rfl ?_; conv => whnf) | (refine And.intro (Or.inl (fun _ _ => rfl)) ?_; conv => whnf) | (refine And.intro (fun _ => rfl) ?_; conv => whnf) | (refine And.intro (fun _ _ => rfl) ?_; conv => whnf) | (refine And.intro ?_ ?_; rotate_left; conv => whnf))
theorem addRun_last (R : List Run) (w : Int) : 0 < (addRun R w).length ∧ ((addRun R w).getD ((addRun R w).length - 1) (0, 0)).2 = w := by
  rcases snoc_cases R with q | ⟨r, x, q⟩
  · subst q; exact ⟨Nat.zero_lt_one, rfl⟩
  · subst q
    rw [addRun_snoc]
    split
    · rename_i e
      rw [List.length_append, List.length_singleton, getD_snoc, if_neg (by omega), if_pos (by omega)]
      exact ⟨by omega, e⟩
    · rw [List.length_append, List.length_singleton, getD_snoc, if_neg (by omega), if_pos (by omega)]
      exact ⟨by omega, rfl⟩
set_option maxRecDepth 100000 in
set_option maxHeartbeats 2000000 in
theorem rruns_c (l : List Int) (hl : l.length ≤ 1000000) : ACalls Tryd.prog G 24 [intsA l] (runsA (runsL l)) := by
  refine ACalls.of_WA ttok Tryd.func24 rfl rfl _ rfl ?_
  conv => whnf
  repeat' (first | refine WA_seq ?_ | (refine WA_region ttok ?_; conv => whnf) | (refine WA_draw ttok mixed ?_; conv => whnf) | (refine WA_cond ?_; conv => whnf) | refine WA_block ?_ | (refine WA_skip ?_; conv => whnf) | (refine WA_exit ?_; conv => whnf) | (refine WA_ret ?_; conv => whnf) | (refine And.intro (fun h => ?_) (fun h => ?_) <;> (try simp only [brsA] at h) <;> conv => whnf) | (refine WR_fit ?_ ?_; (focus (first | exact wr_i64 (by omega) | exact wr_u64 (by omega) | exact wr_u8 (by omega) | exact wr_i32 (by omega) | exact wr_u32 (by omega))); conv => whnf) | (refine WR_wrap ?_; conv => whnf) | (refine And.intro (a := indepB _ _ = true) ?_ ?_; (focus kernel_rfl); conv => whnf) | (refine And.intro rfl ?_; conv => whnf) | (refine And.intro ?_ ?_; (focus (first | omega | decide | (dsimp only; omega) | (simp at *; omega))); conv => whnf))
  refine WA_loopI (fun x : Nat × List Run => x.1 ≤ l.length ∧ x.2 = runsL (l.take x.1)) (fun x => match x with | (i, _) => [(4, .int .i64 (i : Int)), (3, .own 0), (5, .junk)]) (fun x => match x with | (_, R) => [.row 78 2 R.length (rowR R)]) (fun x => l.length - x.1) (0, []) ⟨Nat.zero_le _, rfl⟩ ?_ ?_
  · conv => whnf
    repeat (first | exact rfl | exact trivial | exact Or.inl (fun _ _ => rfl) | exact (fun _ => rfl) | exact (fun _ _ => rfl) | exact Or.inl (fun _ hi => absurd hi (Nat.not_lt_zero _)) | (refine And.intro rfl ?_; conv => whnf) | (refine And.intro (Or.inl (fun _ _ => rfl)) ?_; conv => whnf) | (refine And.intro (fun _ => rfl) ?_; conv => whnf) | (refine And.intro (fun _ _ => rfl) ?_; conv => whnf) | (refine And.intro ?_ ?_; rotate_left; conv => whnf))
    all_goals (try exact Or.inl fun _ h => absurd h (Nat.not_lt_zero _))
  · rintro ⟨i, R⟩ ⟨hi, hR⟩
    dsimp only at hi hR
    by_cases hil : i < l.length
    · have hs := take_runs hil
      rw [← hR] at hs
      have hb := runs_tot (l.take i)
      rw [← hR, List.length_take, Nat.min_eq_left hi] at hb
      obtain ⟨_, hb1, hb2⟩ := hb
      have hb3 := hb2 (R.length - 1)
      have hh := addRun_hit (R := R) (w := l.getD i 0)
      have hmi := addRun_miss (R := R) (w := l.getD i 0)
      have hlast : 0 < i → 0 < R.length ∧ (R.getD (R.length - 1) (0, 0)).2 = l.getD (i - 1) 0 := fun q => by
        have := take_runs (l := l) (i := i - 1) (by omega)
        rw [show i - 1 + 1 = i by omega, ← hR] at this
        have h2 := addRun_last (runsL (l.take (i - 1))) (l.getD (i - 1) 0)
        rw [← this] at h2
        exact h2
      have hR0 : i = 0 → R.length = 0 := fun q => by rw [hR, q]; rfl
      have et : ((i : Int) - 1).toNat = i - 1 := by omega
      have et2 : ((R.length : Int) - 1).toNat = R.length - 1 := by omega
      conv => whnf
      repeat' (first | refine WA_seq ?_ | (refine WA_region ttok ?_; conv => whnf) | (refine WA_draw ttok mixed ?_; conv => whnf) | (refine WA_cond ?_; conv => whnf) | refine WA_block ?_ | (refine WA_skip ?_; conv => whnf) | (refine WA_exit ?_; conv => whnf) | (refine WA_ret ?_; conv => whnf) | (refine And.intro (fun h => ?_) (fun h => ?_) <;> (try simp only [brsA] at h) <;> conv => whnf) | (refine WR_fit ?_ ?_; (focus (first | exact wr_i64 (by omega) | exact wr_u64 (by omega) | exact wr_u8 (by omega) | exact wr_i32 (by omega) | exact wr_u32 (by omega))); conv => whnf) | (refine WR_wrap ?_; conv => whnf) | (refine And.intro (a := indepB _ _ = true) ?_ ?_; (focus kernel_rfl); conv => whnf) | (refine And.intro rfl ?_; conv => whnf) | (refine And.intro ?_ ?_; (focus (first | omega | decide | (dsimp only; omega) | (simp at *; omega))); conv => whnf))
      all_goals first | contradiction | (exfalso; omega) | skip
      · rw [et, Int.toNat_natCast] at h
        have hl2 := hlast (by omega)
        obtain ⟨q1, q2⟩ := hh hl2.1 (by rw [hl2.2, h])
        refine ⟨(i + 1, addRun R (l.getD i 0)), ⟨(by show i + 1 ≤ l.length; omega), hs.symm⟩, (by show l.length - (i + 1) < l.length - i; omega), ?_⟩
        clear hs
        rw [et2]
        generalize addRun R (l.getD i 0) = R' at *
        conv => whnf
        repeat (first | exact rfl | exact trivial | exact Or.inl (fun _ _ => rfl) | exact (fun _ => rfl) | exact (fun _ _ => rfl) | exact Or.inl (fun _ hi => absurd hi (Nat.not_lt_zero _)) | (refine And.intro rfl ?_; conv => whnf) | (refine And.intro (Or.inl (fun _ _ => rfl)) ?_; conv => whnf) | (refine And.intro (fun _ => rfl) ?_; conv => whnf) | (refine And.intro (fun _ _ => rfl) ?_; conv => whnf) | (refine And.intro ?_ ?_; rotate_left; conv => whnf))
        · refine Or.inl fun j hj => ?_
          rw [q2 j hj, show IntKind.i64.wrap ((R.getD (R.length - 1) (0, 0)).1 + 1) = (R.getD (R.length - 1) (0, 0)).1 + 1 by rw [IntKind.wrap_i64]; omega]
          rfl
        · exact q1.symm
      · rw [et, Int.toNat_natCast] at h
        have hl2 := hlast (by omega)
        rw [hmi (Or.inr (by rw [hl2.2]; exact fun q => h q.symm))] at hs
        refine ⟨(i + 1, R ++ [(1, l.getD i 0)]), ⟨(by show i + 1 ≤ l.length; omega), hs.symm⟩, (by show l.length - (i + 1) < l.length - i; omega), ?_⟩
        conv => whnf
        repeat (first | exact rfl | exact trivial | exact Or.inl (fun _ _ => rfl) | exact (fun _ => rfl) | exact (fun _ _ => rfl) | exact Or.inl (fun _ hi => absurd hi (Nat.not_lt_zero _)) | (refine And.intro rfl ?_; conv => whnf) | (refine And.intro (Or.inl (fun _ _ => rfl)) ?_; conv => whnf) | (refine And.intro (fun _ => rfl) ?_; conv => whnf) | (refine And.intro (fun _ _ => rfl) ?_; conv => whnf) | (refine And.intro ?_ ?_; rotate_left; conv => whnf))
        all_goals first | exact Or.inl fun j hj => rowCat_run R (1, l.getD i 0) _ rfl j hj | (rw [List.length_append]; rfl) | (rw [IntKind.wrap_i64]; omega)
      · rw [hmi (Or.inl (hR0 (by omega)))] at hs
        refine ⟨(i + 1, R ++ [(1, l.getD i 0)]), ⟨(by show i + 1 ≤ l.length; omega), hs.symm⟩, (by show l.length - (i + 1) < l.length - i; omega), ?_⟩
        conv => whnf
        repeat (first | exact rfl | exact trivial | exact Or.inl (fun _ _ => rfl) | exact (fun _ => rfl) | exact (fun _ _ => rfl) | exact Or.inl (fun _ hi => absurd hi (Nat.not_lt_zero _)) | (refine And.intro rfl ?_; conv => whnf) | (refine And.intro (Or.inl (fun _ _ => rfl)) ?_; conv => whnf) | (refine And.intro (fun _ => rfl) ?_; conv => whnf) | (refine And.intro (fun _ _ => rfl) ?_; conv => whnf) | (refine And.intro ?_ ?_; rotate_left; conv => whnf))
        all_goals first | exact Or.inl fun j hj => rowCat_run R (1, l.getD i 0) _ rfl j hj | (rw [List.length_append]; rfl) | (rw [IntKind.wrap_i64]; omega)
    · have hie : i = l.length := by omega
      subst hie
      rw [List.take_length] at hR
      subst hR
      conv => whnf
      repeat' (first | refine WA_seq ?_ | (refine WA_region ttok ?_; conv => whnf) | (refine WA_draw ttok mixed ?_; conv => whnf) | (refine WA_cond ?_; conv => whnf) | refine WA_block ?_ | (refine WA_skip ?_; conv => whnf) | (refine WA_exit ?_; conv => whnf) | (refine WA_ret ?_; conv => whnf) | (refine And.intro (fun h => ?_) (fun h => ?_) <;> (try simp only [brsA] at h) <;> conv => whnf) | (refine WR_fit ?_ ?_; (focus (first | exact wr_i64 (by omega) | exact wr_u64 (by omega) | exact wr_u8 (by omega) | exact wr_i32 (by omega) | exact wr_u32 (by omega))); conv => whnf) | (refine WR_wrap ?_; conv => whnf) | (refine And.intro (a := indepB _ _ = true) ?_ ?_; (focus kernel_rfl); conv => whnf) | (refine And.intro rfl ?_; conv => whnf) | (refine And.intro ?_ ?_; (focus (first | omega | decide | (dsimp only; omega) | (simp at *; omega))); conv => whnf))
      all_goals first | contradiction | (exfalso; omega) | skip
      exact Or.inl fun _ _ => rfl
theorem may_at {l : List Int} : mayL l ↔ ((∀ i, i < l.length → 0 ≤ l.getD i 0 ∧ l.getD i 0 ≤ 1152921504606846976) ∧ l.length ≤ 1000) := by
  unfold mayL
  refine and_congr ⟨fun h i hi => h _ ?_, fun h x hx => ?_⟩ Iff.rfl
  · rw [List.getD_eq_getElem?_getD, List.getElem?_eq_getElem hi]; exact List.getElem_mem hi
  · obtain ⟨i, hi, e⟩ := List.getElem_of_mem hx
    have := h i hi
    rw [List.getD_eq_getElem?_getD, List.getElem?_eq_getElem hi, Option.getD_some, e] at this
    exact this
set_option maxRecDepth 100000 in
theorem rmayW_c (l : List Int) (hl : l.length ≤ 1000000) : ACalls Tryd.prog G 25 [intsA l] (.sb (decide (mayL l))) := by
  have hm := may_at (l := l)
  refine ACalls.of_WA ttok Tryd.func25 rfl rfl _ rfl ?_
  conv => whnf
  repeat' (first | refine WA_seq ?_ | (refine WA_region ttok ?_; conv => whnf) | (refine WA_draw ttok mixed ?_; conv => whnf) | (refine WA_cond ?_; conv => whnf) | refine WA_block ?_ | (refine WA_skip ?_; conv => whnf) | (refine WA_exit ?_; conv => whnf) | (refine WA_ret ?_; conv => whnf) | (refine And.intro (fun h => ?_) (fun h => ?_) <;> (try simp only [brsA] at h) <;> conv => whnf) | (refine WR_fit ?_ ?_; (focus (first | exact wr_i64 (by omega) | exact wr_u64 (by omega) | exact wr_u8 (by omega) | exact wr_i32 (by omega) | exact wr_u32 (by omega))); conv => whnf) | (refine WR_wrap ?_; conv => whnf) | (refine And.intro (a := indepB _ _ = true) ?_ ?_; (focus kernel_rfl); conv => whnf) | (refine And.intro rfl ?_; conv => whnf) | (refine And.intro ?_ ?_; (focus (first | omega | decide | (dsimp only; omega) | (simp at *; omega))); conv => whnf))
  all_goals first | contradiction | (exfalso; omega) | skip
  refine WA_loopI (fun i : Nat => i ≤ l.length ∧ ∀ j, j < i → 0 ≤ l.getD j 0 ∧ l.getD j 0 ≤ 1152921504606846976) (fun i => [(3, .int .i64 (i : Int))]) (fun _ => []) (fun i => l.length - i) 0 ⟨by omega, fun j hj => absurd hj (by omega)⟩ ?_ ?_
  · conv => whnf
    repeat (first | exact rfl | exact trivial | exact Or.inl (fun _ _ => rfl) | exact (fun _ => rfl) | exact (fun _ _ => rfl) | exact Or.inl (fun _ hi => absurd hi (Nat.not_lt_zero _)) | (refine And.intro rfl ?_; conv => whnf) | (refine And.intro (Or.inl (fun _ _ => rfl)) ?_; conv => whnf) | (refine And.intro (fun _ => rfl) ?_; conv => whnf) | (refine And.intro (fun _ _ => rfl) ?_; conv => whnf) | (refine And.intro ?_ ?_; rotate_left; conv => whnf))
  · rintro i ⟨hi, hN⟩
    conv => whnf
    repeat' (first | refine WA_seq ?_ | (refine WA_region ttok ?_; conv => whnf) | (refine WA_draw ttok mixed ?_; conv => whnf) | (refine WA_cond ?_; conv => whnf) | refine WA_block ?_ | (refine WA_skip ?_; conv => whnf) | (refine WA_exit ?_; conv => whnf) | (refine WA_ret ?_; conv => whnf) | (refine And.intro (fun h => ?_) (fun h => ?_) <;> (try simp only [brsA] at h) <;> conv => whnf) | (refine WR_fit ?_ ?_; (focus (first | exact wr_i64 (by omega) | exact wr_u64 (by omega) | exact wr_u8 (by omega) | exact wr_i32 (by omega) | exact wr_u32 (by omega))); conv => whnf) | (refine WR_wrap ?_; conv => whnf) | (refine And.intro (a := indepB _ _ = true) ?_ ?_; (focus kernel_rfl); conv => whnf) | (refine And.intro rfl ?_; conv => whnf) | (refine And.intro ?_ ?_; (focus (first | omega | decide | (dsimp only; omega) | (simp at *; omega))); conv => whnf))
    all_goals first | contradiction | (exfalso; omega) | skip
    · refine (decide_eq_false fun hM => ?_).symm
      have hb := (hm.1 hM).1 i (by omega)
      rw [Int.toNat_natCast] at *
      omega
    · refine ⟨i + 1, ⟨by omega, upto_succ hN ?_⟩, (by show l.length - (i + 1) < l.length - i; omega), ?_⟩
      · rw [Int.toNat_natCast] at *; omega
      · conv => whnf
        repeat (first | exact rfl | exact trivial | exact Or.inl (fun _ _ => rfl) | exact (fun _ => rfl) | exact (fun _ _ => rfl) | exact Or.inl (fun _ hi => absurd hi (Nat.not_lt_zero _)) | (refine And.intro rfl ?_; conv => whnf) | (refine And.intro (Or.inl (fun _ _ => rfl)) ?_; conv => whnf) | (refine And.intro (fun _ => rfl) ?_; conv => whnf) | (refine And.intro (fun _ _ => rfl) ?_; conv => whnf) | (refine And.intro ?_ ?_; rotate_left; conv => whnf))
    · refine (decide_eq_false fun hM => ?_).symm
      have hb := (hm.1 hM).1 i (by omega)
      rw [Int.toNat_natCast] at *
      omega
    · have hie : i = l.length := by omega
      subst hie
      refine decide_eq_decide.2 ⟨fun q => hm.2 ⟨hN, by omega⟩, fun q => ?_⟩
      have := (hm.1 q).2
      omega
theorem wtkR_ne {R : List Run} {i : Nat} (h : 0 < i) (hi : i ≤ R.length) : wtkR R i ≠ [] := fun q => by
  have := wtkR_len hi
  rw [q] at this
  simp at this; omega
theorem fb_slice (a : Int) (h : 0 ≤ a) (x y : Int) (hx : x = Int.tmod a 2) (hy : y = Int.tmod a 2 + 1) : (([102, 98] : List UInt8).take y.toNat).drop x.toNat = fbW a := by
  have e : Int.tmod a 2 = a % 2 := Int.tmod_eq_emod_of_nonneg h
  subst hx hy
  unfold fbW
  rw [e]
  rcases (show a % 2 = 0 ∨ a % 2 = 1 by omega) with q | q <;> rw [q] <;> rfl
def preR (R : List Run) (i : Nat) : List UInt8 := if i = 0 then [] else join (wtkR R i) [32]
theorem preR_snoc {R : List Run} {i : Nat} (h : i < R.length) : preR R (i + 1) = (if 0 < i then preR R i ++ [32] else preR R i) ++ wordR (R.getD i (0, 0)) := by
  unfold preR
  rw [if_neg (by omega), wtkR_snoc h]
  by_cases h0 : 0 < i
  · rw [if_pos h0, if_neg (by omega), join_snoc _ _ _ (wtkR_ne h0 (by omega)), List.append_assoc]
  · have hi : i = 0 := by omega
    subst hi
    rw [if_neg (by omega), if_pos rfl]
    show join ((R.take 0).map wordR ++ [_]) [32] = _
    rw [List.take_zero, List.map_nil, List.nil_append, join_one, List.nil_append]
theorem preR_len {R : List Run} (hR : ∀ x ∈ R, smallR x) : ∀ i, i ≤ R.length → (preR R i).length ≤ 51 * i
  | 0, _ => by unfold preR; simp
  | i + 1, h => by
    have ih := preR_len hR i (by omega)
    have hw := wordR_len _ (hR _ (mem_getD (R := R) (i := i) (by omega)))
    rw [preR_snoc (by omega)]
    rw [List.length_append]
    split <;> (try simp only [List.length_append, List.length_cons, List.length_nil]) <;> omega
set_option maxRecDepth 100000 in
set_option maxHeartbeats 4000000 in
theorem rtextW_c (l : List Int) (hm : mayL l) : ACalls Tryd.prog G 27 [intsA l] (.str (textL l)) := by
  have hr := rruns_c (G := G) l (by have := hm.2; omega)
  obtain ⟨m1, m2⟩ := may_runs hm
  have e : textL l = preR (runsL l) (runsL l).length := by
    unfold textL preR
    split
    · rename_i q
      rw [List.eq_nil_of_length_eq_zero q]; rfl
    · rw [wtkR_all]
  rw [e]
  clear e
  generalize runsL l = R at *
  have hpl := preR_len (R := R) (fun x hx => (m2 x hx).1)
  refine ACalls.of_WA ttok Tryd.func27 rfl rfl _ rfl ?_
  conv => whnf
  repeat' (first | refine WA_seq ?_ | (refine WA_region ttok ?_; conv => whnf) | (refine WA_draw ttok mixed ?_; conv => whnf) | (refine WA_cond ?_; conv => whnf) | refine WA_block ?_ | (refine WA_skip ?_; conv => whnf) | (refine WA_exit ?_; conv => whnf) | (refine WA_ret ?_; conv => whnf) | (refine And.intro (fun h => ?_) (fun h => ?_) <;> (try simp only [brsA] at h) <;> conv => whnf) | (refine Or.inl ?_; (conv => whnf); refine Exists.intro _ (And.intro (hr) ?_); conv => whnf) | (refine Or.inr (Or.inr (Or.inl ?_)); (conv => whnf); refine Exists.intro _ (And.intro (hr) ?_); conv => whnf) | (refine Exists.intro _ (And.intro (hr) ?_); conv => whnf) | (refine WR_fit ?_ ?_; (focus (first | exact wr_i64 (by omega) | exact wr_u64 (by omega) | exact wr_u8 (by omega) | exact wr_i32 (by omega) | exact wr_u32 (by omega))); conv => whnf) | (refine WR_wrap ?_; conv => whnf) | (refine And.intro (a := indepB _ _ = true) ?_ ?_; (focus kernel_rfl); conv => whnf) | (refine And.intro rfl ?_; conv => whnf) | (refine And.intro ?_ ?_; (focus (first | omega | decide | (dsimp only; omega) | (simp at *; omega))); conv => whnf))
  all_goals first | contradiction | (exfalso; omega) | skip
  refine WA_loopI (fun i : Nat => i ≤ R.length) (fun i => [(5, .int .i64 (i : Int)), (3, .str (preR R i))]) (fun i => []) (fun i => R.length - i) 0 (Nat.zero_le _) ?_ ?_
  · conv => whnf
    repeat (first | exact rfl | exact trivial | exact Or.inl (fun _ _ => rfl) | exact (fun _ => rfl) | exact (fun _ _ => rfl) | exact Or.inl (fun _ hi => absurd hi (Nat.not_lt_zero _)) | (refine And.intro rfl ?_; conv => whnf) | (refine And.intro (Or.inl (fun _ _ => rfl)) ?_; conv => whnf) | (refine And.intro (fun _ => rfl) ?_; conv => whnf) | (refine And.intro (fun _ _ => rfl) ?_; conv => whnf) | (refine And.intro ?_ ?_; rotate_left; conv => whnf))
  · intro i hi
    have hpi := hpl i hi
    by_cases hil : i < R.length
    · obtain ⟨⟨s1, s2, s3, s4⟩, _⟩ := m2 _ (mem_getD (R := R) (i := ((i : Nat) : Int).toNat) (by omega))
      obtain ⟨d1, d2⟩ := half_bd s3 s4
      have hsn := preR_snoc hil
      have t1 := refText_c (G := G) (Int.tdiv (R.getD ((i : Nat) : Int).toNat (0, 0)).2 2) (by omega) (by omega)
      have t2 := refText_c (G := G) (R.getD ((i : Nat) : Int).toNat (0, 0)).1 (by omega) (by omega)
      have l1 := itoa_len (Int.tdiv (R.getD ((i : Nat) : Int).toNat (0, 0)).2 2) (by omega) (by omega)
      have l2 := itoa_len (R.getD ((i : Nat) : Int).toNat (0, 0)).1 (by omega) (by omega)
      have hm0 : 0 ≤ Int.tmod (R.getD ((i : Nat) : Int).toNat (0, 0)).2 2 ∧ Int.tmod (R.getD ((i : Nat) : Int).toNat (0, 0)).2 2 ≤ 1 := by rw [Int.tmod_eq_emod_of_nonneg s3]; omega
      conv => whnf
      repeat' (first | refine WA_seq ?_ | (refine WA_region ttok ?_; conv => whnf) | (refine WA_draw ttok mixed ?_; conv => whnf) | (refine WA_cond ?_; conv => whnf) | refine WA_block ?_ | (refine WA_skip ?_; conv => whnf) | (refine WA_exit ?_; conv => whnf) | (refine WA_ret ?_; conv => whnf) | (refine And.intro (fun h => ?_) (fun h => ?_) <;> (try simp only [brsA] at h) <;> conv => whnf) | (refine Or.inl ?_; (conv => whnf); refine Exists.intro _ (And.intro (t1) ?_); conv => whnf) | (refine Or.inr (Or.inr (Or.inl ?_)); (conv => whnf); refine Exists.intro _ (And.intro (t1) ?_); conv => whnf) | (refine Exists.intro _ (And.intro (t1) ?_); conv => whnf) | (refine Or.inl ?_; (conv => whnf); refine Exists.intro _ (And.intro (t2) ?_); conv => whnf) | (refine Or.inr (Or.inr (Or.inl ?_)); (conv => whnf); refine Exists.intro _ (And.intro (t2) ?_); conv => whnf) | (refine Exists.intro _ (And.intro (t2) ?_); conv => whnf) | (refine WR_fit ?_ ?_; (focus (first | exact wr_i64 (by omega) | exact wr_u64 (by omega) | exact wr_u8 (by omega) | exact wr_i32 (by omega) | exact wr_u32 (by omega))); conv => whnf) | (refine WR_wrap ?_; conv => whnf) | (refine And.intro (a := indepB _ _ = true) ?_ ?_; (focus kernel_rfl); conv => whnf) | (refine And.intro rfl ?_; conv => whnf) | (refine And.intro ?_ ?_; (focus (first | omega | decide | (dsimp only; omega) | (simp at *; omega))); conv => whnf))
      all_goals first | contradiction | (exfalso; omega) | skip
      all_goals
        refine ⟨i + 1, (by show i + 1 ≤ R.length; omega), (by show R.length - (i + 1) < R.length - i; omega), ?_⟩
        conv => whnf
        repeat (first | exact rfl | exact trivial | exact Or.inl (fun _ _ => rfl) | exact (fun _ => rfl) | exact (fun _ _ => rfl) | exact Or.inl (fun _ hi => absurd hi (Nat.not_lt_zero _)) | (refine And.intro rfl ?_; conv => whnf) | (refine And.intro (Or.inl (fun _ _ => rfl)) ?_; conv => whnf) | (refine And.intro (fun _ => rfl) ?_; conv => whnf) | (refine And.intro (fun _ _ => rfl) ?_; conv => whnf) | (refine And.intro ?_ ?_; rotate_left; conv => whnf))
        rw [hsn]
        have hfb : List.drop (Int.tmod (R.getD ((i : Nat) : Int).toNat (0, 0)).2 2).toNat (List.take (Int.tmod (R.getD ((i : Nat) : Int).toNat (0, 0)).2 2 + 1).toNat [102, 98]) = fbW (R.getD ((i : Nat) : Int).toNat (0, 0)).2 := fb_slice _ s3 _ _ rfl rfl
        have e1 : (({ data := #[102, 98] } : ByteArray).data.toList) = [102, 98] := rfl
        rw [e1, hfb]
        rw [Int.toNat_natCast] at h ⊢
        unfold wordR
        first | rw [if_pos (show 0 < i by omega)] | rw [if_neg (show ¬ 0 < i by omega)]
        first | rw [if_pos h] | rw [if_neg h]
        simp
    · have hie : i = R.length := by omega
      subst hie
      conv => whnf
      repeat' (first | refine WA_seq ?_ | (refine WA_region ttok ?_; conv => whnf) | (refine WA_draw ttok mixed ?_; conv => whnf) | (refine WA_cond ?_; conv => whnf) | refine WA_block ?_ | (refine WA_skip ?_; conv => whnf) | (refine WA_exit ?_; conv => whnf) | (refine WA_ret ?_; conv => whnf) | (refine And.intro (fun h => ?_) (fun h => ?_) <;> (try simp only [brsA] at h) <;> conv => whnf) | (refine WR_fit ?_ ?_; (focus (first | exact wr_i64 (by omega) | exact wr_u64 (by omega) | exact wr_u8 (by omega) | exact wr_i32 (by omega) | exact wr_u32 (by omega))); conv => whnf) | (refine WR_wrap ?_; conv => whnf) | (refine And.intro (a := indepB _ _ = true) ?_ ?_; (focus kernel_rfl); conv => whnf) | (refine And.intro rfl ?_; conv => whnf) | (refine And.intro ?_ ?_; (focus (first | omega | decide | (dsimp only; omega) | (simp at *; omega))); conv => whnf))
      all_goals first | contradiction | (exfalso; omega) | skip
end Go.Proofs.YtagokdeflnkplaaDoor
set_option linter.unusedSimpArgs false
namespace Go.Proofs.YtagokdeflnkplaaDoor
open Go.Proofs.YtagokdeflnkplaaDoor.Am Go.Lib
variable {G : GInv}
set_option maxRecDepth 100000 in
set_option maxHeartbeats 8000000 in
theorem rwordV_c (s : List UInt8) (hs : s.length ≤ 100000) : ACalls Tryd.prog G 57 [.str s] (.tup [.agg [.int .i64 (runV s).1.1, .int .i64 (runV s).1.2], .sb (runV s).2]) := by
  have hcut : ACalls Tryd.prog G 56 [.str s, .int .u8 120] (strsA (cutL 120 s)) := rcut_c s 120 (by omega)
  have hgl := cutL_get_len 120 s
  have hcl := cutL_len 120 s
  have hL0 := List.length_pos_iff.2 (cutL_ne 120 s)
  obtain ⟨R, hR⟩ : ∃ R, R = runV s := ⟨_, rfl⟩
  rw [← hR]
  unfold runV at hR
  generalize cutL 120 s = L at *
  have e0 : L.getD 0 [] = L.getD (Int.toNat 0) [] := rfl
  have e1 : L.getD 1 [] = L.getD (Int.toNat 1) [] := rfl
  have hl0 := hgl (Int.toNat 0)
  have hl1 := hgl (Int.toNat 1)
  clear hgl
  unfold runVL at hR
  rw [e0, e1] at hR
  clear e0 e1
  have c1 := rparse_c (G := G) (L.getD (Int.toNat 1) []) (by omega)
  have n1 := parseN_near' (L.getD (Int.toNat 1) [])
  have n2 := parseN_near' (L.getD (Int.toNat 0) []).dropLast
  generalize parseN (L.getD (Int.toNat 1) []) = P1 at *
  by_cases h1 : 2 < L.length ∨ (L.getD (Int.toNat 0) []).length < 2
  · rw [if_pos h1] at hR
    subst hR
    clear c1
    refine ACalls.of_WA ttok Tryd.func57 rfl rfl _ rfl ?_
    conv => whnf
    repeat' (first | refine WA_seq ?_ | (refine WA_region ttok ?_; conv => whnf) | (refine WA_draw ttok mixed ?_; conv => whnf) | (refine WA_cond ?_; conv => whnf) | refine WA_block ?_ | (refine WA_skip ?_; conv => whnf) | (refine WA_exit ?_; conv => whnf) | (refine WA_ret ?_; conv => whnf) | (refine And.intro (fun h => ?_) (fun h => ?_) <;> (try simp only [brsA] at h) <;> conv => whnf) | (refine Or.inl ?_; (conv => whnf); refine Exists.intro _ (And.intro (hcut) ?_); conv => whnf) | (refine Or.inr (Or.inr (Or.inl ?_)); (conv => whnf); refine Exists.intro _ (And.intro (hcut) ?_); conv => whnf) | (refine Exists.intro _ (And.intro (hcut) ?_); conv => whnf) | (refine WR_fit ?_ ?_; (focus (first | exact wr_i64 (by omega) | exact wr_u64 (by omega) | exact wr_u8 (by omega) | exact wr_i32 (by omega) | exact wr_u32 (by omega))); conv => whnf) | (refine WR_wrap ?_; conv => whnf) | (refine And.intro (a := indepB _ _ = true) ?_ ?_; (focus kernel_rfl); conv => whnf) | (refine And.intro rfl ?_; conv => whnf) | (refine And.intro ?_ ?_; (focus (first | omega | decide | (dsimp only; omega) | (simp at *; omega))); conv => whnf))
    all_goals first | contradiction | (exfalso; omega) | skip
    all_goals repeat (first | exact rfl | exact trivial | exact Or.inl (fun _ _ => rfl) | exact (fun _ => rfl) | exact (fun _ _ => rfl) | exact Or.inl (fun _ hi => absurd hi (Nat.not_lt_zero _)) | (refine And.intro rfl ?_; conv => whnf) | (refine And.intro (Or.inl (fun _ _ => rfl)) ?_; conv => whnf) | (refine And.intro (fun _ => rfl) ?_; conv => whnf) | (refine And.intro (fun _ _ => rfl) ?_; conv => whnf) | (refine And.intro ?_ ?_; rotate_left; conv => whnf))
  · rw [if_neg h1] at hR
    have hne : (L.getD (Int.toNat 0) []) ≠ [] := fun q => h1 (Or.inr (by rw [q]; decide))
    obtain ⟨g1, g2⟩ := last_getD' hne
    have hE : List.drop 0 (List.take (((L.getD (Int.toNat 0) []).length : Int) - 1).toNat (L.getD (Int.toNat 0) [])) = (L.getD (Int.toNat 0) []).dropLast := by rw [g2, List.drop_zero, show (((L.getD (Int.toNat 0) []).length : Int) - 1).toNat = (L.getD (Int.toNat 0) []).length - 1 by omega]
    have hZ : (L.getD (Int.toNat 0) []).getD (((L.getD (Int.toNat 0) []).length : Int) - 1).toNat 0 = (L.getD (Int.toNat 0) []).getD ((L.getD (Int.toNat 0) []).length - 1) 0 := by rw [show (((L.getD (Int.toNat 0) []).length : Int) - 1).toNat = (L.getD (Int.toNat 0) []).length - 1 by omega]
    have c2 := rparse_c (G := G) (L.getD (Int.toNat 0) []).dropLast (by rw [List.length_dropLast]; omega)
    rw [g1, ← hZ] at hR
    clear g1 g2 hZ
    generalize parseN (L.getD (Int.toNat 0) []).dropLast = PH at *
    rw [← hE] at c2
    have u := u8_eq ((L.getD (Int.toNat 0) []).getD (((L.getD (Int.toNat 0) []).length : Int) - 1).toNat 0) 98
    have u' := u8_eq ((L.getD (Int.toNat 0) []).getD (((L.getD (Int.toNat 0) []).length : Int) - 1).toNat 0) 102
    have r2 : L.length = 2 → (P1.2 ≠ 0 ∨ P1.1 < 2) → R = ((0, 0), false) := fun q1 q2 => by rw [hR, if_pos ⟨q1, q2⟩]
    have r3 : (L.length = 2 → P1.2 = 0 ∧ ¬ P1.1 < 2) → (PH.2 ≠ 0 ∨ PH.1 < 0 ∨ 576460752303423488 < PH.1) → R = ((0, 0), false) := fun q1 q2 => by
      rw [hR, if_neg (fun q => by have := q1 q.1; omega), if_pos q2]
    have r4 : (L.length = 2 → P1.2 = 0 ∧ ¬ P1.1 < 2) → ¬ (PH.2 ≠ 0 ∨ PH.1 < 0 ∨ 576460752303423488 < PH.1) → (((L.getD (Int.toNat 0) []).getD (((L.getD (Int.toNat 0) []).length : Int) - 1).toNat 0).toNat : Int) = 102 → R = ((if L.length = 2 then P1.1 else 1, 2 * PH.1), true) := fun q1 q2 q3 => by
      rw [hR, if_neg (fun q => by have := q1 q.1; omega), if_neg q2, if_pos (by rw [u'.1 q3])]
    have r5 : (L.length = 2 → P1.2 = 0 ∧ ¬ P1.1 < 2) → ¬ (PH.2 ≠ 0 ∨ PH.1 < 0 ∨ 576460752303423488 < PH.1) → (((L.getD (Int.toNat 0) []).getD (((L.getD (Int.toNat 0) []).length : Int) - 1).toNat 0).toNat : Int) = 98 → R = ((if L.length = 2 then P1.1 else 1, 2 * PH.1 + 1), decide (2 * PH.1 + 1 ≤ 1152921504606846976)) := fun q1 q2 q3 => by
      rw [hR, if_neg (fun q => by have := q1 q.1; omega), if_neg q2, if_neg (fun q => by rw [Option.some.inj q] at q3; exact absurd q3 (by decide)), if_pos (by rw [u.1 q3])]
    have r6 : (L.length = 2 → P1.2 = 0 ∧ ¬ P1.1 < 2) → ¬ (PH.2 ≠ 0 ∨ PH.1 < 0 ∨ 576460752303423488 < PH.1) → ¬ (((L.getD (Int.toNat 0) []).getD (((L.getD (Int.toNat 0) []).length : Int) - 1).toNat 0).toNat : Int) = 98 → ¬ (((L.getD (Int.toNat 0) []).getD (((L.getD (Int.toNat 0) []).length : Int) - 1).toNat 0).toNat : Int) = 102 → R = ((0, 0), false) := fun q1 q2 q3 q4 => by
      rw [hR, if_neg (fun q => by have := q1 q.1; omega), if_neg q2, if_neg (fun q => q4 (u'.2 (Option.some.inj q))), if_neg (fun q => q3 (u.2 (Option.some.inj q)))]
    clear hR u u'
    refine ACalls.of_WA ttok Tryd.func57 rfl rfl _ rfl ?_
    conv => whnf
    repeat' (first | refine WA_seq ?_ | (refine WA_region ttok ?_; conv => whnf) | (refine WA_draw ttok mixed ?_; conv => whnf) | (refine WA_cond ?_; conv => whnf) | refine WA_block ?_ | (refine WA_skip ?_; conv => whnf) | (refine WA_exit ?_; conv => whnf) | (refine WA_ret ?_; conv => whnf) | (refine And.intro (fun h => ?_) (fun h => ?_) <;> (try simp only [brsA] at h) <;> conv => whnf) | (refine Or.inl ?_; (conv => whnf); refine Exists.intro _ (And.intro (hcut) ?_); conv => whnf) | (refine Or.inr (Or.inr (Or.inl ?_)); (conv => whnf); refine Exists.intro _ (And.intro (hcut) ?_); conv => whnf) | (refine Exists.intro _ (And.intro (hcut) ?_); conv => whnf) | (refine Or.inl ?_; (conv => whnf); refine Exists.intro _ (And.intro (c1) ?_); conv => whnf) | (refine Or.inr (Or.inr (Or.inl ?_)); (conv => whnf); refine Exists.intro _ (And.intro (c1) ?_); conv => whnf) | (refine Exists.intro _ (And.intro (c1) ?_); conv => whnf) | (refine Or.inl ?_; (conv => whnf); refine Exists.intro _ (And.intro (c2) ?_); conv => whnf) | (refine Or.inr (Or.inr (Or.inl ?_)); (conv => whnf); refine Exists.intro _ (And.intro (c2) ?_); conv => whnf) | (refine Exists.intro _ (And.intro (c2) ?_); conv => whnf) | (refine WR_fit ?_ ?_; (focus (first | exact wr_i64 (by omega) | exact wr_u64 (by omega) | exact wr_u8 (by omega) | exact wr_i32 (by omega) | exact wr_u32 (by omega))); conv => whnf) | (refine WR_wrap ?_; conv => whnf) | (refine And.intro (a := indepB _ _ = true) ?_ ?_; (focus kernel_rfl); conv => whnf) | (refine And.intro rfl ?_; conv => whnf) | (refine And.intro ?_ ?_; (focus (first | omega | decide | (dsimp only; omega) | (simp at *; omega))); conv => whnf))
    all_goals first | contradiction | (exfalso; omega) | skip
    all_goals first
      | rw [r2 (by omega) (by first | exact Or.inl (by assumption) | exact Or.inr (by assumption))]
      | rw [r3 (fun _ => by first | exact ⟨by assumption, by assumption⟩ | (exfalso; omega)) (by omega)]
      | rw [r4 (fun _ => by first | exact ⟨by assumption, by assumption⟩ | (exfalso; omega)) (by omega) (by first | assumption | omega)]
      | rw [r5 (fun _ => by first | exact ⟨by assumption, by assumption⟩ | (exfalso; omega)) (by omega) (by assumption)]
      | rw [r6 (fun _ => by first | exact ⟨by assumption, by assumption⟩ | (exfalso; omega)) (by omega) (by assumption) (by assumption)]
      | skip
    all_goals clear r2 r3 r4 r5 r6
    all_goals repeat (first | exact rfl | exact trivial | exact Or.inl (fun _ _ => rfl) | exact (fun _ => rfl) | exact (fun _ _ => rfl) | exact Or.inl (fun _ hi => absurd hi (Nat.not_lt_zero _)) | (refine And.intro rfl ?_; conv => whnf) | (refine And.intro (Or.inl (fun _ _ => rfl)) ?_; conv => whnf) | (refine And.intro (fun _ => rfl) ?_; conv => whnf) | (refine And.intro (fun _ _ => rfl) ?_; conv => whnf) | (refine And.intro ?_ ?_; rotate_left; conv => whnf))
    all_goals first | exact decide_eq_true (by omega) | (simp only [if_pos (show L.length = 2 by omega)]; done) | (simp only [if_neg (show ¬ L.length = 2 by omega)]; done)
set_option maxRecDepth 100000 in
set_option maxHeartbeats 8000000 in
theorem rparseW_c (s : List UInt8) (hs : s.length ≤ 100000) (h0 : s ≠ []) : ACalls Tryd.prog G 29 [.str s] (.tup [if (parseW s).2 = 0 then intsA (parseW s).1 else .nils, .int .i64 (parseW s).2]) := by
  have hsp : ACalls Tryd.prog G 56 [.str s, .int .u8 32] (strsA (cutL 32 s)) := rcut_c s 32 (by omega)
  have hcl := cutL_len 32 s
  have hgl := cutL_get_len 32 s
  have hpos := List.length_pos_iff.2 h0
  have p2 : ¬ allGd (cutL 32 s) → parseW s = ([], 2) := fun q => by unfold parseW; rw [if_neg h0, if_neg q]
  have p4 : allGd (cutL 32 s) → 1000 < totR (runsP (cutL 32 s)) → parseW s = ([], 4) := fun q z => by unfold parseW; rw [if_neg h0, if_pos q, if_neg (by omega)]
  have p0 : allGd (cutL 32 s) → totR (runsP (cutL 32 s)) ≤ 1000 → parseW s = (expL (runsP (cutL 32 s)), 0) := fun q z => by unfold parseW; rw [if_neg h0, if_pos q, if_pos z]
  generalize parseW s = P at *
  generalize cutL 32 s = ws at *
  refine ACalls.of_WA ttok Tryd.func29 rfl rfl _ rfl ?_
  conv => whnf
  repeat' (first | refine WA_seq ?_ | (refine WA_region ttok ?_; conv => whnf) | (refine WA_draw ttok mixed ?_; conv => whnf) | (refine WA_cond ?_; conv => whnf) | refine WA_block ?_ | (refine WA_skip ?_; conv => whnf) | (refine WA_exit ?_; conv => whnf) | (refine WA_ret ?_; conv => whnf) | (refine And.intro (fun h => ?_) (fun h => ?_) <;> (try simp only [brsA] at h) <;> conv => whnf) | (refine Or.inl ?_; (conv => whnf); refine Exists.intro _ (And.intro (hsp) ?_); conv => whnf) | (refine Or.inr (Or.inr (Or.inl ?_)); (conv => whnf); refine Exists.intro _ (And.intro (hsp) ?_); conv => whnf) | (refine Exists.intro _ (And.intro (hsp) ?_); conv => whnf) | (refine WR_fit ?_ ?_; (focus (first | exact wr_i64 (by omega) | exact wr_u64 (by omega) | exact wr_u8 (by omega) | exact wr_i32 (by omega) | exact wr_u32 (by omega))); conv => whnf) | (refine WR_wrap ?_; conv => whnf) | (refine And.intro (a := indepB _ _ = true) ?_ ?_; (focus kernel_rfl); conv => whnf) | (refine And.intro rfl ?_; conv => whnf) | (refine And.intro ?_ ?_; (focus (first | omega | decide | (dsimp only; omega) | (simp at *; omega))); conv => whnf))
  all_goals first | contradiction | (exfalso; omega) | skip
  refine WA_loopI (fun i : Nat => i ≤ ws.length ∧ ∀ j, j < i → gdP ws j) (fun i => [(6, .int .i64 (i : Int)), (7, .junk), (8, .junk), (17, .junk), (5, .own 0)]) (fun i => [.row 78 2 i (rowR (runsP (ws.take i)))]) (fun i => ws.length - i) 0 ⟨Nat.zero_le _, fun j hj => absurd hj (Nat.not_lt_zero _)⟩ ?_ ?_
  · conv => whnf
    repeat (first | exact rfl | exact trivial | exact Or.inl (fun _ _ => rfl) | exact (fun _ => rfl) | exact (fun _ _ => rfl) | exact Or.inl (fun _ hi => absurd hi (Nat.not_lt_zero _)) | (refine And.intro rfl ?_; conv => whnf) | (refine And.intro (Or.inl (fun _ _ => rfl)) ?_; conv => whnf) | (refine And.intro (fun _ => rfl) ?_; conv => whnf) | (refine And.intro (fun _ _ => rfl) ?_; conv => whnf) | (refine And.intro ?_ ?_; rotate_left; conv => whnf))
    all_goals (try exact Or.inl fun _ h => absurd h (Nat.not_lt_zero _))
  · rintro i ⟨hi, hg⟩
    by_cases hil : i < ws.length
    · have hrun := rwordV_c (G := G) (ws.getD i []) (by have := hgl i; omega)
      have hgd1 : ((runV (ws.getD i [])).2 = true ∧ (i = 0 ∨ (runV (ws.getD (i - 1) [])).1.2 ≠ (runV (ws.getD i [])).1.2)) → gdP ws i := fun q => q
      have hgd2 : ¬ ((runV (ws.getD i [])).2 = true ∧ (i = 0 ∨ (runV (ws.getD (i - 1) [])).1.2 ≠ (runV (ws.getD i [])).1.2)) → P = ([], 2) := fun q => p2 fun z => q (z i hil)
      have hrk := fun (q : 0 < i) => rK_get (ws := ws) (i := i) (j := i - 1) (by omega) hi
      have hsn := rK_snoc hil
      have hln := rK_len hi
      have et : ((i : Int) - 1).toNat = i - 1 := by omega
      generalize (runV (ws.getD i [])).1 = X at *
      generalize (runV (ws.getD i [])).2 = ok at *
      generalize (runV (ws.getD (i - 1) [])).1 = Y at *
      clear p0 p2 p4
      conv => whnf
      repeat' (first | refine WA_seq ?_ | (refine WA_region ttok ?_; conv => whnf) | (refine WA_draw ttok mixed ?_; conv => whnf) | (refine WA_cond ?_; conv => whnf) | refine WA_block ?_ | (refine WA_skip ?_; conv => whnf) | (refine WA_exit ?_; conv => whnf) | (refine WA_ret ?_; conv => whnf) | (refine And.intro (fun h => ?_) (fun h => ?_) <;> (try simp only [brsA] at h) <;> conv => whnf) | (refine Or.inl ?_; (conv => whnf); refine Exists.intro _ (And.intro (hrun) ?_); conv => whnf) | (refine Or.inr (Or.inr (Or.inl ?_)); (conv => whnf); refine Exists.intro _ (And.intro (hrun) ?_); conv => whnf) | (refine Exists.intro _ (And.intro (hrun) ?_); conv => whnf) | (refine WR_fit ?_ ?_; (focus (first | exact wr_i64 (by omega) | exact wr_u64 (by omega) | exact wr_u8 (by omega) | exact wr_i32 (by omega) | exact wr_u32 (by omega))); conv => whnf) | (refine WR_wrap ?_; conv => whnf) | (refine And.intro (a := indepB _ _ = true) ?_ ?_; (focus kernel_rfl); conv => whnf) | (refine And.intro rfl ?_; conv => whnf) | (refine And.intro ?_ ?_; (focus (first | omega | decide | (dsimp only; omega) | (simp at *; omega))); conv => whnf))
      all_goals first | contradiction | (exfalso; omega) | skip
      all_goals (try rw [et, hrk (by omega)] at *)
      all_goals first
        | (rw [hgd2 (fun q => by have := q.1; simp_all; done)]; repeat (first | exact rfl | exact trivial | exact Or.inl (fun _ _ => rfl) | exact (fun _ => rfl) | exact (fun _ _ => rfl) | exact Or.inl (fun _ hi => absurd hi (Nat.not_lt_zero _)) | (refine And.intro rfl ?_; conv => whnf) | (refine And.intro (Or.inl (fun _ _ => rfl)) ?_; conv => whnf) | (refine And.intro (fun _ => rfl) ?_; conv => whnf) | (refine And.intro (fun _ _ => rfl) ?_; conv => whnf) | (refine And.intro ?_ ?_; rotate_left; conv => whnf)); done)
        | (rw [hgd2 (fun q => by rcases q.2 with q | q <;> first | omega | exact q (by assumption))]; repeat (first | exact rfl | exact trivial | exact Or.inl (fun _ _ => rfl) | exact (fun _ => rfl) | exact (fun _ _ => rfl) | exact Or.inl (fun _ hi => absurd hi (Nat.not_lt_zero _)) | (refine And.intro rfl ?_; conv => whnf) | (refine And.intro (Or.inl (fun _ _ => rfl)) ?_; conv => whnf) | (refine And.intro (fun _ => rfl) ?_; conv => whnf) | (refine And.intro (fun _ _ => rfl) ?_; conv => whnf) | (refine And.intro ?_ ?_; rotate_left; conv => whnf)); done)
        | skip
      all_goals
        refine ⟨i + 1, ⟨(by omega), upto_succ hg (hgd1 ⟨by assumption, ?_⟩)⟩, (by show ws.length - (i + 1) < ws.length - i; omega), ?_⟩
        · first | exact Or.inl (by omega) | exact Or.inr (by assumption)
        · conv => whnf
          repeat (first | exact rfl | exact trivial | exact Or.inl (fun _ _ => rfl) | exact (fun _ => rfl) | exact (fun _ _ => rfl) | exact Or.inl (fun _ hi => absurd hi (Nat.not_lt_zero _)) | (refine And.intro rfl ?_; conv => whnf) | (refine And.intro (Or.inl (fun _ _ => rfl)) ?_; conv => whnf) | (refine And.intro (fun _ => rfl) ?_; conv => whnf) | (refine And.intro (fun _ _ => rfl) ?_; conv => whnf) | (refine And.intro ?_ ?_; rotate_left; conv => whnf))
          refine Or.inl fun j hj => ?_
          have hq := rowCat_run (runsP (ws.take i)) X (fun i => takeL 2 (List.drop (i * 2) [A.int .i64 X.1, A.int .i64 X.2])) rfl j (by omega)
          rw [hln] at hq
          rw [hsn]
          exact hq
    · have hie : i = ws.length := by omega
      subst hie
      have hall : allGd ws := hg
      rw [List.take_length]
      have hlR : (runsP ws).length = ws.length := by unfold runsP; simp
      have hok : ∀ x ∈ runsP ws, okRun x := fun x hx => by
        unfold runsP at hx
        obtain ⟨u, hu, rfl⟩ := List.mem_map.1 hx
        obtain ⟨j, hj, e⟩ := List.getElem_of_mem hu
        have := (hall j hj).1
        rw [List.getD_eq_getElem?_getD, List.getElem?_eq_getElem hj, Option.getD_some, e] at this
        exact (runV_some this).1
      have p4 := p4 hall
      have p0 := p0 hall
      clear p2 hg hgl hsp hall
      generalize runsP ws = R at *
      have hpos : ∀ x ∈ R, 1 ≤ x.1 := fun x hx => (hok x hx).1
      conv => whnf
      repeat' (first | refine WA_seq ?_ | (refine WA_region ttok ?_; conv => whnf) | (refine WA_draw ttok mixed ?_; conv => whnf) | (refine WA_cond ?_; conv => whnf) | refine WA_block ?_ | (refine WA_skip ?_; conv => whnf) | (refine WA_exit ?_; conv => whnf) | (refine WA_ret ?_; conv => whnf) | (refine And.intro (fun h => ?_) (fun h => ?_) <;> (try simp only [brsA] at h) <;> conv => whnf) | (refine WR_fit ?_ ?_; (focus (first | exact wr_i64 (by omega) | exact wr_u64 (by omega) | exact wr_u8 (by omega) | exact wr_i32 (by omega) | exact wr_u32 (by omega))); conv => whnf) | (refine WR_wrap ?_; conv => whnf) | (refine And.intro (a := indepB _ _ = true) ?_ ?_; (focus kernel_rfl); conv => whnf) | (refine And.intro rfl ?_; conv => whnf) | (refine And.intro ?_ ?_; (focus (first | omega | decide | (dsimp only; omega) | (simp at *; omega))); conv => whnf))
      all_goals first | contradiction | (exfalso; omega) | skip
      refine WA_loopI (fun i : Nat => i ≤ R.length ∧ totR (R.take i) ≤ 1000) (fun i => [(10, .int .i64 (i : Int)), (9, .own 1), (53, .junk), (11, .junk)]) (fun i => [.row 78 2 R.length (rowR R), .row 3 1 (expL (R.take i)).length (fun j => [.int .i64 ((expL (R.take i)).getD j 0)])]) (fun i => R.length - i) 0 ⟨Nat.zero_le _, (by show (0 : Int) ≤ 1000; decide)⟩ ?_ ?_
      · conv => whnf
        repeat (first | exact rfl | exact trivial | exact Or.inl (fun _ _ => rfl) | exact (fun _ => rfl) | exact (fun _ _ => rfl) | exact Or.inl (fun _ hi => absurd hi (Nat.not_lt_zero _)) | (refine And.intro rfl ?_; conv => whnf) | (refine And.intro (Or.inl (fun _ _ => rfl)) ?_; conv => whnf) | (refine And.intro (fun _ => rfl) ?_; conv => whnf) | (refine And.intro (fun _ _ => rfl) ?_; conv => whnf) | (refine And.intro ?_ ?_; rotate_left; conv => whnf))
        all_goals first | exact hlR.symm | exact Or.inl fun _ h => absurd h (Nat.not_lt_zero _)
      · rintro i ⟨hi, ht⟩
        by_cases hil : i < R.length
        · obtain ⟨o1, o2, o3, o4⟩ := hok _ (mem_getD hil)
          obtain ⟨ex1, ex2⟩ := exp_snoc hil
          obtain ⟨tt1, tt2⟩ := tot_take hpos (i := i + 1)
          have hl1 := expL_len (R.take i) (fun x hx => by have := hpos x (List.mem_of_mem_take hx); omega)
          rw [ex2] at tt1 tt2
          have ei : ((i : Nat) : Int).toNat = i := Int.toNat_natCast i
          conv => whnf
          repeat' (first | refine WA_seq ?_ | (refine WA_region ttok ?_; conv => whnf) | (refine WA_draw ttok mixed ?_; conv => whnf) | (refine WA_cond ?_; conv => whnf) | refine WA_block ?_ | (refine WA_skip ?_; conv => whnf) | (refine WA_exit ?_; conv => whnf) | (refine WA_ret ?_; conv => whnf) | (refine And.intro (fun h => ?_) (fun h => ?_) <;> (try simp only [brsA] at h) <;> conv => whnf) | (refine WR_fit ?_ ?_; (focus (first | exact wr_i64 (by omega) | exact wr_u64 (by omega) | exact wr_u8 (by omega) | exact wr_i32 (by omega) | exact wr_u32 (by omega))); conv => whnf) | (refine WR_wrap ?_; conv => whnf) | (refine And.intro (a := indepB _ _ = true) ?_ ?_; (focus kernel_rfl); conv => whnf) | (refine And.intro rfl ?_; conv => whnf) | (refine And.intro ?_ ?_; (focus (first | omega | decide | (dsimp only; omega) | (simp at *; omega))); conv => whnf))
          all_goals first | contradiction | (exfalso; omega) | skip
          refine WA_loopI (fun k : Nat => (k : Int) ≤ (R.getD i (0, 0)).1 ∧ (expL (R.take i)).length + k ≤ 1000) (fun k => [(11, .int .i64 (k : Int)), (9, .own 1), (53, .junk)]) (fun k => [.row 78 2 R.length (rowR R), .row 3 1 ((expL (R.take i)).length + k) (fun j => [.int .i64 ((expL (R.take i) ++ List.replicate k (R.getD i (0, 0)).2).getD j 0)])]) (fun k => (R.getD i (0, 0)).1.toNat - k) 0 ⟨(by show (0 : Int) ≤ _; omega), (by show (expL (R.take i)).length + 0 ≤ 1000; omega)⟩ ?_ ?_
          · conv => whnf
            repeat (first | exact rfl | exact trivial | exact Or.inl (fun _ _ => rfl) | exact (fun _ => rfl) | exact (fun _ _ => rfl) | exact Or.inl (fun _ hi => absurd hi (Nat.not_lt_zero _)) | (refine And.intro rfl ?_; conv => whnf) | (refine And.intro (Or.inl (fun _ _ => rfl)) ?_; conv => whnf) | (refine And.intro (fun _ => rfl) ?_; conv => whnf) | (refine And.intro (fun _ _ => rfl) ?_; conv => whnf) | (refine And.intro ?_ ?_; rotate_left; conv => whnf))
            refine Or.inl fun j _ => ?_
            show _ = [A.int .i64 ((expL (R.take i) ++ []).getD j 0)]
            rw [List.append_nil]
          · rintro k ⟨hk1, hk2⟩
            have hcat := fun j hj => rowCat_rep (expL (R.take i) ++ List.replicate k (R.getD i (0, 0)).2) (R.getD i (0, 0)).2 1 j hj
            have hlk : (expL (R.take i) ++ List.replicate k (R.getD i (0, 0)).2).length = (expL (R.take i)).length + k := by rw [List.length_append, List.length_replicate]
            rw [hlk] at hcat
            conv => whnf
            repeat' (first | refine WA_seq ?_ | (refine WA_region ttok ?_; conv => whnf) | (refine WA_draw ttok mixed ?_; conv => whnf) | (refine WA_cond ?_; conv => whnf) | refine WA_block ?_ | (refine WA_skip ?_; conv => whnf) | (refine WA_exit ?_; conv => whnf) | (refine WA_ret ?_; conv => whnf) | (refine And.intro (fun h => ?_) (fun h => ?_) <;> (try simp only [brsA] at h) <;> conv => whnf) | (refine WR_fit ?_ ?_; (focus (first | exact wr_i64 (by omega) | exact wr_u64 (by omega) | exact wr_u8 (by omega) | exact wr_i32 (by omega) | exact wr_u32 (by omega))); conv => whnf) | (refine WR_wrap ?_; conv => whnf) | (refine And.intro (a := indepB _ _ = true) ?_ ?_; (focus kernel_rfl); conv => whnf) | (refine And.intro rfl ?_; conv => whnf) | (refine And.intro ?_ ?_; (focus (first | omega | decide | (dsimp only; omega) | (simp at *; omega))); conv => whnf))
            all_goals first | contradiction | (exfalso; omega) | skip
            · rename_i hlt
              rw [ei] at hlt
              have hP := p4 (by omega)
              subst hP
              repeat (first | exact rfl | exact trivial | exact Or.inl (fun _ _ => rfl) | exact (fun _ => rfl) | exact (fun _ _ => rfl) | exact Or.inl (fun _ hi => absurd hi (Nat.not_lt_zero _)) | (refine And.intro rfl ?_; conv => whnf) | (refine And.intro (Or.inl (fun _ _ => rfl)) ?_; conv => whnf) | (refine And.intro (fun _ => rfl) ?_; conv => whnf) | (refine And.intro (fun _ _ => rfl) ?_; conv => whnf) | (refine And.intro ?_ ?_; rotate_left; conv => whnf))
            · rename_i hlt
              rw [ei] at hlt
              refine ⟨k + 1, ⟨(by show ((k + 1 : Nat) : Int) ≤ _; omega), (by show _ + (k + 1) ≤ 1000; omega)⟩, (by show _ - (k + 1) < _ - k; omega), ?_⟩
              conv => whnf
              repeat (first | exact rfl | exact trivial | exact Or.inl (fun _ _ => rfl) | exact (fun _ => rfl) | exact (fun _ _ => rfl) | exact Or.inl (fun _ hi => absurd hi (Nat.not_lt_zero _)) | (refine And.intro rfl ?_; conv => whnf) | (refine And.intro (Or.inl (fun _ _ => rfl)) ?_; conv => whnf) | (refine And.intro (fun _ => rfl) ?_; conv => whnf) | (refine And.intro (fun _ _ => rfl) ?_; conv => whnf) | (refine And.intro ?_ ?_; rotate_left; conv => whnf))
              refine Or.inl fun j hj => ?_
              rw [List.replicate_succ', ← List.append_assoc]
              refine Eq.trans ?_ (hcat j hj)
              unfold rowCat
              split
              · rfl
              · rename_i hq
                have hq' : ¬ j < (expL (R.take i)).length + k := fun h' => by rw [show Nat.blt j ((expL (R.take i)).length + k) = true from Nat.ble_eq_true_of_le h'] at hq; cases hq
                rw [show j - ((expL (R.take i)).length + k) = 0 by omega]
                rfl
            · rw [ei] at h
              have hkey : (R.getD i (0, 0)).1 = k := by omega
              refine ⟨i + 1, ⟨(by omega), (by show totR (R.take (i + 1)) ≤ 1000; omega)⟩, (by show R.length - (i + 1) < R.length - i; omega), ?_⟩
              rw [hkey, Int.toNat_natCast] at ex1
              conv => whnf
              repeat (first | exact rfl | exact trivial | exact Or.inl (fun _ _ => rfl) | exact (fun _ => rfl) | exact (fun _ _ => rfl) | exact Or.inl (fun _ hi => absurd hi (Nat.not_lt_zero _)) | (refine And.intro rfl ?_; conv => whnf) | (refine And.intro (Or.inl (fun _ _ => rfl)) ?_; conv => whnf) | (refine And.intro (fun _ => rfl) ?_; conv => whnf) | (refine And.intro (fun _ _ => rfl) ?_; conv => whnf) | (refine And.intro ?_ ?_; rotate_left; conv => whnf))
              · refine Or.inl fun j hj => ?_
                rw [ex1]
              · rw [ex1, List.length_append, List.length_replicate]
        · have hie : i = R.length := by omega
          subst hie
          rw [List.take_length] at ht ⊢
          have hP := p0 ht
          subst hP
          conv => whnf
          repeat' (first | refine WA_seq ?_ | (refine WA_region ttok ?_; conv => whnf) | (refine WA_draw ttok mixed ?_; conv => whnf) | (refine WA_cond ?_; conv => whnf) | refine WA_block ?_ | (refine WA_skip ?_; conv => whnf) | (refine WA_exit ?_; conv => whnf) | (refine WA_ret ?_; conv => whnf) | (refine And.intro (fun h => ?_) (fun h => ?_) <;> (try simp only [brsA] at h) <;> conv => whnf) | (refine WR_fit ?_ ?_; (focus (first | exact wr_i64 (by omega) | exact wr_u64 (by omega) | exact wr_u8 (by omega) | exact wr_i32 (by omega) | exact wr_u32 (by omega))); conv => whnf) | (refine WR_wrap ?_; conv => whnf) | (refine And.intro (a := indepB _ _ = true) ?_ ?_; (focus kernel_rfl); conv => whnf) | (refine And.intro rfl ?_; conv => whnf) | (refine And.intro ?_ ?_; (focus (first | omega | decide | (dsimp only; omega) | (simp at *; omega))); conv => whnf))
          all_goals first | contradiction | (exfalso; omega) | skip
          exact ⟨Or.inl fun _ _ => rfl, rfl⟩
end Go.Proofs.YtagokdeflnkplaaDoor

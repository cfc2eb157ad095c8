/-
  A loop over slices.Backward; the walk of path.Back; a text is read as its ways; the laws' walks.
-/
import Derived.RangeFuncNested
import Derived.RangeFuncBound
import Derived.RangeFuncCalls
import Derived.RangeFuncLeaves
import Derived.RangeFuncBox
import Derived.Shelf.Abstract
import Derived.WalkKit
import Derived.OwnWalkIn
import Derived.TacticsInMore
import Derived.LoopNIn
import Derived.LoopIn
import Derived.Maps.AppendAt
import Derived.Test.YtagokdeflnkplaaDoorShelf
import Derived.Test.YtagokdeflnkplaaDoorWay1
import Derived.Stop.RegionWithIn
import Derived.Test.YtagokdeflnkplaaDoorWay2
namespace Go.Proofs.YtagokdeflnkplaaDoor
open Go.RowKit Go.Shelf
attribute [local go_sem] Oper.semAt_some
variable {F : Fence} {n : Nat} {P : Program}
/-! ### A loop over an iterator that keeps what is left in a box of its own -/
def SeqBox {α : Type} (F : Fence) (n : Nat) (P : Program) (g : Nat) (lb : Array Value) (encs : α → Array Value) (Kp : World → World → Prop) (Bn : Nat) (xs : List α) (w : World) : Prop :=
  ∀ (l : Nat) (J : List α → World → Prop) (W : World), Below w.heap.size w W → (∀ s A v, J s A → J s (A.setCell ⟨Bn, 0, none⟩ v)) → (∀ s A, J s A → J s A.drew) →
    (∀ pre x W1, J pre W1 → (∃ rest, xs = pre ++ x :: rest) → YieldAt F (n - 1) P l (encs x) W1 fun e W' => e = .returned (.bool true) ∧ J (pre ++ [x]) W' ∧ Kp W1 W') →
    J [] W → CallsIn F n P g (#[.func (.yield l) #[] #[]] ++ lb) W fun e W' => (∃ v, e = .returned v) ∧ J xs W'
theorem rangeFunc_box {α : Type} {g : Operand} {ps : Array Tmp} {assign body : Code} {Q : Exit → Act → World → Prop} {a : Act} {w : World}
    (hro : F.round = none) (h1 : 1 ≤ n) {gf : Nat} {lb : Array Value} (hg : a.eval g = .func (.func gf) #[] lb) (hFg : F.fn gf) (eg : ∀ args w, (callFunc gf args).run P w = .ok (.enter gf args) w)
    {encs : α → Array Value} {Kp : World → World → Prop} {Bn : Nat} {xs : List α} {w0 : World} (hseq : SeqBox F (n - 1) P gf lb encs Kp Bn xs w0)
    (hKt : ∀ {A B C : World}, Kp A B → Kp B C → Kp A C) (hKb : ∀ (W : World) (l : Nat) (o' : Obj), w.heap.size ≤ l → Kp W (W.putObj l o')) (hb0 : Below w0.heap.size w0 w) (hBn : Bn < w.heap.size) (hps : ∀ x, (encs x).size = ps.size)
    (I : List α → World → Prop) (hI : OwnFrom w.heap.size I) (hIB : ∀ s A v, I s A → I s (A.setCell ⟨Bn, 0, none⟩ v)) (h0 : I [] w) (a₁ : α → Act)
    (hassign : ∀ (l : Nat) (x : α) (W : World) (K : Act → World → Prop), K (a₁ x) W →
      assign.wpIn (F.inRound l) (n - 1 - 1) P (Exit.then K (fun _ _ _ => False)) { tmps := (ps.zip (encs x)).foldl (fun t (p, v) => t.setIfInBounds p v) a.tmps, defers := [] } W)
    (hbody : ∀ (l : Nat) (pre : List α) (x : α) (W : World), I pre W → (∃ rest, xs = pre ++ x :: rest) → body.wpIn (F.inRound l) (n - 1 - 1) P (ownPostG w.heap.size Kp I (fun _ _ _ => False) (pre ++ [x]) W) (a₁ x) W)
    (hdone : ∀ (D : Nat) (W : World), w.heap.size ≤ D → I xs W → W.heap[D]? = some (.deferred (some [])) → Q .normal { a with defers := { target := .collected D, args := #[] } :: a.defers } W) :
    (Code.rangeFunc g ps assign body).wpIn F n P Q a w := by
  refine wpIn_rangeFunc ?_
  intro fn hfn
  rw [hro]
  obtain ⟨rec, hrec⟩ : ∃ rec : LoopState → Loop, rec = fun st => { state := st, pending := none, fn, tmps := a.tmps, params := ps, assign, body, defers := w.heap.size } := ⟨_, rfl⟩
  obtain ⟨W1, hW1⟩ : ∃ W1, (w.alloc (.deferred (some []))).alloc (.loop (rec .ready)) = W1 := ⟨_, rfl⟩
  have hL1 : W1.heap[w.heap.size + 1]? = some (.loop (rec .ready)) := by
    rw [← hW1]; have := World.alloc_heap_new (w.alloc (.deferred (some []))) (.loop (rec .ready)); rwa [World.size_alloc] at this
  have hK1 : W1.heap[w.heap.size]? = some (.deferred (some [])) := by
    rw [← hW1]; exact (Below.heap_alloc _ _ _ (by simp)).trans (World.alloc_heap_new w _)
  have hI1 : I [] W1 := by rw [← hW1]; exact hI.alloc _ (hI.alloc _ h0)
  have hb1 : Below w0.heap.size w0 W1 := by
    rw [← hW1]; exact hb0.trans ((((Below.refl _ w).alloc (Nat.le_refl _) _).alloc (by simp) _).mono hb0.size)
  refine ⟨w.heap.size + 1, [{ target := .collected w.heap.size, args := #[] }], W1, { target := .fn (.func gf) lb, args := #[.func (.yield (w.heap.size + 1)) #[] #[]] }, W1, gf,
    #[.func (.yield (w.heap.size + 1)) #[] #[]] ++ lb, W1, ?_, ?_, ?_, ?_, fun _ => h1, ?_⟩
  · rw [← hW1, hrec]; exact run_enterLoop_outer _ _ _ _ _
  · simp only [resolve, hg]
    simp [go_sem]
  · intro f' hf'; simp [Target.leads] at hf'; subst hf'; exact hFg
  · simp [invoke, go_sem, eg]
  · refine (hseq (w.heap.size + 1) (fun pre W => I pre W ∧ W.heap[w.heap.size + 1]? = some (.loop (rec .ready)) ∧ W.heap[w.heap.size]? = some (.deferred (some []))) W1 hb1 ?_ ?_ ?_ ⟨hI1, hL1, hK1⟩).mono ?_
    · rintro s A v ⟨hi, hl, hk⟩
      exact ⟨hIB s A v hi, (Below.heap_setCell _ _ _ _ (by show w.heap.size + 1 ≠ Bn; omega)).trans hl, (Below.heap_setCell _ _ _ _ (by show w.heap.size ≠ Bn; omega)).trans hk⟩
    · rintro s A ⟨hi, hl, hk⟩
      exact ⟨hI s A A.drew none hi ⟨rfl, rfl, rfl, Nat.le_refl _, fun k _ _ => rfl⟩ (fun r e => by cases e), hl, hk⟩
    · rintro pre x W ⟨hi, hl, hk⟩ hlen
      have hlt : w.heap.size + 1 < W.heap.size := (Array.getElem?_eq_some_iff.1 hl).1
      have hy := run_yield (P := P) (args := encs x) hl (by rw [hrec]; exact hps x)
      rw [hrec] at hy
      refine ⟨fn, _, assign, body, hy, roundIn_of_wpIn hfn (hassign _ x W _ ⟨_, run_beginRound hl (by rw [hrec]), ?_⟩)⟩
      have hl2 : (W.putObj (w.heap.size + 1) (.loop { rec .ready with state := .busy })).heap[w.heap.size + 1]? = some (.loop { rec .ready with state := .busy }) := World.putObj_heap_same hlt
      have hk2 : (W.putObj (w.heap.size + 1) (.loop { rec .ready with state := .busy })).heap[w.heap.size]? = some (.deferred (some [])) := (World.putObj_heap_other (by omega)).trans hk
      have hw2 : Kp W (W.putObj (w.heap.size + 1) (.loop { rec .ready with state := .busy })) := hKb _ _ _ (by omega)
      refine wpIn_mono (hbody _ pre x _ (hI.putObj _ hi (by omega) hl rfl) hlen) ?_
      rintro e a3 W3 hp
      cases e with
      | normal =>
        obtain ⟨hk3, hkp3, hi3⟩ := hp
        have hl3 := hk3.same _ _ (by omega) hl2 rfl
        have hr := run_endRound (P := P) none hl3
        rw [hrec] at hr hl3
        exact ⟨_, _, hr, rfl, ⟨hI.putObj _ hi3 (by omega) hl3 rfl, by rw [hrec]; exact World.putObj_heap_same (Array.getElem?_eq_some_iff.1 hl3).1, (World.putObj_heap_other (by omega)).trans (hk3.same _ _ (Nat.le_refl _) hk2 rfl)⟩, hKt (hKt hw2 hkp3) (hKb _ _ _ (by omega))⟩
      | ret => exact hp.2.elim
      | exit id => exact hp.2.elim
      | goto t => exact hp.2.elim
      | panic ch => exact hp.elim
      | outgrown => exact hp.elim
    · rintro e W2 ⟨⟨v, rfl⟩, hi, hl, hk⟩
      exact ⟨none, _, by have := run_endLoop (P := P) hl (by rw [hrec]; simp); rw [hrec] at this; exact this, hdone _ _ (Nat.le_refl _) (hI.putObj _ hi (by omega) hl rfl) ((World.putObj_heap_other (by omega)).trans hk)⟩
end Go.Proofs.YtagokdeflnkplaaDoor
set_option linter.unusedSimpArgs false
namespace Go.Proofs.YtagokdeflnkplaaDoor
open Go.RowKit Go.Shelf Go.Lib
attribute [local go_sem] Oper.semAt_some
/-! ### A loop over slices.Backward -/
theorem stepIn_append_own {F : Fence} {n : Nat} {P : Program} {ops : Array Oper} {w : World} {o : Oper} {a : Act} {K : Act → World → Prop} {Q : Exit → Act → World → Prop} {E : Prop}
    (hg : o.guard = none) (s x : Operand) (t : TypeId) (hop : o.op = Op.call { callee := Callee.builtin Builtin.append, args := #[s, x], argTypes := #[t, t] })
    (base : Nat) (e : TypeId) (i : TypeInfo) (z : Value) (size bytes : Nat) (h1 : P.underlying t = some (.slice e)) (h2 : P.info? e = some i) (h3 : i.zero = some z) (h4 : i.size = size) (h5 : i.bytes = bytes) (h6 : z.cells.size = size) (h7 : 0 < size)
    (v : Value) (k : Nat) (xs : List Value) (hs : a.eval s = v) (hown : w.ownsRow base e size v k xs) (ad : Addr) (m c : Nat) (news : List Value) (hx : a.eval x = .slice (some ad) m c) (hn : news.length = m * size)
    (hc : ∀ j u, news[j]? = some u → w.cell? (ad.add j) = some u) (h1c : ∀ u ∈ news, u.oneCell' = true) (b1 : k + m ≤ maxLen) (b2 : (k + m) * bytes ≤ 140737488355328) (b3 : base ≤ w.heap.size)
    (hK : ∀ v' w', w'.ownsRow base e size v' (k + m) (xs ++ news) → w.grownBy w' v.ownBlock → K (a.put o.dst v') w') :
    if Region.wanted o (yielded ops a.tmps) = true then Oper.wpIn F n P o a w K Q else E := by
  have hw : Region.wanted o (yielded ops a.tmps) = true := by simp [Region.wanted, hg]
  rw [if_pos hw]
  obtain ⟨v', w', hrun, r1, r2, _⟩ := run_append_own (P := P) w base t o.type e i z size bytes h1 h2 h3 h4 h5 h6 h7 v k xs hown ad m c news hn hc h1c b1 b2 b3
  unfold Oper.wpIn
  refine ⟨?_, ?_⟩
  · simp [Oper.about, hop, resolve, Target.leads, Sem.run_pure]
  · rw [Oper.semAt_plain F _ _ (by rw [hop]; intro c hc'; cases hc')]
    simp [execOp, hop, resolve, invoke, builtin, hs, hx, hrun, Result.andThen]
    exact hK _ _ r1 r2
theorem ownsRow_base {W : World} {b b' : Nat} {e : TypeId} {size : Nat} {v : Value} {k : Nat} {xs : List Value} (h : W.ownsRow b e size v k xs) (hb : b' ≤ b) : W.ownsRow b' e size v k xs := by
  refine ⟨h.1, ?_⟩
  rcases h.2 with h | ⟨g, cap, cur, h1, h2, h3⟩
  · exact .inl h
  · exact .inr ⟨g, cap, cur, h1, Nat.le_trans hb h2, h3⟩
theorem ownsRow_far {W : World} {b B : Nat} {e : TypeId} {size : Nat} {v : Value} {k : Nat} {xs : List Value} (h : W.ownsRow b e size v k xs) (hb : B < b) : some B ≠ v.ownBlock := by
  rcases h.2 with ⟨rfl, _⟩ | ⟨g, cap, cur, rfl, h2, _⟩
  · simp [Value.ownBlock]
  · intro e'
    obtain rfl : B = g := by simpa [Value.ownBlock] using e'
    omega
set_option maxHeartbeats 1000000 in
theorem backF_raw (n : Nat) (a : Option Addr) (k c : Nat) (w : World) :
    CallsIn Fence.wide n Tryd.prog 58 #[.slice a k c] w fun e w' => e = .returned (.func (.func 90) #[] #[.pointer (some ⟨w.heap.size, 0, none⟩)]) ∧ w' = w.alloc (.cells #[.slice a k c] 24) := by
  refine callsIn_of_wp Tryd.func58 rfl trivial ?_ rfl
  simp only [Tryd.ntmps58, List.size_toArray, List.length_cons, List.length_nil, Nat.reduceAdd, Nat.reduceSub, Array.replicate_succ, Array.replicate_zero, List.push_toArray, List.append_toArray, List.nil_append, List.cons_append]
  gi_wp2
  go_ret
  exact ⟨rfl, rfl⟩
/-- What is left of the way back: the places below k, the last one first. -/
def bkL (l : List Int) : Nat → List (Nat × Int)
  | 0 => []
  | k + 1 => (k, l.getD k 0) :: bkL l k
def encP (p : Nat × Int) : Array Value := #[.int .i64 p.1, .int .i64 p.2]
set_option maxHeartbeats 2000000 in
theorem back_stops (n : Nat) (hn : 1 ≤ n) (Bn blk base cap : Nat) (a : Option Addr) (l : List Int) (w : World) (ha : 0 < l.length → a = some ⟨blk, base, none⟩) (hBn : Bn < w.heap.size) (hbl : blk < w.heap.size) (hb : Boxed w Bn 24 (.slice a l.length cap))
    (hc : ∀ i, i < l.length → w.cell? ⟨blk, base + i, none⟩ = some (.int .i64 (l.getD i 0))) (hl : l.length ≤ 1000000) :
    SeqBox Fence.wide n Tryd.prog 90 #[.pointer (some ⟨Bn, 0, none⟩)] encP (fun A B => B.heap[Bn]? = A.heap[Bn]? ∧ B.heap[blk]? = A.heap[blk]?) Bn (bkL l l.length) w := by
  intro W0 J W hW hJ hJd hY h0
  have hbW : Boxed W Bn 24 (.slice a l.length cap) := (hW.block Bn hBn).trans hb
  have hkW : W.heap[blk]? = w.heap[blk]? := hW.block blk hbl
  have hcell0 := hbW.cell
  refine callsIn_of_wp Tryd.func90 rfl trivial ?_ rfl
  simp only [Tryd.ntmps90, List.size_toArray, List.length_cons, List.length_nil, Nat.reduceAdd, Nat.reduceSub, Array.replicate_succ, Array.replicate_zero, List.push_toArray, List.append_toArray, List.nil_append, List.cons_append]
  gi_wp2
  gi_loopw [3] (fun s3 wr => ∃ (k : Nat) (pre : List (Nat × Int)), s3 = .int .i64 ((k : Int) - 1) ∧ k ≤ l.length ∧ bkL l l.length = pre ++ bkL l k ∧ Boxed wr Bn 24 (.slice a l.length cap) ∧ wr.heap[blk]? = w.heap[blk]? ∧ J pre wr) (fun s3 _ => ((RowKit.intOf s3) + 1).toNat)
  case atStart => exact ⟨l.length, [], rfl, Nat.le_refl _, rfl, hbW, hkW, h0⟩
  case round =>
    obtain ⟨k, pre, rfl, hk, hx, hbx, hkx, hJs⟩ := hrel
    have hcell := hbx.cell
    match k, hk, hx with
    | 0, hk, hx =>
      gi_wp2
      go_end0
      exact ⟨⟨_, rfl⟩, by rw [hx]; simpa [bkL] using hJs⟩
    | k + 1, hk, hx =>
      have haa := ha (by omega)
      subst haa
      have hck : wr.cell? ⟨blk, base + k, none⟩ = some (.int .i64 (l.getD k 0)) := by
        rw [← hc k (by omega)]; unfold World.cell?; simp only [hkx]
      obtain ⟨fn, tmps, assign, body, hy, hR⟩ := hY pre (k, l.getD k 0) wr hJs ⟨_, hx⟩
      simp only [encP, List.getD_eq_getElem?_getD] at hy
      gi_wp2
      refine hR.mono ?_
      rintro e W3 ⟨rfl, hJ3, hk3⟩
      have hbx3 := hk3.1.trans hbx
      gi_wp2
      go_roundw
      case rel => exact ⟨k, pre ++ [(k, l.getD k 0)], by simp, by omega, by rw [hx, bkL, List.append_assoc]; rfl, hbx3, hk3.2.trans hkx, hJ3⟩
      case measure => simp [RowKit.intOf]
/-- A way the other way round. -/
def flipI (x : Int) : Int := if x % 2 = 0 then x + 1 else x - 1
def bkV (p : Nat × Int) : Value := .int .i64 (flipI p.2)
theorem xor_one (x : Int) (h0 : 0 ≤ x) (h1 : x ≤ 1152921504606846976) : bits BinOp.xor IntKind.i64 x 1 = flipI x := by
  obtain ⟨n, rfl⟩ : ∃ n : Nat, x = n := ⟨x.toNat, by omega⟩
  have hn : n ≤ 1152921504606846976 := by omega
  have e1 : n ^^^ 1 = if n % 2 = 0 then n + 1 else n - 1 := by
    have h1 : (n ^^^ 1) / 2 = n / 2 := by rw [Nat.xor_div_two]; simp
    have h2 := Nat.xor_mod_two_eq_one (a := n) (b := 1)
    generalize n ^^^ 1 = r at *
    have h3 := Nat.mod_two_eq_zero_or_one n
    have h4 := Nat.mod_two_eq_zero_or_one r
    rcases h3 with h3 | h3
    · rw [if_pos h3]
      have : r % 2 = 1 := h2.2 (by omega)
      omega
    · rw [if_neg (by omega)]
      have : r % 2 ≠ 1 := fun q => h2.1 q (by omega)
      omega
  have a1 : (BitVec.ofInt IntKind.i64.bits (n : Int)).toNat = n := by
    show (BitVec.ofInt 64 (n : Int)).toNat = n
    rw [BitVec.toNat_ofInt]; omega
  have a2 : (BitVec.ofInt IntKind.i64.bits (1 : Int)).toNat = 1 := rfl
  show IntKind.i64.wrap ((BitVec.ofInt IntKind.i64.bits (n : Int) ^^^ BitVec.ofInt IntKind.i64.bits 1).toNat : Int) = _
  rw [BitVec.toNat_xor, a1, a2, e1, IntKind.wrap_i64]
  unfold flipI
  rcases Nat.mod_two_eq_zero_or_one n with h3 | h3
  · rw [if_pos h3, if_pos (by omega)]; omega
  · rw [if_neg (by omega), if_neg (by omega)]; omega
theorem bkL_len (l : List Int) : ∀ k, (bkL l k).length = k
  | 0 => rfl
  | k + 1 => by rw [bkL, List.length_cons, bkL_len l k]
theorem bkL_mem (l : List Int) : ∀ k, k ≤ l.length → ∀ p ∈ bkL l k, p.2 ∈ l
  | 0, _, p, h => by simp [bkL] at h
  | k + 1, hk, p, h => by
    rw [bkL] at h
    rcases List.mem_cons.1 h with e | e
    · subst e
      show l.getD k 0 ∈ l
      rw [List.getD_eq_getElem?_getD, List.getElem?_eq_getElem (by omega)]
      exact List.getElem_mem _
    · exact bkL_mem l k (by omega) p e
theorem infoI2 : (Tryd.prog.info? 3).map (fun i => (i.zero, i.size, i.bytes)) = some (some (.int .i64 0), 1, 8) := by kernel_rfl
set_option maxRecDepth 100000 in
set_option maxHeartbeats 4000000 in
theorem back_raw (blk base cap : Nat) (a : Option Addr) (l : List Int) (w : World) (hm : mayL l) (ha : 0 < l.length → a = some ⟨blk, base, none⟩) (hbl : blk < w.heap.size)
    (hc : ∀ i, i < l.length → w.cell? ⟨blk, base + i, none⟩ = some (.int .i64 (l.getD i 0)))
    (hck : ∀ n, CallsIn Fence.wide n Tryd.prog 50 #[.slice a l.length cap] w fun e w' => e = .returned (.int .i64 0) ∧ Below w.heap.size w w') :
    Calls Tryd.prog 30 #[.slice a l.length cap] w fun e W' => ∃ v, e = .returned (.tuple #[v, .int .i64 0]) ∧ W'.ownsRow w.heap.size 3 1 v l.length ((bkL l l.length).map bkV) ∧ Below w.heap.size w W' := by
  refine (callsIn_wide (n := 3)).1 ?_
  obtain ⟨i0, hi, hz0, hz1, hz2⟩ := info_parts infoI2
  refine callsIn_of_wp_marks Tryd.func30 rfl trivial ?_ rfl
  simp only [Tryd.ntmps30, List.size_toArray, List.length_cons, List.length_nil, Nat.reduceAdd, Nat.reduceSub, Array.replicate_succ, Array.replicate_zero, List.push_toArray, List.append_toArray, List.nil_append, List.cons_append]
  gi_wp2_with (first
    | (refine ⟨trivial, ?_⟩; gi_at_call 50; refine (hck _).mono ?_; rintro e w1 ⟨rfl, hB1⟩)
    | (refine ⟨trivial, ?_⟩; gi_at_call 58; refine (backF_raw _ _ _ _ _).mono ?_; rintro e w2 ⟨rfl, rfl⟩))
  have bO := Boxed.new w1 24 (.slice none 0 0)
  have bN := Boxed.new (w1.alloc (.cells #[.slice none 0 0] 24)) 24 (.slice a l.length cap)
  rw [World.size_alloc] at bN
  have hB0 : Below w1.heap.size w1 ((w1.alloc (.cells #[.slice none 0 0] 24)).alloc (.cells #[.slice a l.length cap] 24)) := ((Below.refl _ w1).alloc (Nat.le_refl _) _).alloc (by simp) _
  have hbl1 : blk < w1.heap.size := Nat.lt_of_lt_of_le hbl hB1.size
  have hblk1 : ((w1.alloc (.cells #[.slice none 0 0] 24)).alloc (.cells #[.slice a l.length cap] 24)).heap[blk]? = w.heap[blk]? := (hB0.block blk hbl1).trans (hB1.block blk hbl)
  have hc1 : ∀ i, i < l.length → ((w1.alloc (.cells #[.slice none 0 0] 24)).alloc (.cells #[.slice a l.length cap] 24)).cell? ⟨blk, base + i, none⟩ = some (.int .i64 (l.getD i 0)) := fun i hi => by
    rw [← hc i hi]; unfold World.cell?; simp only [hblk1]
  have hll : l.length ≤ 1000000 := by have := hm.2; omega
  refine rangeFunc_box (α := Nat × Int) (encs := fun p : Nat × Int => #[.int .i64 p.1, .int .i64 p.2]) (Kp := fun A B => B.heap[w1.heap.size + 1]? = A.heap[w1.heap.size + 1]? ∧ B.heap[blk]? = A.heap[blk]?) (Bn := w1.heap.size + 1) (xs := bkL l l.length) rfl (by decide) (gf := 90) (lb := #[.pointer (some ⟨w1.heap.size + 1, 0, none⟩)]) rfl trivial (enters_of Tryd.func90 (by kernel_rfl) rfl)
    (back_stops _ (by decide) (w1.heap.size + 1) blk base cap a l _ ha (by simp) (by simp; omega) bN hc1 hll) (fun h k => ⟨k.1.trans h.1, k.2.trans h.2⟩) (fun W l o' hl => ⟨World.putObj_heap_other (by simp at hl; omega), World.putObj_heap_other (by simp at hl; omega)⟩) (Below.refl _ _) (by simp) (fun _ => rfl)
    (fun pre W => (∃ v, Boxed W w1.heap.size 24 v ∧ W.ownsRow (w1.heap.size + 2) 3 1 v pre.length (pre.map bkV) ∧ True) ∧ Below w1.heap.size w1 W ∧ w1.heap.size + 2 ≤ W.heap.size)
    (OwnFrom.and (Own.from (holdsRow_own (w1.heap.size + 2) w1.heap.size 24 3 1 (fun pre : List (Nat × Int) => pre.length) (fun pre => pre.map bkV) (fun _ _ => True)) _) (OwnFrom.and (ownFrom_below (Nat.le_refl _) (by simp; omega)) (fun _ A B _ h hg _ => Nat.le_trans h hg.size)))
    ?iB ⟨⟨_, bO.alloc _, World.ownsRow_nil _ _ _ _, trivial⟩, hB0, by simp⟩
    (fun x => { tmps := #[.slice a l.length cap, undef, .slice none 0 0, .int .i64 0, .int .i64 0, .pointer (some ⟨w1.heap.size, 0, none⟩), undef, .int .i64 x.2, .slice a l.length cap, .int .i64 0, .int .i64 0, .bool false, undef, .slice a l.length cap, .func (.func 90) #[] #[.pointer (some ⟨w1.heap.size + 1, 0, none⟩)], .int .i64 x.1, .int .i64 x.2, undef, undef, undef, undef, undef, undef], defers := [] }) ?assign ?body ?done
  case iB =>
    rintro pre A v ⟨⟨u, hv, hrow, _⟩, hB, hsz⟩
    refine ⟨⟨u, hv.kept (grownBy_setCell' A (w1.heap.size + 1) v) (by simp), hrow.kept (grownBy_setCell' A (w1.heap.size + 1) v) ?_, trivial⟩, hB.setCell (p := ⟨w1.heap.size + 1, 0, none⟩) (by show w1.heap.size ≤ w1.heap.size + 1; omega) v, Nat.le_trans hsz (grownBy_setCell' A (w1.heap.size + 1) v).size⟩
    exact .inr (ownsRow_far hrow (by omega)).symm
  case assign =>
    intro l x W K hK
    gi_wp2
    exact hK
  case body =>
    rintro L pre x W ⟨⟨v, hv, hrow, _⟩, hB, hsz⟩ ⟨rest, hxs⟩
    have hc := hv.cell
    have hfz := hv.frozen
    have hpl : pre.length < 1000000 := by
      have h1 := bkL_len l l.length
      rw [hxs] at h1
      simp at h1
      have := hm.2
      omega
    have hxm := hm.1 _ (bkL_mem l l.length (Nat.le_refl _) x (by rw [hxs]; simp))
    have hxo := xor_one x.2 hxm.1 hxm.2
    gi_wp2_with (refine wpListIn_append_own _ rfl _ _ 24 rfl (w1.heap.size + 2) 3 i0 (.int .i64 0) 1 8 Tryd.underlying24 hi hz0 hz1 hz2 rfl (by decide) v pre.length (pre.map bkV) rfl (hrow.alloc _) ⟨W.heap.size, 0, none⟩ 1 1 [bkV x] rfl rfl (cell_one_new _ _ _) (by simp [bkV, Value.oneCell']) (by unfold maxLen; omega) (by omega) (by show w1.heap.size + 2 ≤ (W.heap.push _).size; rw [Array.size_push]; omega) ?_; intro v' w2 hown' hgrow hnil; obtain ⟨g', cap', rfl⟩ := ownsRow_succ hown'; have hv1 : Boxed w2 w1.heap.size 24 v := Boxed.kept (W := W.alloc (.cells #[bkV x] 3)) (hv.alloc _) hgrow (hv.not_row (by decide) hrow); have hc1 := hv1.cell; have hf1 := hv1.frozen)
    have hown2 := hown'.kept (grownBy_setCell' w2 w1.heap.size (.slice (some ⟨g', 0, none⟩) (pre.length + 1) cap')) (.inr (hv1.not_row (by decide) hown').symm)
    obtain ⟨_, h2, _, h4, h5⟩ := hv.appended (n₀ := w1.heap.size) (by decide) (ownsRow_base hrow (by omega)) hB.size (Nat.le_refl _) (ownsRow_base hown' (by omega)) hgrow
    have hfar : ∀ b, b < w1.heap.size + 2 → b ≠ w1.heap.size → (w2.setCell ⟨w1.heap.size, 0, none⟩ (.slice (some ⟨g', 0, none⟩) (pre.length + 1) cap')).heap[b]? = W.heap[b]? := fun b hb hne => (Below.heap_setCell _ _ _ _ (by show b ≠ w1.heap.size; exact hne)).trans ((hgrow.block _ (by rw [World.size_alloc]; omega) (ownsRow_far hrow hb)).trans (Below.heap_alloc _ _ _ (by omega)))
    refine ⟨h4.from _, ⟨hfar _ (by omega) (by omega), hfar _ (by omega) (by omega)⟩, ⟨_, h2, by simpa using hown2, trivial⟩, hB.trans h5, ?_⟩
    exact Nat.le_trans hsz h4.size
  case done =>
    rintro D W hD ⟨⟨v, hv, hrow, _⟩, hB, _⟩ hK
    have hc := hv.cell
    gi_wp2
    refine ⟨by simp, .inl ⟨_, _, rfl, run_takeDeferred hK, ?_⟩⟩
    have hrow' := ownsRow_base (ownsRow_putObj hrow (.deferred none) hK rfl) (show w.heap.size ≤ w1.heap.size + 2 by have := hB1.size; omega)
    rw [bkL_len] at hrow'
    exact ⟨_, results_tmp2 rfl _ _ _, v, rfl, hrow', (hB1.trans ((hB.trans (belowK_b (w := w1) (Nat.le_refl _) W D _ _ (by simp at hD; omega) hK rfl rfl)).mono hB1.size))⟩
end Go.Proofs.YtagokdeflnkplaaDoor
set_option linter.unusedSimpArgs false
namespace Go.Proofs.YtagokdeflnkplaaDoor
open Go.Proofs.YtagokdeflnkplaaDoor.Am Go.Lib
open Go.RowKit (Below)
variable {G : GInv}
/-! ### Ways the other way round -/
def backL (l : List Int) : List Int := (bkL l l.length).map fun p => flipI p.2
theorem backL_len (l : List Int) : (backL l).length = l.length := by unfold backL; rw [List.length_map, bkL_len]
theorem bkL_get (l : List Int) : ∀ k i, i < k → (bkL l k)[i]? = some (k - 1 - i, l.getD (k - 1 - i) 0)
  | 0, _, h => absurd h (Nat.not_lt_zero _)
  | k + 1, 0, _ => by rw [bkL]; rfl
  | k + 1, i + 1, h => by
    rw [bkL, List.getElem?_cons_succ, bkL_get l k i (by omega)]
    rw [show k + 1 - 1 - (i + 1) = k - 1 - i by omega]
theorem backL_get (l : List Int) {i : Nat} (h : i < l.length) : (backL l).getD i 0 = flipI (l.getD (l.length - 1 - i) 0) := by
  unfold backL
  rw [List.getD_eq_getElem?_getD, List.getElem?_map, bkL_get l _ i h]; rfl
set_option maxRecDepth 100000 in
theorem back_bad (l : List Int) (hl : l.length ≤ 1000000) (hm : ¬ mayL l) : ACalls Tryd.prog G 30 [intsA l] (.tup [.nils, .int .i64 1]) := by
  have hck := pcheck_c (G := G) l hl
  rw [if_neg hm] at hck
  refine ACalls.of_WA ttok Tryd.func30 rfl rfl _ rfl ?_
  conv => whnf
  repeat' (first | refine WA_seq ?_ | (refine WA_region ttok ?_; conv => whnf) | (refine WA_draw ttok mixed ?_; conv => whnf) | (refine WA_cond ?_; conv => whnf) | refine WA_block ?_ | (refine WA_skip ?_; conv => whnf) | (refine WA_exit ?_; conv => whnf) | (refine WA_ret ?_; conv => whnf) | (refine And.intro (fun h => ?_) (fun h => ?_) <;> (try simp only [brsA] at h) <;> conv => whnf) | (refine Or.inl ?_; (conv => whnf); refine Exists.intro _ (And.intro (hck) ?_); conv => whnf) | (refine Or.inr (Or.inr (Or.inl ?_)); (conv => whnf); refine Exists.intro _ (And.intro (hck) ?_); conv => whnf) | (refine Exists.intro _ (And.intro (hck) ?_); conv => whnf) | (refine WR_fit ?_ ?_; (focus (first | exact wr_i64 (by omega) | exact wr_u64 (by omega) | exact wr_u8 (by omega) | exact wr_i32 (by omega) | exact wr_u32 (by omega))); conv => whnf) | (refine WR_wrap ?_; conv => whnf) | (refine And.intro (a := indepB _ _ = true) ?_ ?_; (focus kernel_rfl); conv => whnf) | (refine And.intro rfl ?_; conv => whnf) | (refine And.intro ?_ ?_; (focus (first | omega | decide | (dsimp only; omega) | (simp at *; omega))); conv => whnf))
  all_goals first | contradiction | (exfalso; omega) | skip
theorem heap_pos (hM : HasMax G) {w : World} (h : G.G w) : 0 < w.heap.size := by
  obtain ⟨m, hm⟩ := hM w h
  rcases Nat.eq_zero_or_pos w.heap.size with q | q
  · have e : w.heap = #[] := Array.eq_empty_of_size_eq_zero q
    unfold World.cell? at hm
    rw [e] at hm
    simp at hm
  · exact q
theorem back_c (hM : HasMax G) (l : List Int) (hm : mayL l) : ACalls Tryd.prog G 30 [intsA l] (.tup [intsA (backL l), .int .i64 0]) := by
  refine ⟨⟨_, _, Tryd.func30, rfl, by kernel_rfl⟩, ?_⟩
  intro im w vs him hG hl hr
  match vs, hl with
  | [v0], _ =>
    have h0 : RelI im w (intsA l) v0 := hr 0 (by simp) (by simp)
    have hck : ∀ n, CallsIn Fence.wide n Tryd.prog 50 #[v0] w fun e w' => e = .returned (.int .i64 0) ∧ Below w.heap.size w w' := fun n => by
      have h := pcheck_c (G := G) l (by have := hm.2; omega)
      rw [if_pos hm] at h
      have h2 := h.2 im w [v0] him hG rfl (fun j hj hj' => by
        match j with
        | 0 => exact h0
        | j + 1 => exact absurd hj (by simp))
      refine callsIn_wide.2 (Calls_mono h2 ?_)
      rintro e w' ⟨v, rfl, e2, e3⟩
      exact ⟨by rw [intI_inv e2], e3.below⟩
    have fin : ∀ (blk base cap : Nat) (a : Option Addr), v0 = .slice a l.length cap → (0 < l.length → a = some ⟨blk, base, none⟩) → blk < w.heap.size → (∀ i, i < l.length → w.cell? ⟨blk, base + i, none⟩ = some (.int .i64 (l.getD i 0))) →
        Calls Tryd.prog 30 #[v0] w fun e w' => ∃ v, e = .returned v ∧ RelI (fun b => im b ∨ w.heap.size ≤ b ∧ b < w'.heap.size) w' (.tup [intsA (backL l), .int .i64 0]) v ∧ Bw w.heap.size w w' := by
      intro blk base cap a e1 ha hbl hc
      subst e1
      refine Calls_mono (back_raw blk base cap a l w hm ha hbl hc hck) ?_
      rintro e w' ⟨v, rfl, hrow, hb⟩
      refine ⟨_, rfl, ?_, Bw.of_below hb⟩
      refine .tup _ [v, .int .i64 0] rfl ?_
      intro j hj hj'
      match j with
      | 0 =>
        show RelI _ _ (intsA (backL l)) v
        unfold intsA
        rw [backL_len]
        rcases hrow.2 with ⟨rfl, h0⟩ | ⟨g, cap, cur, rfl, hg, hgb, h3, h4, h5, h6⟩
        · have h0 : l.length = 0 := h0
          rw [h0]
          exact .sl0 _ _
        · simp only [Nat.mul_one] at h5 h6
          have hcur : ∀ i, i < l.length → cur[i]? = some (.int .i64 ((backL l).getD i 0)) := fun i hi => by
            have e1 : (cur.toList.take l.length)[i]? = ((bkL l l.length).map bkV)[i]? := congrArg (·[i]?) h6
            rw [List.getElem?_take_of_lt hi] at e1
            rw [← Array.getElem?_toList, e1, List.getElem?_map, bkL_get l _ i hi, backL_get l hi]; rfl
          refine .sl _ 1 _ g 0 cap (fun i _ => .int .i64 ((backL l).getD i 0)) (.inr ⟨hg, (Array.getElem?_eq_some_iff.1 hgb).1⟩) h3 (fun i _ => rfl) ?_ (fun _ _ _ _ => rfl) ?_
          · intro i j hi hj
            have hj0 : j = 0 := by omega
            subst hj0
            rw [show 0 + i * 1 + 0 = i by omega, cell_of_row w' g i cur 3 (0, 0) hgb]
            exact hcur i hi
          · intro i j hi hj
            match j, hj with
            | 0, _ => exact .int _ _
            | j + 1, hj => exact absurd hj (by simp)
      | 1 => exact .int _ _
      | j + 2 => exact absurd hj (by simp)
    generalize hA : intsA l = X at h0
    unfold intsA at hA
    cases h0 with
    | sl0 sz row =>
      injection hA with e1 e2 e3
      exact fin 0 0 0 none (by rw [e1]) (fun q => by omega) (heap_pos hM hG) (fun i hi => by omega)
    | sle sz row ad cap =>
      injection hA with e1 e2 e3
      exact fin 0 0 cap (some ad) (by rw [e1]) (fun q => by omega) (heap_pos hM hG) (fun i hi => by omega)
    | sl n sz row blk base cap us hbk hcap hln hc ho hrr =>
      injection hA with e1 e2 e3
      subst e1 e2 e3
      refine fin blk base cap (some ⟨blk, base, none⟩) rfl (fun _ => rfl) (him _ hbk) (fun i hi => ?_)
      have hcell := hc i 0 hi (by omega)
      have hv : us i 0 = .int .i64 (l.getD i 0) := intI_inv (hrr i 0 hi (by simp))
      rw [hv] at hcell
      simpa using hcell
    | _ => cases hA
/-! ### The laws -/
theorem tr_1 : textL [4, 4, 7] = [50, 102, 120, 50, 32, 51, 98] := by decide +kernel
theorem tr_2 : parseW [50, 102, 120, 50, 32, 51, 98] = ([4, 4, 7], 0) := by decide +kernel
theorem tr_3 : backL [4, 4, 7] = [6, 5, 5] := by decide +kernel
theorem tr_may : mayL [4, 4, 7] := by decide +kernel
theorem lit3_fit : andL (fitA.fitL 6 0 [.sl 3 1 fun i => takeL 1 (List.drop (i * 1) [A.int .i64 4, A.int .i64 4, A.int .i64 7])] [intsA [4, 4, 7]]) := by
  conv => whnf
  repeat (first | exact rfl | exact trivial | exact Or.inl (fun _ _ => rfl) | exact (fun _ => rfl) | exact (fun _ _ => rfl) | exact Or.inl (fun _ hi => absurd hi (Nat.not_lt_zero _)) | (refine And.intro rfl ?_; conv => whnf) | (refine And.intro (Or.inl (fun _ _ => rfl)) ?_; conv => whnf) | (refine And.intro (fun _ => rfl) ?_; conv => whnf) | (refine And.intro (fun _ _ => rfl) ?_; conv => whnf) | (refine And.intro ?_ ?_; rotate_left; conv => whnf))
  all_goals (refine Or.inl fun i hi => ?_; rcases i with _ | _ | _ | i <;> first | rfl | omega)
set_option maxRecDepth 100000 in
set_option maxHeartbeats 2000000 in
theorem pawake_c (hT : HasTab G) (hM : HasMax G) : ACalls Tryd.prog G 20 [] (.sb true) := by
  have h1 := ptext_c hT [4, 4, 7] tr_may
  have h2 := pparse_c hT hM [50, 102, 120, 50, 32, 51, 98] (by decide) (by decide)
  have h3 := back_c hM [4, 4, 7] tr_may
  rw [tr_1] at h1
  rw [tr_2] at h2
  rw [tr_3] at h3
  have h2 : ACalls Tryd.prog G 26 [.str [50, 102, 120, 50, 32, 51, 98]] (.tup [intsA [4, 4, 7], .int .i64 0]) := h2
  refine ACalls.of_WA ttok Tryd.func20 rfl rfl _ rfl ?_
  conv => whnf
  repeat' (first | refine WA_seq ?_ | (refine WA_region ttok ?_; conv => whnf) | (refine WA_draw ttok mixed ?_; conv => whnf) | (refine WA_cond ?_; conv => whnf) | refine WA_block ?_ | (refine WA_skip ?_; conv => whnf) | (refine WA_exit ?_; conv => whnf) | (refine WA_ret ?_; conv => whnf) | (refine And.intro (fun h => ?_) (fun h => ?_) <;> (try simp only [brsA] at h) <;> conv => whnf) | (refine Or.inr (Or.inr (Or.inl ?_)); (conv => whnf); refine Exists.intro _ (And.intro (h1.fit lit3_fit) ?_); conv => whnf) | (refine Exists.intro _ (And.intro (h1.fit lit3_fit) ?_); conv => whnf) | (refine Or.inl ?_; (conv => whnf); refine Exists.intro _ (And.intro (h2) ?_); conv => whnf) | (refine Or.inr (Or.inr (Or.inl ?_)); (conv => whnf); refine Exists.intro _ (And.intro (h2) ?_); conv => whnf) | (refine Exists.intro _ (And.intro (h2) ?_); conv => whnf) | (refine Or.inl ?_; (conv => whnf); refine Exists.intro _ (And.intro (h3) ?_); conv => whnf) | (refine Or.inr (Or.inr (Or.inl ?_)); (conv => whnf); refine Exists.intro _ (And.intro (h3) ?_); conv => whnf) | (refine Exists.intro _ (And.intro (h3) ?_); conv => whnf) | (refine WR_fit ?_ ?_; (focus (first | exact wr_i64 (by omega) | exact wr_u64 (by omega) | exact wr_u8 (by omega) | exact wr_i32 (by omega) | exact wr_u32 (by omega))); conv => whnf) | (refine WR_wrap ?_; conv => whnf) | (refine And.intro (a := indepB _ _ = true) ?_ ?_; (focus kernel_rfl); conv => whnf) | (refine And.intro rfl ?_; conv => whnf) | (refine And.intro ?_ ?_; (focus (first | omega | decide | (dsimp only; omega) | (simp at *; omega))); conv => whnf))
  all_goals first | contradiction | (exfalso; omega) | rfl
end Go.Proofs.YtagokdeflnkplaaDoor
set_option linter.unusedSimpArgs false
namespace Go.Proofs.YtagokdeflnkplaaDoor
open Go.Proofs.YtagokdeflnkplaaDoor.Am Go.Lib
variable {G : GInv}
/-! ### Ways and their texts -/
theorem good_of : ∀ R : List Run, (∀ i, i < R.length → 1 ≤ (R.getD i (0, 0)).1) → (∀ i, 0 < i → i < R.length → (R.getD (i - 1) (0, 0)).2 ≠ (R.getD i (0, 0)).2) → GoodR R := snoc_ind (fun _ _ => .nil) fun R x ih h1 h2 => by
  have hl : (R ++ [x]).length = R.length + 1 := by simp
  have hR := ih (fun i hi => by have := h1 i (by omega); rwa [getD_snoc, if_pos hi] at this) (fun i h0 hi => by have := h2 i h0 (by omega); rwa [getD_snoc, getD_snoc, if_pos (by omega), if_pos hi] at this)
  refine goodR_snoc hR ?_ ?_
  · have := h1 R.length (by omega); rwa [getD_snoc, if_neg (by omega), if_pos rfl] at this
  · rintro R' y rfl
    have hl2 : (R' ++ [y]).length = R'.length + 1 := by simp
    have := h2 (R' ++ [y]).length (by omega) (by omega)
    rw [getD_snoc, getD_snoc (R' ++ [y]), if_pos (by omega), if_neg (by omega), if_pos rfl, getD_snoc, if_neg (by omega), if_pos (by omega)] at this
    exact this
theorem good_at : ∀ R : List Run, GoodR R → ∀ i, 0 < i → i < R.length → (R.getD (i - 1) (0, 0)).2 ≠ (R.getD i (0, 0)).2 := snoc_ind (fun _ i _ h => absurd h (Nat.not_lt_zero _)) fun R x ih h i h0 hi => by
  have hl : (R ++ [x]).length = R.length + 1 := by simp
  obtain ⟨g1, g2⟩ := goodR_init h
  by_cases q : i < R.length
  · rw [getD_snoc, getD_snoc, if_pos (by omega), if_pos q]; exact ih g1 i h0 q
  · have hi2 : i = R.length := by omega
    subst hi2
    rcases snoc_cases R with q | ⟨r, y, q⟩
    · subst q; exact absurd h0 (by simp)
    · subst q
      have hl2 : (r ++ [y]).length = r.length + 1 := by simp
      rw [getD_snoc, getD_snoc (r ++ [y]), if_pos (by omega), if_neg (by omega), if_pos rfl, getD_snoc, if_neg (by omega), if_pos (by omega)]
      exact g2 r y rfl
theorem word_no32 (x : Run) : (32 : UInt8) ∉ wordR x := fun q => by
  unfold wordR at q
  rcases List.mem_append.1 q with q | q
  · rcases List.mem_append.1 q with q | q
    · exact itoa_not _ _ (by decide) q
    · exact fb_not _ _ (by decide) q
  · split at q
    · rcases List.mem_cons.1 q with q | q
      · exact absurd q (by decide)
      · exact itoa_not _ _ (by decide) q
    · simp at q
theorem cut_text {R : List Run} (h : R ≠ []) : cutL 32 (join (R.map wordR) [32]) = R.map wordR := by
  cases R with
  | nil => exact absurd rfl h
  | cons x r =>
    refine cutL_join 32 (r.map wordR) (wordR x) (word_no32 x) fun y hy => ?_
    obtain ⟨z, _, rfl⟩ := List.mem_map.1 hy
    exact word_no32 z
theorem text_ne {l : List Int} (h : l ≠ []) : runsL l ≠ [] ∧ textL l ≠ [] := by
  have hR : runsL l ≠ [] := fun q => by
    have := (runsL_good l).2
    rw [q] at this
    exact h this.symm
  refine ⟨hR, fun q => ?_⟩
  have := cut_text hR
  have e : join ((runsL l).map wordR) [32] = [] := q
  rw [e] at this
  have h2 : (runsL l).map wordR = [[]] := this.symm
  cases hL : runsL l with
  | nil => exact hR hL
  | cons x r =>
    rw [hL, List.map_cons] at h2
    injection h2 with h3 _
    unfold wordR at h3
    have := itoa_ne (Int.tdiv x.2 2)
    simp at h3
    exact this h3.1
theorem map_get {R : List Run} {i : Nat} (h : i < R.length) : (R.map wordR).getD i [] = wordR (R.getD i (0, 0)) := by
  rw [List.getD_eq_getElem?_getD, List.getElem?_map, List.getD_eq_getElem?_getD, List.getElem?_eq_getElem h]; rfl
theorem parse_text {l : List Int} (hm : mayL l) (h0 : l ≠ []) : parseW (textL l) = (l, 0) := by
  obtain ⟨hR, hT⟩ := text_ne h0
  obtain ⟨m1, m2⟩ := may_runs hm
  obtain ⟨hg, he⟩ := runsL_good l
  obtain ⟨t1, _, _⟩ := runs_tot l
  have hcut : cutL 32 (textL l) = (runsL l).map wordR := cut_text hR
  have hv : ∀ i, i < (runsL l).length → runV (((runsL l).map wordR).getD i []) = ((runsL l).getD i (0, 0), true) := fun i hi => by
    rw [map_get hi]; exact runV_word _ (m2 _ (mem_getD hi)).2
  have hrp : runsP ((runsL l).map wordR) = runsL l := by
    unfold runsP
    rw [List.map_map]
    refine (List.map_congr_left fun x hx => ?_).trans (List.map_id _)
    show (runV (wordR x)).1 = x
    rw [runV_word x (m2 x hx).2]
  unfold parseW
  rw [if_neg hT, hcut, hrp, if_pos, if_pos, he]
  · rw [t1]; have := hm.2; omega
  · intro i hi
    rw [List.length_map] at hi
    refine ⟨by rw [hv i hi], ?_⟩
    by_cases q : i = 0
    · exact Or.inl q
    · refine Or.inr ?_
      rw [hv i hi, hv (i - 1) (by omega)]
      exact good_at _ hg i (by omega) hi
theorem getDs_ext {l m : List (List UInt8)} (hl : l.length = m.length) (h : ∀ i, i < l.length → l.getD i [] = m.getD i []) : l = m := by
  apply List.ext_getElem hl
  intro i h1 h2
  have := h i h1
  rwa [List.getD_eq_getElem?_getD, List.getD_eq_getElem?_getD, List.getElem?_eq_getElem h1, List.getElem?_eq_getElem h2] at this
theorem text_parse {s : List UInt8} (h : (parseW s).2 = 0) (h0 : s ≠ []) : mayL (parseW s).1 ∧ textL (parseW s).1 = s ∧ (parseW s).1 ≠ [] := by
  unfold parseW at h ⊢
  rw [if_neg h0] at h ⊢
  by_cases ha : allGd (cutL 32 s)
  · rw [if_pos ha] at h ⊢
    by_cases ht : totR (runsP (cutL 32 s)) ≤ 1000
    · rw [if_pos ht]
      have hne := cutL_ne 32 s
      have hj := join_cutL 32 s
      generalize cutL 32 s = ws at *
      have hlen : (runsP ws).length = ws.length := by unfold runsP; simp
      have hget : ∀ i, i < ws.length → (runsP ws).getD i (0, 0) = (runV (ws.getD i [])).1 := fun i hi => by
        have := rK_get (ws := ws) (i := ws.length) (j := i) hi (Nat.le_refl _)
        rwa [List.take_length] at this
      have hok : ∀ i, i < ws.length → okRun ((runsP ws).getD i (0, 0)) ∧ wordR ((runsP ws).getD i (0, 0)) = ws.getD i [] := fun i hi => by
        rw [hget i hi]; exact runV_some (ha i hi).1
      have hg : GoodR (runsP ws) := good_of _ (fun i hi => (hok i (by omega)).1.1) fun i h1 hi => by
        rw [hget i (by omega), hget (i - 1) (by omega)]
        exact (ha i (by omega)).2.resolve_left (by omega)
      have hre := runsL_exp _ hg
      have hp := goodR_pos _ hg
      have hel := expL_len (runsP ws) (fun x hx => by have := hp x hx; omega)
      have hmw : (runsP ws).map wordR = ws := by
        apply getDs_ext
        · rw [List.length_map, hlen]
        · intro i hi
          rw [List.length_map] at hi
          rw [map_get hi]
          exact (hok i (by omega)).2
      refine ⟨⟨fun x hx => ?_, ?_⟩, ?_, fun q => ?_⟩
      · obtain ⟨y, hy, rfl⟩ := mem_expL hx
        obtain ⟨i, hi, e⟩ := List.getElem_of_mem hy
        have := (hok i (by omega)).1
        rw [List.getD_eq_getElem?_getD, List.getElem?_eq_getElem hi, Option.getD_some, e] at this
        exact ⟨this.2.2.1, this.2.2.2⟩
      · show (expL (runsP ws)).length ≤ 1000
        omega
      · show textL (expL (runsP ws)) = s
        unfold textL
        rw [hre, hmw]; exact hj
      · have q : expL (runsP ws) = [] := q
        rw [q] at hre
        have : (runsP ws).length = 0 := by rw [← hre]; rfl
        have := List.length_pos_iff.2 hne
        omega
    · rw [if_neg ht] at h; exact absurd h (by decide)
  · rw [if_neg ha] at h; exact absurd h (by decide)
theorem parse_zero {s : List UInt8} : (parseW s).2 = 0 ∨ (parseW s).2 ≠ 0 ∧ (parseW s).1 = [] := by
  unfold parseW
  split
  · exact Or.inl rfl
  · split
    · split
      · exact Or.inl rfl
      · exact Or.inr ⟨by decide, rfl⟩
    · exact Or.inr ⟨by decide, rfl⟩
theorem parse_len (s : List UInt8) : (parseW s).1.length ≤ 1000000 := by
  rcases parse_zero (s := s) with h | ⟨_, h⟩
  · by_cases h0 : s = []
    · subst h0; exact Nat.zero_le _
    · have := (text_parse h h0).1.2; omega
  · rw [h]; exact Nat.zero_le _
theorem rparse_empty : ACalls Tryd.prog G 29 [.str []] (.tup [.nils, .int .i64 0]) := by
  refine ACalls.of_WA ttok Tryd.func29 rfl rfl _ rfl ?_
  conv => whnf
  repeat' (first | refine WA_seq ?_ | (refine WA_region ttok ?_; conv => whnf) | (refine WA_draw ttok mixed ?_; conv => whnf) | (refine WA_cond ?_; conv => whnf) | refine WA_block ?_ | (refine WA_skip ?_; conv => whnf) | (refine WA_exit ?_; conv => whnf) | (refine WA_ret ?_; conv => whnf) | (refine And.intro (fun h => ?_) (fun h => ?_) <;> (try simp only [brsA] at h) <;> conv => whnf) | (refine WR_fit ?_ ?_; (focus (first | exact wr_i64 (by omega) | exact wr_u64 (by omega) | exact wr_u8 (by omega) | exact wr_i32 (by omega) | exact wr_u32 (by omega))); conv => whnf) | (refine WR_wrap ?_; conv => whnf) | (refine And.intro (a := indepB _ _ = true) ?_ ?_; (focus kernel_rfl); conv => whnf) | (refine And.intro rfl ?_; conv => whnf) | (refine And.intro ?_ ?_; (focus (first | omega | decide | (dsimp only; omega) | (simp at *; omega))); conv => whnf))
  all_goals first | contradiction | (exfalso; omega) | skip
theorem sameX_c (s : List UInt8) : ACalls Tryd.prog G 28 [if (parseW s).2 = 0 then intsA (parseW s).1 else .nils, if (parseW s).2 = 0 then intsA (parseW s).1 else .nils] (.sb true) := by
  split
  · exact same_c _ (parse_len s)
  · exact same_nil
set_option maxRecDepth 100000 in
set_option maxHeartbeats 2000000 in
theorem lawP_empty (hT : HasTab G) (hM : HasMax G) : ACalls Tryd.prog G 6 [.str []] (.sb true) := by
  have ha := pawake_c hT hM
  have hx := rtextW_c (G := G) [] (by decide)
  have hx : ACalls Tryd.prog G 27 [intsA []] (.str []) := hx
  have hx := hx.fit (args' := [.nils]) rfl
  refine ACalls.of_WA ttok Tryd.func6 rfl rfl _ rfl ?_
  conv => whnf
  repeat' (first | refine WA_seq ?_ | (refine WA_region ttok ?_; conv => whnf) | (refine WA_draw ttok mixed ?_; conv => whnf) | (refine WA_cond ?_; conv => whnf) | refine WA_block ?_ | (refine WA_skip ?_; conv => whnf) | (refine WA_exit ?_; conv => whnf) | (refine WA_ret ?_; conv => whnf) | (refine And.intro (fun h => ?_) (fun h => ?_) <;> (try simp only [brsA] at h) <;> conv => whnf) | (refine Or.inl ?_; (conv => whnf); refine Exists.intro _ (And.intro (pparse_empty) ?_); conv => whnf) | (refine Or.inr (Or.inr (Or.inl ?_)); (conv => whnf); refine Exists.intro _ (And.intro (pparse_empty) ?_); conv => whnf) | (refine Exists.intro _ (And.intro (pparse_empty) ?_); conv => whnf) | (refine Or.inl ?_; (conv => whnf); refine Exists.intro _ (And.intro (rparse_empty) ?_); conv => whnf) | (refine Or.inr (Or.inr (Or.inl ?_)); (conv => whnf); refine Exists.intro _ (And.intro (rparse_empty) ?_); conv => whnf) | (refine Exists.intro _ (And.intro (rparse_empty) ?_); conv => whnf) | (refine Or.inl ?_; (conv => whnf); refine Exists.intro _ (And.intro (same_nil) ?_); conv => whnf) | (refine Or.inr (Or.inr (Or.inl ?_)); (conv => whnf); refine Exists.intro _ (And.intro (same_nil) ?_); conv => whnf) | (refine Exists.intro _ (And.intro (same_nil) ?_); conv => whnf) | (refine Or.inl ?_; (conv => whnf); refine Exists.intro _ (And.intro (hx) ?_); conv => whnf) | (refine Or.inr (Or.inr (Or.inl ?_)); (conv => whnf); refine Exists.intro _ (And.intro (hx) ?_); conv => whnf) | (refine Exists.intro _ (And.intro (hx) ?_); conv => whnf) | (refine Or.inl ?_; (conv => whnf); refine Exists.intro _ (And.intro (ha) ?_); conv => whnf) | (refine Or.inr (Or.inr (Or.inl ?_)); (conv => whnf); refine Exists.intro _ (And.intro (ha) ?_); conv => whnf) | (refine Exists.intro _ (And.intro (ha) ?_); conv => whnf) | (refine WR_fit ?_ ?_; (focus (first | exact wr_i64 (by omega) | exact wr_u64 (by omega) | exact wr_u8 (by omega) | exact wr_i32 (by omega) | exact wr_u32 (by omega))); conv => whnf) | (refine WR_wrap ?_; conv => whnf) | (refine And.intro (a := indepB _ _ = true) ?_ ?_; (focus kernel_rfl); conv => whnf) | (refine And.intro rfl ?_; conv => whnf) | (refine And.intro ?_ ?_; (focus (first | omega | decide | (dsimp only; omega) | (simp at *; omega))); conv => whnf))
  all_goals first | contradiction | (exfalso; omega) | skip

set_option maxRecDepth 100000 in
set_option maxHeartbeats 2000000 in
theorem lawP_c (hT : HasTab G) (hM : HasMax G) (s : List UInt8) : ACalls Tryd.prog G 6 [.str s] (.sb true) := by
  by_cases h0 : s = []
  · subst h0; exact lawP_empty hT hM
  have ha := pawake_c hT hM
  by_cases hl : s.length ≤ 3000
  · have h1 := pparse_c hT hM s (by omega) h0
    have h2 := rparseW_c (G := G) s (by omega) h0
    have h3 := sameX_c (G := G) s
    by_cases hz : (parseW s).2 = 0
    · obtain ⟨t1, t2, t3⟩ := text_parse hz h0
      have h4 := rtextW_c (G := G) (parseW s).1 t1
      rw [t2] at h4
      rw [if_pos hz] at h1 h2 h3
      rw [hz] at h1 h2
      generalize (parseW s).1 = l at *
      refine ACalls.of_WA ttok Tryd.func6 rfl rfl _ rfl ?_
      conv => whnf
      repeat' (first | refine WA_seq ?_ | (refine WA_region ttok ?_; conv => whnf) | (refine WA_draw ttok mixed ?_; conv => whnf) | (refine WA_cond ?_; conv => whnf) | refine WA_block ?_ | (refine WA_skip ?_; conv => whnf) | (refine WA_exit ?_; conv => whnf) | (refine WA_ret ?_; conv => whnf) | (refine And.intro (fun h => ?_) (fun h => ?_) <;> (try simp only [brsA] at h) <;> conv => whnf) | (refine Or.inl ?_; (conv => whnf); refine Exists.intro _ (And.intro (h1) ?_); conv => whnf) | (refine Or.inr (Or.inr (Or.inl ?_)); (conv => whnf); refine Exists.intro _ (And.intro (h1) ?_); conv => whnf) | (refine Exists.intro _ (And.intro (h1) ?_); conv => whnf) | (refine Or.inl ?_; (conv => whnf); refine Exists.intro _ (And.intro (h2) ?_); conv => whnf) | (refine Or.inr (Or.inr (Or.inl ?_)); (conv => whnf); refine Exists.intro _ (And.intro (h2) ?_); conv => whnf) | (refine Exists.intro _ (And.intro (h2) ?_); conv => whnf) | (refine Or.inl ?_; (conv => whnf); refine Exists.intro _ (And.intro (h3) ?_); conv => whnf) | (refine Or.inr (Or.inr (Or.inl ?_)); (conv => whnf); refine Exists.intro _ (And.intro (h3) ?_); conv => whnf) | (refine Exists.intro _ (And.intro (h3) ?_); conv => whnf) | (refine Or.inl ?_; (conv => whnf); refine Exists.intro _ (And.intro (h4) ?_); conv => whnf) | (refine Or.inr (Or.inr (Or.inl ?_)); (conv => whnf); refine Exists.intro _ (And.intro (h4) ?_); conv => whnf) | (refine Exists.intro _ (And.intro (h4) ?_); conv => whnf) | (refine Or.inl ?_; (conv => whnf); refine Exists.intro _ (And.intro (ha) ?_); conv => whnf) | (refine Or.inr (Or.inr (Or.inl ?_)); (conv => whnf); refine Exists.intro _ (And.intro (ha) ?_); conv => whnf) | (refine Exists.intro _ (And.intro (ha) ?_); conv => whnf) | (refine WR_fit ?_ ?_; (focus (first | exact wr_i64 (by omega) | exact wr_u64 (by omega) | exact wr_u8 (by omega) | exact wr_i32 (by omega) | exact wr_u32 (by omega))); conv => whnf) | (refine WR_wrap ?_; conv => whnf) | (refine And.intro (a := indepB _ _ = true) ?_ ?_; (focus kernel_rfl); conv => whnf) | (refine And.intro rfl ?_; conv => whnf) | (refine And.intro ?_ ?_; (focus (first | omega | decide | (dsimp only; omega) | (simp at *; omega))); conv => whnf))
      all_goals first | contradiction | (exfalso; omega) | skip

    · rw [if_neg hz] at h1 h2 h3
      generalize (parseW s).2 = e at *
      refine ACalls.of_WA ttok Tryd.func6 rfl rfl _ rfl ?_
      conv => whnf
      repeat' (first | refine WA_seq ?_ | (refine WA_region ttok ?_; conv => whnf) | (refine WA_draw ttok mixed ?_; conv => whnf) | (refine WA_cond ?_; conv => whnf) | refine WA_block ?_ | (refine WA_skip ?_; conv => whnf) | (refine WA_exit ?_; conv => whnf) | (refine WA_ret ?_; conv => whnf) | (refine And.intro (fun h => ?_) (fun h => ?_) <;> (try simp only [brsA] at h) <;> conv => whnf) | (refine Or.inl ?_; (conv => whnf); refine Exists.intro _ (And.intro (h1) ?_); conv => whnf) | (refine Or.inr (Or.inr (Or.inl ?_)); (conv => whnf); refine Exists.intro _ (And.intro (h1) ?_); conv => whnf) | (refine Exists.intro _ (And.intro (h1) ?_); conv => whnf) | (refine Or.inl ?_; (conv => whnf); refine Exists.intro _ (And.intro (h2) ?_); conv => whnf) | (refine Or.inr (Or.inr (Or.inl ?_)); (conv => whnf); refine Exists.intro _ (And.intro (h2) ?_); conv => whnf) | (refine Exists.intro _ (And.intro (h2) ?_); conv => whnf) | (refine Or.inl ?_; (conv => whnf); refine Exists.intro _ (And.intro (h3) ?_); conv => whnf) | (refine Or.inr (Or.inr (Or.inl ?_)); (conv => whnf); refine Exists.intro _ (And.intro (h3) ?_); conv => whnf) | (refine Exists.intro _ (And.intro (h3) ?_); conv => whnf) | (refine Or.inl ?_; (conv => whnf); refine Exists.intro _ (And.intro (ha) ?_); conv => whnf) | (refine Or.inr (Or.inr (Or.inl ?_)); (conv => whnf); refine Exists.intro _ (And.intro (ha) ?_); conv => whnf) | (refine Exists.intro _ (And.intro (ha) ?_); conv => whnf) | (refine WR_fit ?_ ?_; (focus (first | exact wr_i64 (by omega) | exact wr_u64 (by omega) | exact wr_u8 (by omega) | exact wr_i32 (by omega) | exact wr_u32 (by omega))); conv => whnf) | (refine WR_wrap ?_; conv => whnf) | (refine And.intro (a := indepB _ _ = true) ?_ ?_; (focus kernel_rfl); conv => whnf) | (refine And.intro rfl ?_; conv => whnf) | (refine And.intro ?_ ?_; (focus (first | omega | decide | (dsimp only; omega) | (simp at *; omega))); conv => whnf))
      all_goals first | contradiction | (exfalso; omega) | skip

  · refine ACalls.of_WA ttok Tryd.func6 rfl rfl _ rfl ?_
    conv => whnf
    repeat' (first | refine WA_seq ?_ | (refine WA_region ttok ?_; conv => whnf) | (refine WA_draw ttok mixed ?_; conv => whnf) | (refine WA_cond ?_; conv => whnf) | refine WA_block ?_ | (refine WA_skip ?_; conv => whnf) | (refine WA_exit ?_; conv => whnf) | (refine WA_ret ?_; conv => whnf) | (refine And.intro (fun h => ?_) (fun h => ?_) <;> (try simp only [brsA] at h) <;> conv => whnf) | (refine Or.inl ?_; (conv => whnf); refine Exists.intro _ (And.intro (ha) ?_); conv => whnf) | (refine Or.inr (Or.inr (Or.inl ?_)); (conv => whnf); refine Exists.intro _ (And.intro (ha) ?_); conv => whnf) | (refine Exists.intro _ (And.intro (ha) ?_); conv => whnf) | (refine WR_fit ?_ ?_; (focus (first | exact wr_i64 (by omega) | exact wr_u64 (by omega) | exact wr_u8 (by omega) | exact wr_i32 (by omega) | exact wr_u32 (by omega))); conv => whnf) | (refine WR_wrap ?_; conv => whnf) | (refine And.intro (a := indepB _ _ = true) ?_ ?_; (focus kernel_rfl); conv => whnf) | (refine And.intro rfl ?_; conv => whnf) | (refine And.intro ?_ ?_; (focus (first | omega | decide | (dsimp only; omega) | (simp at *; omega))); conv => whnf))
    all_goals first | contradiction | (exfalso; omega) | skip

end Go.Proofs.YtagokdeflnkplaaDoor
set_option linter.unusedSimpArgs false
namespace Go.Proofs.YtagokdeflnkplaaDoor
open Go.Proofs.YtagokdeflnkplaaDoor.Am Go.Lib
variable {G : GInv}
set_option maxRecDepth 100000 in
set_option maxHeartbeats 2000000 in
theorem lawT_c (hT : HasTab G) (hM : HasMax G) (l : List Int) : ACalls Tryd.prog G 5 [intsA l] (.sb true) := by
  have ha := pawake_c hT hM
  by_cases hl : l.length ≤ 1100
  · have h1 := pruns_c (G := G) l (by omega)
    have h2 := rruns_c (G := G) l (by omega)
    have h3 := ritems_c (G := G) (runsL l) (by have := (runs_tot l).2.1; omega)
    have h4 := rmayW_c (G := G) l (by omega)
    by_cases hm : mayL l
    · have h5 := ptext_c hT l hm
      have h6 := rtextW_c (G := G) l hm
      have h7 := same_c (G := G) l (by omega)
      rw [decide_eq_true hm] at h4
      have hlen : (textL l).length ≤ 100000 := by
        obtain ⟨m1, m2⟩ := may_runs hm
        have hlen := totL_le (L := (runsL l).map wordR) (fun x hx => by
          obtain ⟨y, hy, rfl⟩ := List.mem_map.1 hx
          exact wordR_len y (m2 y hy).1)
        rw [List.length_map] at hlen
        have := join_len_le 32 ((runsL l).map wordR)
        show (join ((runsL l).map wordR) [32]).length ≤ 100000
        omega
      by_cases h0 : l = []
      · subst h0
        have e : textL [] = [] := rfl
        rw [e] at h5 h6
        have h7 := h7.fit (args' := [.nils, intsA []]) (by
          conv => whnf
          repeat (first | exact rfl | exact trivial | exact Or.inl (fun _ _ => rfl) | exact (fun _ => rfl) | exact (fun _ _ => rfl) | exact Or.inl (fun _ hi => absurd hi (Nat.not_lt_zero _)) | (refine And.intro rfl ?_; conv => whnf) | (refine And.intro (Or.inl (fun _ _ => rfl)) ?_; conv => whnf) | (refine And.intro (fun _ => rfl) ?_; conv => whnf) | (refine And.intro (fun _ _ => rfl) ?_; conv => whnf) | (refine And.intro ?_ ?_; rotate_left; conv => whnf))
          all_goals exact Or.inl fun _ _ => rfl)
        refine ACalls.of_WA ttok Tryd.func5 rfl rfl _ rfl ?_
        conv => whnf
        repeat' (first | refine WA_seq ?_ | (refine WA_region ttok ?_; conv => whnf) | (refine WA_draw ttok mixed ?_; conv => whnf) | (refine WA_cond ?_; conv => whnf) | refine WA_block ?_ | (refine WA_skip ?_; conv => whnf) | (refine WA_exit ?_; conv => whnf) | (refine WA_ret ?_; conv => whnf) | (refine And.intro (fun h => ?_) (fun h => ?_) <;> (try simp only [brsA] at h) <;> conv => whnf) | (refine Or.inl ?_; (conv => whnf); refine Exists.intro _ (And.intro (h5) ?_); conv => whnf) | (refine Or.inr (Or.inr (Or.inl ?_)); (conv => whnf); refine Exists.intro _ (And.intro (h5) ?_); conv => whnf) | (refine Exists.intro _ (And.intro (h5) ?_); conv => whnf) | (refine Or.inl ?_; (conv => whnf); refine Exists.intro _ (And.intro (h1) ?_); conv => whnf) | (refine Or.inr (Or.inr (Or.inl ?_)); (conv => whnf); refine Exists.intro _ (And.intro (h1) ?_); conv => whnf) | (refine Exists.intro _ (And.intro (h1) ?_); conv => whnf) | (refine Or.inl ?_; (conv => whnf); refine Exists.intro _ (And.intro (h2) ?_); conv => whnf) | (refine Or.inr (Or.inr (Or.inl ?_)); (conv => whnf); refine Exists.intro _ (And.intro (h2) ?_); conv => whnf) | (refine Exists.intro _ (And.intro (h2) ?_); conv => whnf) | (refine Or.inl ?_; (conv => whnf); refine Exists.intro _ (And.intro (h3) ?_); conv => whnf) | (refine Or.inr (Or.inr (Or.inl ?_)); (conv => whnf); refine Exists.intro _ (And.intro (h3) ?_); conv => whnf) | (refine Exists.intro _ (And.intro (h3) ?_); conv => whnf) | (refine Or.inl ?_; (conv => whnf); refine Exists.intro _ (And.intro (h4) ?_); conv => whnf) | (refine Or.inr (Or.inr (Or.inl ?_)); (conv => whnf); refine Exists.intro _ (And.intro (h4) ?_); conv => whnf) | (refine Exists.intro _ (And.intro (h4) ?_); conv => whnf) | (refine Or.inl ?_; (conv => whnf); refine Exists.intro _ (And.intro (pparse_empty) ?_); conv => whnf) | (refine Or.inr (Or.inr (Or.inl ?_)); (conv => whnf); refine Exists.intro _ (And.intro (pparse_empty) ?_); conv => whnf) | (refine Exists.intro _ (And.intro (pparse_empty) ?_); conv => whnf) | (refine Or.inl ?_; (conv => whnf); refine Exists.intro _ (And.intro (h6) ?_); conv => whnf) | (refine Or.inr (Or.inr (Or.inl ?_)); (conv => whnf); refine Exists.intro _ (And.intro (h6) ?_); conv => whnf) | (refine Exists.intro _ (And.intro (h6) ?_); conv => whnf) | (refine Or.inl ?_; (conv => whnf); refine Exists.intro _ (And.intro (h7) ?_); conv => whnf) | (refine Or.inr (Or.inr (Or.inl ?_)); (conv => whnf); refine Exists.intro _ (And.intro (h7) ?_); conv => whnf) | (refine Exists.intro _ (And.intro (h7) ?_); conv => whnf) | (refine Or.inl ?_; (conv => whnf); refine Exists.intro _ (And.intro (ha) ?_); conv => whnf) | (refine Or.inr (Or.inr (Or.inl ?_)); (conv => whnf); refine Exists.intro _ (And.intro (ha) ?_); conv => whnf) | (refine Exists.intro _ (And.intro (ha) ?_); conv => whnf) | (refine WR_fit ?_ ?_; (focus (first | exact wr_i64 (by omega) | exact wr_u64 (by omega) | exact wr_u8 (by omega) | exact wr_i32 (by omega) | exact wr_u32 (by omega))); conv => whnf) | (refine WR_wrap ?_; conv => whnf) | (refine And.intro (a := indepB _ _ = true) ?_ ?_; (focus kernel_rfl); conv => whnf) | (refine And.intro rfl ?_; conv => whnf) | (refine And.intro ?_ ?_; (focus (first | omega | decide | (dsimp only; omega) | (simp at *; omega))); conv => whnf))
        all_goals first | contradiction | (exfalso; omega) | skip
      · have h8 := pparse_c hT hM (textL l) hlen (text_ne h0).2
        rw [parse_text hm h0] at h8
        have h8 : ACalls Tryd.prog G 26 [.str (textL l)] (.tup [intsA l, .int .i64 0]) := h8
        generalize textL l = s at *
        generalize runsL l = R at *
        refine ACalls.of_WA ttok Tryd.func5 rfl rfl _ rfl ?_
        conv => whnf
        repeat' (first | refine WA_seq ?_ | (refine WA_region ttok ?_; conv => whnf) | (refine WA_draw ttok mixed ?_; conv => whnf) | (refine WA_cond ?_; conv => whnf) | refine WA_block ?_ | (refine WA_skip ?_; conv => whnf) | (refine WA_exit ?_; conv => whnf) | (refine WA_ret ?_; conv => whnf) | (refine And.intro (fun h => ?_) (fun h => ?_) <;> (try simp only [brsA] at h) <;> conv => whnf) | (refine Or.inl ?_; (conv => whnf); refine Exists.intro _ (And.intro (h5) ?_); conv => whnf) | (refine Or.inr (Or.inr (Or.inl ?_)); (conv => whnf); refine Exists.intro _ (And.intro (h5) ?_); conv => whnf) | (refine Exists.intro _ (And.intro (h5) ?_); conv => whnf) | (refine Or.inl ?_; (conv => whnf); refine Exists.intro _ (And.intro (h1) ?_); conv => whnf) | (refine Or.inr (Or.inr (Or.inl ?_)); (conv => whnf); refine Exists.intro _ (And.intro (h1) ?_); conv => whnf) | (refine Exists.intro _ (And.intro (h1) ?_); conv => whnf) | (refine Or.inl ?_; (conv => whnf); refine Exists.intro _ (And.intro (h2) ?_); conv => whnf) | (refine Or.inr (Or.inr (Or.inl ?_)); (conv => whnf); refine Exists.intro _ (And.intro (h2) ?_); conv => whnf) | (refine Exists.intro _ (And.intro (h2) ?_); conv => whnf) | (refine Or.inl ?_; (conv => whnf); refine Exists.intro _ (And.intro (h3) ?_); conv => whnf) | (refine Or.inr (Or.inr (Or.inl ?_)); (conv => whnf); refine Exists.intro _ (And.intro (h3) ?_); conv => whnf) | (refine Exists.intro _ (And.intro (h3) ?_); conv => whnf) | (refine Or.inl ?_; (conv => whnf); refine Exists.intro _ (And.intro (h4) ?_); conv => whnf) | (refine Or.inr (Or.inr (Or.inl ?_)); (conv => whnf); refine Exists.intro _ (And.intro (h4) ?_); conv => whnf) | (refine Exists.intro _ (And.intro (h4) ?_); conv => whnf) | (refine Or.inl ?_; (conv => whnf); refine Exists.intro _ (And.intro (h8) ?_); conv => whnf) | (refine Or.inr (Or.inr (Or.inl ?_)); (conv => whnf); refine Exists.intro _ (And.intro (h8) ?_); conv => whnf) | (refine Exists.intro _ (And.intro (h8) ?_); conv => whnf) | (refine Or.inl ?_; (conv => whnf); refine Exists.intro _ (And.intro (h6) ?_); conv => whnf) | (refine Or.inr (Or.inr (Or.inl ?_)); (conv => whnf); refine Exists.intro _ (And.intro (h6) ?_); conv => whnf) | (refine Exists.intro _ (And.intro (h6) ?_); conv => whnf) | (refine Or.inl ?_; (conv => whnf); refine Exists.intro _ (And.intro (h7) ?_); conv => whnf) | (refine Or.inr (Or.inr (Or.inl ?_)); (conv => whnf); refine Exists.intro _ (And.intro (h7) ?_); conv => whnf) | (refine Exists.intro _ (And.intro (h7) ?_); conv => whnf) | (refine Or.inl ?_; (conv => whnf); refine Exists.intro _ (And.intro (ha) ?_); conv => whnf) | (refine Or.inr (Or.inr (Or.inl ?_)); (conv => whnf); refine Exists.intro _ (And.intro (ha) ?_); conv => whnf) | (refine Exists.intro _ (And.intro (ha) ?_); conv => whnf) | (refine WR_fit ?_ ?_; (focus (first | exact wr_i64 (by omega) | exact wr_u64 (by omega) | exact wr_u8 (by omega) | exact wr_i32 (by omega) | exact wr_u32 (by omega))); conv => whnf) | (refine WR_wrap ?_; conv => whnf) | (refine And.intro (a := indepB _ _ = true) ?_ ?_; (focus kernel_rfl); conv => whnf) | (refine And.intro rfl ?_; conv => whnf) | (refine And.intro ?_ ?_; (focus (first | omega | decide | (dsimp only; omega) | (simp at *; omega))); conv => whnf))
        all_goals first | contradiction | (exfalso; omega) | skip
    · have h5 := ptext_bad (G := G) l (by omega) hm
      rw [decide_eq_false hm] at h4
      generalize runsL l = R at *
      refine ACalls.of_WA ttok Tryd.func5 rfl rfl _ rfl ?_
      conv => whnf
      repeat' (first | refine WA_seq ?_ | (refine WA_region ttok ?_; conv => whnf) | (refine WA_draw ttok mixed ?_; conv => whnf) | (refine WA_cond ?_; conv => whnf) | refine WA_block ?_ | (refine WA_skip ?_; conv => whnf) | (refine WA_exit ?_; conv => whnf) | (refine WA_ret ?_; conv => whnf) | (refine And.intro (fun h => ?_) (fun h => ?_) <;> (try simp only [brsA] at h) <;> conv => whnf) | (refine Or.inl ?_; (conv => whnf); refine Exists.intro _ (And.intro (h5) ?_); conv => whnf) | (refine Or.inr (Or.inr (Or.inl ?_)); (conv => whnf); refine Exists.intro _ (And.intro (h5) ?_); conv => whnf) | (refine Exists.intro _ (And.intro (h5) ?_); conv => whnf) | (refine Or.inl ?_; (conv => whnf); refine Exists.intro _ (And.intro (h1) ?_); conv => whnf) | (refine Or.inr (Or.inr (Or.inl ?_)); (conv => whnf); refine Exists.intro _ (And.intro (h1) ?_); conv => whnf) | (refine Exists.intro _ (And.intro (h1) ?_); conv => whnf) | (refine Or.inl ?_; (conv => whnf); refine Exists.intro _ (And.intro (h2) ?_); conv => whnf) | (refine Or.inr (Or.inr (Or.inl ?_)); (conv => whnf); refine Exists.intro _ (And.intro (h2) ?_); conv => whnf) | (refine Exists.intro _ (And.intro (h2) ?_); conv => whnf) | (refine Or.inl ?_; (conv => whnf); refine Exists.intro _ (And.intro (h3) ?_); conv => whnf) | (refine Or.inr (Or.inr (Or.inl ?_)); (conv => whnf); refine Exists.intro _ (And.intro (h3) ?_); conv => whnf) | (refine Exists.intro _ (And.intro (h3) ?_); conv => whnf) | (refine Or.inl ?_; (conv => whnf); refine Exists.intro _ (And.intro (h4) ?_); conv => whnf) | (refine Or.inr (Or.inr (Or.inl ?_)); (conv => whnf); refine Exists.intro _ (And.intro (h4) ?_); conv => whnf) | (refine Exists.intro _ (And.intro (h4) ?_); conv => whnf) | (refine Or.inl ?_; (conv => whnf); refine Exists.intro _ (And.intro (ha) ?_); conv => whnf) | (refine Or.inr (Or.inr (Or.inl ?_)); (conv => whnf); refine Exists.intro _ (And.intro (ha) ?_); conv => whnf) | (refine Exists.intro _ (And.intro (ha) ?_); conv => whnf) | (refine WR_fit ?_ ?_; (focus (first | exact wr_i64 (by omega) | exact wr_u64 (by omega) | exact wr_u8 (by omega) | exact wr_i32 (by omega) | exact wr_u32 (by omega))); conv => whnf) | (refine WR_wrap ?_; conv => whnf) | (refine And.intro (a := indepB _ _ = true) ?_ ?_; (focus kernel_rfl); conv => whnf) | (refine And.intro rfl ?_; conv => whnf) | (refine And.intro ?_ ?_; (focus (first | omega | decide | (dsimp only; omega) | (simp at *; omega))); conv => whnf))
      all_goals first | contradiction | (exfalso; omega) | skip
  · refine ACalls.of_WA ttok Tryd.func5 rfl rfl _ rfl ?_
    conv => whnf
    repeat' (first | refine WA_seq ?_ | (refine WA_region ttok ?_; conv => whnf) | (refine WA_draw ttok mixed ?_; conv => whnf) | (refine WA_cond ?_; conv => whnf) | refine WA_block ?_ | (refine WA_skip ?_; conv => whnf) | (refine WA_exit ?_; conv => whnf) | (refine WA_ret ?_; conv => whnf) | (refine And.intro (fun h => ?_) (fun h => ?_) <;> (try simp only [brsA] at h) <;> conv => whnf) | (refine Or.inl ?_; (conv => whnf); refine Exists.intro _ (And.intro (ha) ?_); conv => whnf) | (refine Or.inr (Or.inr (Or.inl ?_)); (conv => whnf); refine Exists.intro _ (And.intro (ha) ?_); conv => whnf) | (refine Exists.intro _ (And.intro (ha) ?_); conv => whnf) | (refine WR_fit ?_ ?_; (focus (first | exact wr_i64 (by omega) | exact wr_u64 (by omega) | exact wr_u8 (by omega) | exact wr_i32 (by omega) | exact wr_u32 (by omega))); conv => whnf) | (refine WR_wrap ?_; conv => whnf) | (refine And.intro (a := indepB _ _ = true) ?_ ?_; (focus kernel_rfl); conv => whnf) | (refine And.intro rfl ?_; conv => whnf) | (refine And.intro ?_ ?_; (focus (first | omega | decide | (dsimp only; omega) | (simp at *; omega))); conv => whnf))
    all_goals first | contradiction | (exfalso; omega) | skip
/-! ### The other way round -/
def mostB (l : List Int) (i : Nat) : Bool := decide (∀ j, j < i → l.getD (l.length - 1 - j) 0 < 1152921504606846976)
theorem mostB_succ (l : List Int) (i : Nat) : mostB l (i + 1) = (mostB l i && decide (l.getD (l.length - 1 - i) 0 < 1152921504606846976)) := by
  unfold mostB
  rw [Bool.eq_iff_iff, Bool.and_eq_true, decide_eq_true_eq, decide_eq_true_eq, decide_eq_true_eq]
  constructor
  · intro h; exact ⟨fun j hj => h j (by omega), h i (by omega)⟩
  · rintro ⟨h1, h2⟩ j hj
    rcases Nat.lt_or_eq_of_le (Nat.le_of_lt_succ hj) with q | q
    · exact h1 j q
    · subst q; exact h2
theorem flip_flip (x : Int) : flipI (flipI x) = x := by
  unfold flipI
  split
  · rw [if_neg (by omega)]; omega
  · rw [if_pos (by omega)]; omega
theorem ints_ext {l m : List Int} (hl : l.length = m.length) (h : ∀ i, i < l.length → l.getD i 0 = m.getD i 0) : l = m := by
  apply List.ext_getElem hl
  intro i h1 h2
  have := h i h1
  rwa [List.getD_eq_getElem?_getD, List.getD_eq_getElem?_getD, List.getElem?_eq_getElem h1, List.getElem?_eq_getElem h2] at this
theorem back_back (l : List Int) : backL (backL l) = l := by
  apply ints_ext
  · rw [backL_len, backL_len]
  · intro i hi
    rw [backL_len, backL_len] at hi
    rw [backL_get _ (by rw [backL_len]; exact hi), backL_len, backL_get _ (by omega), flip_flip]
    rw [show l.length - 1 - (l.length - 1 - i) = i by omega]
theorem most_may {l : List Int} (hm : mayL l) (h : mostB l l.length = true) : mayL (backL l) := by
  have h := of_decide_eq_true h
  rw [may_at] at hm ⊢
  rw [backL_len]
  refine ⟨fun i hi => ?_, hm.2⟩
  rw [backL_get l hi]
  have h1 := hm.1 (l.length - 1 - i) (by omega)
  have h2 := h i hi
  unfold flipI
  split <;> omega
set_option maxRecDepth 100000 in
set_option maxHeartbeats 4000000 in
theorem lawB_c (hT : HasTab G) (hM : HasMax G) (l : List Int) : ACalls Tryd.prog G 7 [intsA l] (.sb true) := by
  have ha := pawake_c hT hM
  by_cases hl : l.length ≤ 1100
  · have h4 := rmayW_c (G := G) l (by omega)
    by_cases hm : mayL l
    · have h5 := back_c hM l hm
      have h7 := same_c (G := G) l (by omega)
      rw [decide_eq_true hm] at h4
      have hbl := backL_len l
      have hbg := @backL_get l
      have hmost := most_may hm
      have h6a := fun (q : mayL (backL l)) => back_c hM (backL l) q
      rw [back_back] at h6a
      have h6b := fun (q : ¬ mayL (backL l)) => back_bad (G := G) (backL l) (by omega) q
      have hmx := (may_at.1 hm).1
      generalize backL l = B at *
      refine ACalls.of_WA ttok Tryd.func7 rfl rfl _ rfl ?_
      conv => whnf
      repeat' (first | refine WA_seq ?_ | (refine WA_region ttok ?_; conv => whnf) | (refine WA_draw ttok mixed ?_; conv => whnf) | (refine WA_cond ?_; conv => whnf) | refine WA_block ?_ | (refine WA_skip ?_; conv => whnf) | (refine WA_exit ?_; conv => whnf) | (refine WA_ret ?_; conv => whnf) | (refine And.intro (fun h => ?_) (fun h => ?_) <;> (try simp only [brsA] at h) <;> conv => whnf) | (refine Or.inl ?_; (conv => whnf); refine Exists.intro _ (And.intro (h5) ?_); conv => whnf) | (refine Or.inr (Or.inr (Or.inl ?_)); (conv => whnf); refine Exists.intro _ (And.intro (h5) ?_); conv => whnf) | (refine Exists.intro _ (And.intro (h5) ?_); conv => whnf) | (refine Or.inl ?_; (conv => whnf); refine Exists.intro _ (And.intro (h4) ?_); conv => whnf) | (refine Or.inr (Or.inr (Or.inl ?_)); (conv => whnf); refine Exists.intro _ (And.intro (h4) ?_); conv => whnf) | (refine Exists.intro _ (And.intro (h4) ?_); conv => whnf) | (refine WR_fit ?_ ?_; (focus (first | exact wr_i64 (by omega) | exact wr_u64 (by omega) | exact wr_u8 (by omega) | exact wr_i32 (by omega) | exact wr_u32 (by omega))); conv => whnf) | (refine WR_wrap ?_; conv => whnf) | (refine And.intro (a := indepB _ _ = true) ?_ ?_; (focus kernel_rfl); conv => whnf) | (refine And.intro rfl ?_; conv => whnf) | (refine And.intro ?_ ?_; (focus (first | omega | decide | (dsimp only; omega) | (simp at *; omega))); conv => whnf))
      all_goals first | contradiction | (exfalso; omega) | skip
      refine WA_loopI (fun i : Nat => i ≤ l.length) (fun i => [(6, .int .i64 (i : Int)), (5, .sb (mostB l i)), (7, .junk), (8, .junk)]) (fun i => []) (fun i => l.length - i) 0 (Nat.zero_le _) ?_ ?_
      · conv => whnf
        repeat (first | exact rfl | exact trivial | exact Or.inl (fun _ _ => rfl) | exact (fun _ => rfl) | exact (fun _ _ => rfl) | exact Or.inl (fun _ hi => absurd hi (Nat.not_lt_zero _)) | (refine And.intro rfl ?_; conv => whnf) | (refine And.intro (Or.inl (fun _ _ => rfl)) ?_; conv => whnf) | (refine And.intro (fun _ => rfl) ?_; conv => whnf) | (refine And.intro (fun _ _ => rfl) ?_; conv => whnf) | (refine And.intro ?_ ?_; rotate_left; conv => whnf))
      · intro i hi
        by_cases hil : i < l.length
        · have hx := hmx (((l.length : Int) - 1 - (i : Int))).toNat (by omega)
          have hms := mostB_succ l i
          have et : ((l.length : Int) - 1 - (i : Int)).toNat = l.length - 1 - i := by omega
          have ei : ((i : Nat) : Int).toNat = i := Int.toNat_natCast i
          have hg : B.getD ((i : Nat) : Int).toNat 0 = flipI (l.getD ((l.length : Int) - 1 - (i : Int)).toNat 0) := by rw [ei, et]; exact hbg hil
          rw [← et] at hms
          have htm : Int.tmod (l.getD ((l.length : Int) - 1 - (i : Int)).toNat 0) 2 = l.getD ((l.length : Int) - 1 - (i : Int)).toNat 0 % 2 := Int.tmod_eq_emod_of_nonneg hx.1
          have hg2 : (l.getD ((l.length : Int) - 1 - (i : Int)).toNat 0 % 2 = 0 → B.getD ((i : Nat) : Int).toNat 0 = l.getD ((l.length : Int) - 1 - (i : Int)).toNat 0 + 1) ∧ (¬ l.getD ((l.length : Int) - 1 - (i : Int)).toNat 0 % 2 = 0 → B.getD ((i : Nat) : Int).toNat 0 = l.getD ((l.length : Int) - 1 - (i : Int)).toNat 0 - 1) := by
            rw [hg]; unfold flipI
            exact ⟨fun q => if_pos q, fun q => if_neg q⟩
          conv => whnf
          repeat' (first | refine WA_seq ?_ | (refine WA_region ttok ?_; conv => whnf) | (refine WA_draw ttok mixed ?_; conv => whnf) | (refine WA_cond ?_; conv => whnf) | refine WA_block ?_ | (refine WA_skip ?_; conv => whnf) | (refine WA_exit ?_; conv => whnf) | (refine WA_ret ?_; conv => whnf) | (refine And.intro (fun h => ?_) (fun h => ?_) <;> (try simp only [brsA] at h) <;> conv => whnf) | (refine WR_fit ?_ ?_; (focus (first | exact wr_i64 (by omega) | exact wr_u64 (by omega) | exact wr_u8 (by omega) | exact wr_i32 (by omega) | exact wr_u32 (by omega))); conv => whnf) | (refine WR_wrap ?_; conv => whnf) | (refine And.intro (a := indepB _ _ = true) ?_ ?_; (focus kernel_rfl); conv => whnf) | (refine And.intro rfl ?_; conv => whnf) | (refine And.intro ?_ ?_; (focus (first | omega | decide | (dsimp only; omega) | (simp at *; omega))); conv => whnf))
          all_goals first | contradiction | (exfalso; omega) | skip
          all_goals
            refine ⟨i + 1, (by show i + 1 ≤ l.length; omega), (by show l.length - (i + 1) < l.length - i; omega), ?_⟩
            conv => whnf
            repeat (first | exact rfl | exact trivial | exact Or.inl (fun _ _ => rfl) | exact (fun _ => rfl) | exact (fun _ _ => rfl) | exact Or.inl (fun _ hi => absurd hi (Nat.not_lt_zero _)) | (refine And.intro rfl ?_; conv => whnf) | (refine And.intro (Or.inl (fun _ _ => rfl)) ?_; conv => whnf) | (refine And.intro (fun _ => rfl) ?_; conv => whnf) | (refine And.intro (fun _ _ => rfl) ?_; conv => whnf) | (refine And.intro ?_ ?_; rotate_left; conv => whnf))
            all_goals first | (rw [hms, show mostB l i = true by assumption, Bool.true_and]; done) | (rw [hms, show mostB l i = false by assumption, Bool.false_and]; done) | skip
        · have hie : i = l.length := by omega
          subst hie
          by_cases hB : mayL B
          · have h6 := h6a hB
            conv => whnf
            repeat' (first | refine WA_seq ?_ | (refine WA_region ttok ?_; conv => whnf) | (refine WA_draw ttok mixed ?_; conv => whnf) | (refine WA_cond ?_; conv => whnf) | refine WA_block ?_ | (refine WA_skip ?_; conv => whnf) | (refine WA_exit ?_; conv => whnf) | (refine WA_ret ?_; conv => whnf) | (refine And.intro (fun h => ?_) (fun h => ?_) <;> (try simp only [brsA] at h) <;> conv => whnf) | (refine Or.inl ?_; (conv => whnf); refine Exists.intro _ (And.intro (h6) ?_); conv => whnf) | (refine Or.inr (Or.inr (Or.inl ?_)); (conv => whnf); refine Exists.intro _ (And.intro (h6) ?_); conv => whnf) | (refine Exists.intro _ (And.intro (h6) ?_); conv => whnf) | (refine Or.inl ?_; (conv => whnf); refine Exists.intro _ (And.intro (h7) ?_); conv => whnf) | (refine Or.inr (Or.inr (Or.inl ?_)); (conv => whnf); refine Exists.intro _ (And.intro (h7) ?_); conv => whnf) | (refine Exists.intro _ (And.intro (h7) ?_); conv => whnf) | (refine Or.inl ?_; (conv => whnf); refine Exists.intro _ (And.intro (ha) ?_); conv => whnf) | (refine Or.inr (Or.inr (Or.inl ?_)); (conv => whnf); refine Exists.intro _ (And.intro (ha) ?_); conv => whnf) | (refine Exists.intro _ (And.intro (ha) ?_); conv => whnf) | (refine WR_fit ?_ ?_; (focus (first | exact wr_i64 (by omega) | exact wr_u64 (by omega) | exact wr_u8 (by omega) | exact wr_i32 (by omega) | exact wr_u32 (by omega))); conv => whnf) | (refine WR_wrap ?_; conv => whnf) | (refine And.intro (a := indepB _ _ = true) ?_ ?_; (focus kernel_rfl); conv => whnf) | (refine And.intro rfl ?_; conv => whnf) | (refine And.intro ?_ ?_; (focus (first | omega | decide | (dsimp only; omega) | (simp at *; omega))); conv => whnf))
            all_goals first | contradiction | (exfalso; omega) | skip
          · have h6 := h6b hB
            conv => whnf
            repeat' (first | refine WA_seq ?_ | (refine WA_region ttok ?_; conv => whnf) | (refine WA_draw ttok mixed ?_; conv => whnf) | (refine WA_cond ?_; conv => whnf) | refine WA_block ?_ | (refine WA_skip ?_; conv => whnf) | (refine WA_exit ?_; conv => whnf) | (refine WA_ret ?_; conv => whnf) | (refine And.intro (fun h => ?_) (fun h => ?_) <;> (try simp only [brsA] at h) <;> conv => whnf) | (refine Or.inl ?_; (conv => whnf); refine Exists.intro _ (And.intro (h6) ?_); conv => whnf) | (refine Or.inr (Or.inr (Or.inl ?_)); (conv => whnf); refine Exists.intro _ (And.intro (h6) ?_); conv => whnf) | (refine Exists.intro _ (And.intro (h6) ?_); conv => whnf) | (refine Or.inl ?_; (conv => whnf); refine Exists.intro _ (And.intro (h7) ?_); conv => whnf) | (refine Or.inr (Or.inr (Or.inl ?_)); (conv => whnf); refine Exists.intro _ (And.intro (h7) ?_); conv => whnf) | (refine Exists.intro _ (And.intro (h7) ?_); conv => whnf) | (refine Or.inl ?_; (conv => whnf); refine Exists.intro _ (And.intro (ha) ?_); conv => whnf) | (refine Or.inr (Or.inr (Or.inl ?_)); (conv => whnf); refine Exists.intro _ (And.intro (ha) ?_); conv => whnf) | (refine Exists.intro _ (And.intro (ha) ?_); conv => whnf) | (refine WR_fit ?_ ?_; (focus (first | exact wr_i64 (by omega) | exact wr_u64 (by omega) | exact wr_u8 (by omega) | exact wr_i32 (by omega) | exact wr_u32 (by omega))); conv => whnf) | (refine WR_wrap ?_; conv => whnf) | (refine And.intro (a := indepB _ _ = true) ?_ ?_; (focus kernel_rfl); conv => whnf) | (refine And.intro rfl ?_; conv => whnf) | (refine And.intro ?_ ?_; (focus (first | omega | decide | (dsimp only; omega) | (simp at *; omega))); conv => whnf))
            all_goals first | contradiction | exact absurd (hmost (by assumption)) hB | (exfalso; omega)
    · have h5 := back_bad (G := G) l (by omega) hm
      rw [decide_eq_false hm] at h4
      refine ACalls.of_WA ttok Tryd.func7 rfl rfl _ rfl ?_
      conv => whnf
      repeat' (first | refine WA_seq ?_ | (refine WA_region ttok ?_; conv => whnf) | (refine WA_draw ttok mixed ?_; conv => whnf) | (refine WA_cond ?_; conv => whnf) | refine WA_block ?_ | (refine WA_skip ?_; conv => whnf) | (refine WA_exit ?_; conv => whnf) | (refine WA_ret ?_; conv => whnf) | (refine And.intro (fun h => ?_) (fun h => ?_) <;> (try simp only [brsA] at h) <;> conv => whnf) | (refine Or.inl ?_; (conv => whnf); refine Exists.intro _ (And.intro (h5) ?_); conv => whnf) | (refine Or.inr (Or.inr (Or.inl ?_)); (conv => whnf); refine Exists.intro _ (And.intro (h5) ?_); conv => whnf) | (refine Exists.intro _ (And.intro (h5) ?_); conv => whnf) | (refine Or.inl ?_; (conv => whnf); refine Exists.intro _ (And.intro (h4) ?_); conv => whnf) | (refine Or.inr (Or.inr (Or.inl ?_)); (conv => whnf); refine Exists.intro _ (And.intro (h4) ?_); conv => whnf) | (refine Exists.intro _ (And.intro (h4) ?_); conv => whnf) | (refine Or.inl ?_; (conv => whnf); refine Exists.intro _ (And.intro (ha) ?_); conv => whnf) | (refine Or.inr (Or.inr (Or.inl ?_)); (conv => whnf); refine Exists.intro _ (And.intro (ha) ?_); conv => whnf) | (refine Exists.intro _ (And.intro (ha) ?_); conv => whnf) | (refine WR_fit ?_ ?_; (focus (first | exact wr_i64 (by omega) | exact wr_u64 (by omega) | exact wr_u8 (by omega) | exact wr_i32 (by omega) | exact wr_u32 (by omega))); conv => whnf) | (refine WR_wrap ?_; conv => whnf) | (refine And.intro (a := indepB _ _ = true) ?_ ?_; (focus kernel_rfl); conv => whnf) | (refine And.intro rfl ?_; conv => whnf) | (refine And.intro ?_ ?_; (focus (first | omega | decide | (dsimp only; omega) | (simp at *; omega))); conv => whnf))
      all_goals first | contradiction | (exfalso; omega) | skip
  · refine ACalls.of_WA ttok Tryd.func7 rfl rfl _ rfl ?_
    conv => whnf
    repeat' (first | refine WA_seq ?_ | (refine WA_region ttok ?_; conv => whnf) | (refine WA_draw ttok mixed ?_; conv => whnf) | (refine WA_cond ?_; conv => whnf) | refine WA_block ?_ | (refine WA_skip ?_; conv => whnf) | (refine WA_exit ?_; conv => whnf) | (refine WA_ret ?_; conv => whnf) | (refine And.intro (fun h => ?_) (fun h => ?_) <;> (try simp only [brsA] at h) <;> conv => whnf) | (refine Or.inl ?_; (conv => whnf); refine Exists.intro _ (And.intro (ha) ?_); conv => whnf) | (refine Or.inr (Or.inr (Or.inl ?_)); (conv => whnf); refine Exists.intro _ (And.intro (ha) ?_); conv => whnf) | (refine Exists.intro _ (And.intro (ha) ?_); conv => whnf) | (refine WR_fit ?_ ?_; (focus (first | exact wr_i64 (by omega) | exact wr_u64 (by omega) | exact wr_u8 (by omega) | exact wr_i32 (by omega) | exact wr_u32 (by omega))); conv => whnf) | (refine WR_wrap ?_; conv => whnf) | (refine And.intro (a := indepB _ _ = true) ?_ ?_; (focus kernel_rfl); conv => whnf) | (refine And.intro rfl ?_; conv => whnf) | (refine And.intro ?_ ?_; (focus (first | omega | decide | (dsimp only; omega) | (simp at *; omega))); conv => whnf))
    all_goals first | contradiction | (exfalso; omega) | skip
end Go.Proofs.YtagokdeflnkplaaDoor

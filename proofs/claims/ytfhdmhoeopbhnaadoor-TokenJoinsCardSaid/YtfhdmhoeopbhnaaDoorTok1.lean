/-
  The reference of texts; a loop over a function that keeps its state in cells; the walk of token.Lines.
-/
import Derived.Test.YtfhdmhoeopbhnaaDoorNum1
import Derived.RangeFuncNested
import Derived.RangeFuncBound
import Derived.RangeFuncCalls
import Derived.RangeFuncLeaves
import Derived.RangeFuncBox
import Derived.Shelf.Abstract
import Derived.WalkKit
import Derived.OwnWalkIn
import Derived.TacticsInMore
import Derived.LoopNIn
import Derived.LoopIn
import Derived.Maps.AppendAt
import Derived.Test.YtfhdmhoeopbhnaaDoorShelf
import Derived.Lib.IndexBytes
import Derived.Lib.IndexLaws
import Derived.Lib.Split
import Derived.Stop.RegionWithIn
set_option linter.unusedSimpArgs false
namespace Go.Proofs.YtfhdmhoeopbhnaaDoor
open Go.Proofs.YtfhdmhoeopbhnaaDoor.Am
variable {G : GInv}
/-! ### The reference's Cut -/
/-- The parts of a text, of which the first ones begin at one place and have been looked at up to another. -/
def hd1 (p : List UInt8) : List (List UInt8) → List (List UInt8)
  | h :: t => (p ++ h) :: t
  | [] => [p]
theorem hd1_nil (l : List (List UInt8)) (h : l ≠ []) : hd1 [] l = l := by
  cases l with
  | nil => exact absurd rfl h
  | cons x l => rfl
theorem hd1_step (c b : UInt8) (p l : List UInt8) (h : b ≠ c) : hd1 p (cutL c (b :: l)) = hd1 (p ++ [b]) (cutL c l) := by
  have hne := cutL_ne c l
  rw [cutL, if_neg h]
  cases hc : cutL c l with
  | nil => exact absurd hc hne
  | cons x t => simp [hd1]
theorem hd1_cut (c : UInt8) (p l : List UInt8) : hd1 p (cutL c (c :: l)) = p :: cutL c l := by
  rw [cutL, if_pos rfl]; simp [hd1]
def part (s : List UInt8) (b i : Nat) : List UInt8 := (s.take i).drop b
theorem part_snoc (s : List UInt8) {b i : Nat} (hb : b ≤ i) (hi : i < s.length) : part s b (i + 1) = part s b i ++ [s.getD i 0] := by
  unfold part
  rw [List.take_add_one, List.getElem?_eq_getElem hi, List.drop_append_of_le_length (by simp; omega)]
  simp [List.getD_eq_getElem?_getD, List.getElem?_eq_getElem hi]
theorem rowCat_str (L : List (List UInt8)) (x : List UInt8) (r : Nat → List A) (hr : r 0 = [.str x]) (i : Nat) (hi : i < L.length + 1) : rowCat L.length (rowStr L) r i = rowStr (L ++ [x]) i := by
  unfold rowCat
  split
  · rename_i h
    have h : i < L.length := Nat.le_of_ble_eq_true h
    simp only [rowStr, List.getD_eq_getElem?_getD, List.getElem?_append_left h]
  · rename_i h
    have h : ¬ i < L.length := fun h' => by rw [show Nat.blt i L.length = true from Nat.ble_eq_true_of_le h'] at h; cases h
    have : i = L.length := by omega
    subst this
    simp [hr, rowStr, List.getD_eq_getElem?_getD]
theorem u8_eq (a c : UInt8) : (a.toNat : Int) = (c.toNat : Int) ↔ a = c := by
  constructor
  · intro h; exact UInt8.toNat_inj.1 (by omega)
  · intro h; rw [h]
set_option maxRecDepth 100000 in
set_option maxHeartbeats 1000000 in
theorem rcut_c (s : List UInt8) (c : UInt8) (hl : s.length ≤ 100000) : ACalls Tryd.prog G 33 [.str s, .int .u8 (c.toNat : Int)] (strsA (cutL c s)) := by
  have hcl := cutL_len c s
  refine ACalls.of_WA ttok Tryd.func33 rfl rfl _ rfl ?_
  conv => whnf
  repeat (first | refine WA_seq ?_ | (refine WA_region ttok ?_; conv => whnf) | (refine WA_draw ttok mixed ?_; conv => whnf) | (refine WA_cond ?_; conv => whnf) | refine WA_block ?_ | (refine WA_skip ?_; conv => whnf) | (refine WA_exit ?_; conv => whnf) | (refine WA_ret ?_; conv => whnf))
  refine WA_loopI (fun x : Nat × Nat × List (List UInt8) => x.2.1 ≤ x.1 ∧ ((x.1 ≤ s.length ∧ x.2.2 ++ hd1 (part s x.2.1 x.1) (cutL c (s.drop x.1)) = cutL c s) ∨ (x.1 = s.length + 1 ∧ x.2.2 = cutL c s))) (fun x => match x with | (i, b, out) => [(7, .int .i64 (i : Int)), (6, .int .i64 (b : Int)), (5, .own 0), (8, .junk)]) (fun x => match x with | (i, b, out) => [.row 9 1 out.length (rowStr out)]) (fun x => s.length + 1 - x.1) (0, 0, []) ⟨Nat.le_refl 0, .inl ⟨Nat.zero_le _, by simp [part, hd1_nil _ (cutL_ne c s)]⟩⟩ ?_ ?_
  · conv => whnf
    repeat (first | exact rfl | exact trivial | exact Or.inl (fun _ _ => rfl) | exact (fun _ => rfl) | exact (fun _ _ => rfl) | exact Or.inl (fun _ hi => absurd hi (Nat.not_lt_zero _)) | (refine And.intro rfl ?_; conv => whnf) | (refine And.intro (Or.inl (fun _ _ => rfl)) ?_; conv => whnf) | (refine And.intro (fun _ => rfl) ?_; conv => whnf) | (refine And.intro (fun _ _ => rfl) ?_; conv => whnf) | (refine And.intro ?_ ?_; rotate_left; conv => whnf))
  · rintro ⟨i, b, out⟩ ⟨hb, hI⟩
    simp only at hb hI
    conv => whnf
    repeat (first | refine WA_seq ?_ | (refine WA_region ttok ?_; conv => whnf) | (refine WA_draw ttok mixed ?_; conv => whnf) | (refine WA_cond ?_; conv => whnf) | refine WA_block ?_ | (refine WA_skip ?_; conv => whnf) | (refine WA_exit ?_; conv => whnf) | (refine WA_ret ?_; conv => whnf))
    refine ⟨fun h => ?_, fun h => ?_⟩
    · have h := of_decide_eq_true h
      have hI := hI.resolve_right (by omega)
      obtain ⟨hi, hI⟩ := hI
      have hol : out.length ≤ s.length + 1 := by
        have := congrArg List.length hI
        simp only [List.length_append] at this
        omega
      by_cases hend : i = s.length
      · subst hend
        rw [List.drop_length] at hI
        have e1 : cutL c [] = [[]] := rfl
        rw [e1] at hI
        conv => whnf
        repeat' (first | refine WA_seq ?_ | (refine WA_region ttok ?_; conv => whnf) | (refine WA_draw ttok mixed ?_; conv => whnf) | (refine WA_cond ?_; conv => whnf) | refine WA_block ?_ | (refine WA_skip ?_; conv => whnf) | (refine WA_exit ?_; conv => whnf) | (refine WA_ret ?_; conv => whnf) | (refine And.intro (fun h => ?_) (fun h => ?_) <;> (try simp only [brsA] at h) <;> conv => whnf) | (refine WR_fit ?_ ?_; (focus (first | exact wr_i64 (by omega) | exact wr_u64 (by omega) | exact wr_u8 (by omega) | exact wr_i32 (by omega) | exact wr_u32 (by omega))); conv => whnf) | (refine WR_wrap ?_; conv => whnf) | (refine And.intro (a := indepB _ _ = true) ?_ ?_; (focus kernel_rfl); conv => whnf) | (refine And.intro rfl ?_; conv => whnf) | (refine And.intro ?_ ?_; (focus (first | omega | decide | (dsimp only; omega) | (simp at *; omega))); conv => whnf))
        all_goals first | contradiction | (exfalso; omega) | skip
        refine ⟨(s.length + 1, s.length + 1, out ++ [part s b s.length]), ⟨Nat.le_refl _, .inr ⟨rfl, by rw [← hI]; simp [hd1]⟩⟩, (by show s.length + 1 - (s.length + 1) < s.length + 1 - s.length; omega), ?_⟩
        conv => whnf
        repeat (first | exact rfl | exact trivial | exact Or.inl (fun _ _ => rfl) | exact (fun _ => rfl) | exact (fun _ _ => rfl) | exact Or.inl (fun _ hi => absurd hi (Nat.not_lt_zero _)) | (refine And.intro rfl ?_; conv => whnf) | (refine And.intro (Or.inl (fun _ _ => rfl)) ?_; conv => whnf) | (refine And.intro (fun _ => rfl) ?_; conv => whnf) | (refine And.intro (fun _ _ => rfl) ?_; conv => whnf) | (refine And.intro ?_ ?_; rotate_left; conv => whnf))
        all_goals first | (refine Or.inl fun t ht => ?_; exact rowCat_str out _ _ rfl t ht) | (simp; done) | trace_state
      · have hlt : i < s.length := by omega
        have hdr : s.drop i = s.getD i 0 :: s.drop (i + 1) := by
          rw [List.drop_eq_getElem_cons hlt, List.getD_eq_getElem?_getD, List.getElem?_eq_getElem hlt]; rfl
        have hps := part_snoc s hb hlt
        have hu := u8_eq (s.getD i 0) c
        rw [hdr] at hI
        conv => whnf
        repeat' (first | refine WA_seq ?_ | (refine WA_region ttok ?_; conv => whnf) | (refine WA_draw ttok mixed ?_; conv => whnf) | (refine WA_cond ?_; conv => whnf) | refine WA_block ?_ | (refine WA_skip ?_; conv => whnf) | (refine WA_exit ?_; conv => whnf) | (refine WA_ret ?_; conv => whnf) | (refine And.intro (fun h => ?_) (fun h => ?_) <;> (try simp only [brsA] at h) <;> conv => whnf) | (refine WR_fit ?_ ?_; (focus (first | exact wr_i64 (by omega) | exact wr_u64 (by omega) | exact wr_u8 (by omega) | exact wr_i32 (by omega) | exact wr_u32 (by omega))); conv => whnf) | (refine WR_wrap ?_; conv => whnf) | (refine And.intro (a := indepB _ _ = true) ?_ ?_; (focus kernel_rfl); conv => whnf) | (refine And.intro rfl ?_; conv => whnf) | (refine And.intro ?_ ?_; (focus (first | omega | decide | (dsimp only; omega) | (simp at *; omega))); conv => whnf))
        all_goals first | contradiction | (exfalso; omega) | skip
        · have hc : s.getD i 0 = c := hu.1 h
          rw [hc, hd1_cut] at hI
          refine ⟨(i + 1, i + 1, out ++ [part s b i]), ⟨Nat.le_refl _, .inl ⟨by show i + 1 ≤ s.length; omega, ?_⟩⟩, (by show s.length + 1 - (i + 1) < s.length + 1 - i; omega), ?_⟩
          · have : part s (i + 1) (i + 1) = [] := by unfold part; rw [List.drop_eq_nil_of_le]; rw [List.length_take]; omega
            show (out ++ [part s b i]) ++ hd1 (part s (i + 1) (i + 1)) (cutL c (s.drop (i + 1))) = cutL c s
            rw [this, hd1_nil _ (cutL_ne c _), ← hI, List.append_assoc]; rfl
          · conv => whnf
            repeat (first | exact rfl | exact trivial | exact Or.inl (fun _ _ => rfl) | exact (fun _ => rfl) | exact (fun _ _ => rfl) | exact Or.inl (fun _ hi => absurd hi (Nat.not_lt_zero _)) | (refine And.intro rfl ?_; conv => whnf) | (refine And.intro (Or.inl (fun _ _ => rfl)) ?_; conv => whnf) | (refine And.intro (fun _ => rfl) ?_; conv => whnf) | (refine And.intro (fun _ _ => rfl) ?_; conv => whnf) | (refine And.intro ?_ ?_; rotate_left; conv => whnf))
            all_goals first | (refine Or.inl fun t ht => ?_; exact rowCat_str out _ _ rfl t ht) | (simp; done) | trace_state
        · have hc : s.getD i 0 ≠ c := fun q => h (hu.2 q)
          rw [hd1_step c _ _ _ hc, ← hps] at hI
          refine ⟨(i + 1, b, out), ⟨by show b ≤ i + 1; omega, .inl ⟨by show i + 1 ≤ s.length; omega, hI⟩⟩, (by show s.length + 1 - (i + 1) < s.length + 1 - i; omega), ?_⟩
          conv => whnf
          repeat (first | exact rfl | exact trivial | exact Or.inl (fun _ _ => rfl) | exact (fun _ => rfl) | exact (fun _ _ => rfl) | exact Or.inl (fun _ hi => absurd hi (Nat.not_lt_zero _)) | (refine And.intro rfl ?_; conv => whnf) | (refine And.intro (Or.inl (fun _ _ => rfl)) ?_; conv => whnf) | (refine And.intro (fun _ => rfl) ?_; conv => whnf) | (refine And.intro (fun _ _ => rfl) ?_; conv => whnf) | (refine And.intro ?_ ?_; rotate_left; conv => whnf))
    · have h := of_decide_eq_false h
      have hI := hI.resolve_left (by omega)
      rw [hI.2]
      conv => whnf
      repeat' (first | refine WA_seq ?_ | (refine WA_region ttok ?_; conv => whnf) | (refine WA_draw ttok mixed ?_; conv => whnf) | (refine WA_cond ?_; conv => whnf) | refine WA_block ?_ | (refine WA_skip ?_; conv => whnf) | (refine WA_exit ?_; conv => whnf) | (refine WA_ret ?_; conv => whnf) | (refine And.intro (fun h => ?_) (fun h => ?_) <;> (try simp only [brsA] at h) <;> conv => whnf) | (refine WR_fit ?_ ?_; (focus (first | exact wr_i64 (by omega) | exact wr_u64 (by omega) | exact wr_u8 (by omega) | exact wr_i32 (by omega) | exact wr_u32 (by omega))); conv => whnf) | (refine WR_wrap ?_; conv => whnf) | (refine And.intro (a := indepB _ _ = true) ?_ ?_; (focus kernel_rfl); conv => whnf) | (refine And.intro rfl ?_; conv => whnf) | (refine And.intro ?_ ?_; (focus (first | omega | decide | (dsimp only; omega) | (simp at *; omega))); conv => whnf))
      exact Or.inl fun _ _ => rfl
end Go.Proofs.YtfhdmhoeopbhnaaDoor
namespace Go.Proofs.YtfhdmhoeopbhnaaDoor
open Go.RowKit Go.Shelf
attribute [local go_sem] Oper.semAt_some
variable {F : Fence} {n : Nat} {P : Program}
/-! ### A loop over an iterator that keeps what is left in a box of its own -/
def SeqBox {α : Type} (F : Fence) (n : Nat) (P : Program) (g : Nat) (lb : Array Value) (encs : α → Array Value) (Kp : World → World → Prop) (Bn : Nat) (xs : List α) (w : World) : Prop :=
  ∀ (l : Nat) (J : List α → World → Prop) (W : World), Below w.heap.size w W → (∀ s A v, J s A → J s (A.setCell ⟨Bn, 0, none⟩ v)) → (∀ s A, J s A → J s A.drew) →
    (∀ pre x W1, J pre W1 → (∃ rest, xs = pre ++ x :: rest) → YieldAt F (n - 1) P l (encs x) W1 fun e W' => e = .returned (.bool true) ∧ J (pre ++ [x]) W' ∧ Kp W1 W') →
    J [] W → CallsIn F n P g (#[.func (.yield l) #[] #[]] ++ lb) W fun e W' => (∃ v, e = .returned v) ∧ J xs W'
theorem rangeFunc_box {α : Type} {g : Operand} {ps : Array Tmp} {assign body : Code} {Q : Exit → Act → World → Prop} {a : Act} {w : World}
    (hro : F.round = none) (h1 : 1 ≤ n) {gf : Nat} {lb : Array Value} (hg : a.eval g = .func (.func gf) #[] lb) (hFg : F.fn gf) (eg : ∀ args w, (callFunc gf args).run P w = .ok (.enter gf args) w)
    {encs : α → Array Value} {Kp : World → World → Prop} {Bn : Nat} {xs : List α} {w0 : World} (hseq : SeqBox F (n - 1) P gf lb encs Kp Bn xs w0)
    (hKt : ∀ {A B C : World}, Kp A B → Kp B C → Kp A C) (hKb : ∀ (W : World) (l : Nat) (o' : Obj), w.heap.size ≤ l → Kp W (W.putObj l o')) (hb0 : Below w0.heap.size w0 w) (hBn : Bn < w.heap.size) (hps : ∀ x, (encs x).size = ps.size)
    (I : List α → World → Prop) (hI : OwnFrom w.heap.size I) (hIB : ∀ s A v, I s A → I s (A.setCell ⟨Bn, 0, none⟩ v)) (h0 : I [] w) (a₁ : α → Act)
    (hassign : ∀ (l : Nat) (x : α) (W : World) (K : Act → World → Prop), K (a₁ x) W →
      assign.wpIn (F.inRound l) (n - 1 - 1) P (Exit.then K (fun _ _ _ => False)) { tmps := (ps.zip (encs x)).foldl (fun t (p, v) => t.setIfInBounds p v) a.tmps, defers := [] } W)
    (hbody : ∀ (l : Nat) (pre : List α) (x : α) (W : World), I pre W → (∃ rest, xs = pre ++ x :: rest) → body.wpIn (F.inRound l) (n - 1 - 1) P (ownPostG w.heap.size Kp I (fun _ _ _ => False) (pre ++ [x]) W) (a₁ x) W)
    (hdone : ∀ (D : Nat) (W : World), w.heap.size ≤ D → I xs W → W.heap[D]? = some (.deferred (some [])) → Q .normal { a with defers := { target := .collected D, args := #[] } :: a.defers } W) :
    (Code.rangeFunc g ps assign body).wpIn F n P Q a w := by
  refine wpIn_rangeFunc ?_
  intro fn hfn
  rw [hro]
  obtain ⟨rec, hrec⟩ : ∃ rec : LoopState → Loop, rec = fun st => { state := st, pending := none, fn, tmps := a.tmps, params := ps, assign, body, defers := w.heap.size } := ⟨_, rfl⟩
  obtain ⟨W1, hW1⟩ : ∃ W1, (w.alloc (.deferred (some []))).alloc (.loop (rec .ready)) = W1 := ⟨_, rfl⟩
  have hL1 : W1.heap[w.heap.size + 1]? = some (.loop (rec .ready)) := by
    rw [← hW1]; have := World.alloc_heap_new (w.alloc (.deferred (some []))) (.loop (rec .ready)); rwa [World.size_alloc] at this
  have hK1 : W1.heap[w.heap.size]? = some (.deferred (some [])) := by
    rw [← hW1]; exact (Below.heap_alloc _ _ _ (by simp)).trans (World.alloc_heap_new w _)
  have hI1 : I [] W1 := by rw [← hW1]; exact hI.alloc _ (hI.alloc _ h0)
  have hb1 : Below w0.heap.size w0 W1 := by
    rw [← hW1]; exact hb0.trans ((((Below.refl _ w).alloc (Nat.le_refl _) _).alloc (by simp) _).mono hb0.size)
  refine ⟨w.heap.size + 1, [{ target := .collected w.heap.size, args := #[] }], W1, { target := .fn (.func gf) lb, args := #[.func (.yield (w.heap.size + 1)) #[] #[]] }, W1, gf,
    #[.func (.yield (w.heap.size + 1)) #[] #[]] ++ lb, W1, ?_, ?_, ?_, ?_, fun _ => h1, ?_⟩
  · rw [← hW1, hrec]; exact run_enterLoop_outer _ _ _ _ _
  · simp only [resolve, hg]
    simp [go_sem]
  · intro f' hf'; simp [Target.leads] at hf'; subst hf'; exact hFg
  · simp [invoke, go_sem, eg]
  · refine (hseq (w.heap.size + 1) (fun pre W => I pre W ∧ W.heap[w.heap.size + 1]? = some (.loop (rec .ready)) ∧ W.heap[w.heap.size]? = some (.deferred (some []))) W1 hb1 ?_ ?_ ?_ ⟨hI1, hL1, hK1⟩).mono ?_
    · rintro s A v ⟨hi, hl, hk⟩
      exact ⟨hIB s A v hi, (Below.heap_setCell _ _ _ _ (by show w.heap.size + 1 ≠ Bn; omega)).trans hl, (Below.heap_setCell _ _ _ _ (by show w.heap.size ≠ Bn; omega)).trans hk⟩
    · rintro s A ⟨hi, hl, hk⟩
      exact ⟨hI s A A.drew none hi ⟨rfl, rfl, rfl, Nat.le_refl _, fun k _ _ => rfl⟩ (fun r e => by cases e), hl, hk⟩
    · rintro pre x W ⟨hi, hl, hk⟩ hlen
      have hlt : w.heap.size + 1 < W.heap.size := (Array.getElem?_eq_some_iff.1 hl).1
      have hy := run_yield (P := P) (args := encs x) hl (by rw [hrec]; exact hps x)
      rw [hrec] at hy
      refine ⟨fn, _, assign, body, hy, roundIn_of_wpIn hfn (hassign _ x W _ ⟨_, run_beginRound hl (by rw [hrec]), ?_⟩)⟩
      have hl2 : (W.putObj (w.heap.size + 1) (.loop { rec .ready with state := .busy })).heap[w.heap.size + 1]? = some (.loop { rec .ready with state := .busy }) := World.putObj_heap_same hlt
      have hk2 : (W.putObj (w.heap.size + 1) (.loop { rec .ready with state := .busy })).heap[w.heap.size]? = some (.deferred (some [])) := (World.putObj_heap_other (by omega)).trans hk
      have hw2 : Kp W (W.putObj (w.heap.size + 1) (.loop { rec .ready with state := .busy })) := hKb _ _ _ (by omega)
      refine wpIn_mono (hbody _ pre x _ (hI.putObj _ hi (by omega) hl rfl) hlen) ?_
      rintro e a3 W3 hp
      cases e with
      | normal =>
        obtain ⟨hk3, hkp3, hi3⟩ := hp
        have hl3 := hk3.same _ _ (by omega) hl2 rfl
        have hr := run_endRound (P := P) none hl3
        rw [hrec] at hr hl3
        exact ⟨_, _, hr, rfl, ⟨hI.putObj _ hi3 (by omega) hl3 rfl, by rw [hrec]; exact World.putObj_heap_same (Array.getElem?_eq_some_iff.1 hl3).1, (World.putObj_heap_other (by omega)).trans (hk3.same _ _ (Nat.le_refl _) hk2 rfl)⟩, hKt (hKt hw2 hkp3) (hKb _ _ _ (by omega))⟩
      | ret => exact hp.2.elim
      | exit id => exact hp.2.elim
      | goto t => exact hp.2.elim
      | panic ch => exact hp.elim
      | outgrown => exact hp.elim
    · rintro e W2 ⟨⟨v, rfl⟩, hi, hl, hk⟩
      exact ⟨none, _, by have := run_endLoop (P := P) hl (by rw [hrec]; simp); rw [hrec] at this; exact this, hdone _ _ (Nat.le_refl _) (hI.putObj _ hi (by omega) hl rfl) ((World.putObj_heap_other (by omega)).trans hk)⟩
end Go.Proofs.YtfhdmhoeopbhnaaDoor
namespace Go.Proofs.YtfhdmhoeopbhnaaDoor
open Go.RowKit Go.Shelf Go.Lib
attribute [local go_sem] Oper.semAt_some
/-- A text's lines, each with the byte that ends it. -/
def lnT : List UInt8 → List (List UInt8)
  | [] => []
  | b :: l => if b = 10 then [10] :: lnT l else match lnT l with
    | [] => [[b]]
    | h :: t => (b :: h) :: t
theorem indexByte_cons (b c : UInt8) (l : List UInt8) : indexByte (b :: l) c = if b = c then 0 else if indexByte l c = -1 then -1 else indexByte l c + 1 := by
  conv => lhs; unfold indexByte
  by_cases h : b = c
  · simp [h]
  · simp [h]
theorem lnT_index : ∀ s : List UInt8, s ≠ [] → (indexByte s 10 = -1 → lnT s = [s]) ∧ (∀ i : Nat, indexByte s 10 = i → lnT s = s.take (i + 1) :: lnT (s.drop (i + 1)))
  | [], h => absurd rfl h
  | b :: l, _ => by
    rw [indexByte_cons]
    by_cases hb : b = 10
    · subst hb
      rw [if_pos rfl]
      refine ⟨fun h => by omega, fun i hi => ?_⟩
      have : i = 0 := by omega
      subst this
      simp [lnT]
    · rw [if_neg hb]
      by_cases hl : l = []
      · subst hl
        have e : indexByte [] 10 = -1 := rfl
        rw [if_pos e]
        exact ⟨fun _ => by simp [lnT, hb], fun i hi => by omega⟩
      · obtain ⟨h1, h2⟩ := lnT_index l hl
        by_cases hm : indexByte l 10 = -1
        · rw [if_pos hm]
          refine ⟨fun _ => ?_, fun i hi => by omega⟩
          rw [lnT, if_neg hb, h1 hm]
        · rw [if_neg hm]
          have := indexByte_ge l 10
          refine ⟨fun h => by omega, fun i hi => ?_⟩
          obtain ⟨k, hk⟩ : ∃ k : Nat, i = k + 1 := ⟨i - 1, by omega⟩
          subst hk
          rw [lnT, if_neg hb, h2 k (by omega)]
          simp
noncomputable def leftB (Bn : Nat) (W : World) : Nat := match W.cell? ⟨Bn, 0, none⟩ with
  | some (.string t) => t.size
  | _ => 0
theorem leftB_eq {Bn : Nat} {W : World} {t : ByteArray} (h : Boxed W Bn 9 (.string t)) : leftB Bn W = t.size := by unfold leftB; rw [h.cell]
set_option maxRecDepth 100000 in
set_option maxHeartbeats 2000000 in
theorem lines_stops (n : Nat) (hn : 1 ≤ n) (Bn : Nat) (s : ByteArray) (w : World) (hBn : Bn < w.heap.size) (hb : Boxed w Bn 9 (.string s)) (hs : s.size ≤ 100000) :
    SeqBox Fence.wide n Tryd.prog 39 #[.pointer (some ⟨Bn, 0, none⟩)] (fun x : List UInt8 => #[Value.string ⟨x.toArray⟩]) (fun A B => B.heap[Bn]? = A.heap[Bn]?) Bn (lnT s.data.toList) w := by
  intro l J W hW hJ hJd hY h0
  have hbW : Boxed W Bn 9 (.string s) := (hW.block Bn hBn).trans hb
  refine callsIn_of_wp Tryd.func39 rfl trivial ?_ rfl
  simp only [Tryd.ntmps39, List.size_toArray, List.length_cons, List.length_nil, Nat.reduceAdd, Nat.reduceSub, Array.replicate_succ, Array.replicate_zero, List.push_toArray, List.append_toArray, List.nil_append, List.cons_append]
  gi_wp2
  gi_loopw [] (fun wr => ∃ (pre : List (List UInt8)) (t : ByteArray), lnT s.data.toList = pre ++ lnT t.data.toList ∧ t.size ≤ 100000 ∧ Boxed wr Bn 9 (.string t) ∧ J pre wr) (fun wr => leftB Bn wr)
  case atStart => exact ⟨[], s, by simp, hs, hbW, h0⟩
  case round =>
    obtain ⟨pre, t, hx, ht, hbx, hJs⟩ := hrel
    have hcell := hbx.cell
    have hfr := hbx.frozen
    by_cases h0 : t.size = 0
    · have hnil : t.data.toList = [] := List.length_eq_zero_iff.1 (by rw [Array.length_toList]; exact h0)
      rw [hnil] at hx
      have hx : lnT s.data.toList = pre := by simpa [lnT] using hx
      gi_wp2
      go_end0
      exact ⟨⟨_, rfl⟩, by rw [hx]; exact hJs⟩
    · have hne : t.data.toList ≠ [] := fun e => h0 (by rw [← Array.length_toList] at *; show t.data.size = 0; rw [← Array.length_toList, e]; rfl)
      obtain ⟨L1, L2⟩ := lnT_index t.data.toList hne
      have hge := indexByte_ge t.data.toList 10
      by_cases hm : indexByte t.data.toList 10 = -1
      · have hln := L1 hm
        have hlen : ∃ rest, lnT s.data.toList = pre ++ t.data.toList :: rest := ⟨[], by rw [hx, hln]⟩
        have hbx2 : Boxed (wr.setCell ⟨Bn, 0, none⟩ (.string ⟨#[]⟩)) Bn 9 (.string ⟨#[]⟩) := hbx.set _
        obtain ⟨fn, tmps, assign, body, hy, hR⟩ := hY pre t.data.toList (wr.setCell ⟨Bn, 0, none⟩ (.string ⟨#[]⟩)) (hJ _ _ _ hJs) hlen
        have et : (⟨t.data.toList.toArray⟩ : ByteArray) = t := by simp
        rw [et] at hy
        gi_wp2_with (refine ⟨trivial, ?_⟩; gi_at_call 40; refine (callsIn_wide.2 (Tryd.strings_IndexByte _ _ _)).mono ?_; rintro e w' ⟨rfl, rfl⟩)
        refine hR.mono ?_
        rintro e W3 ⟨rfl, hJ3, hk3⟩
        have hbx3 : Boxed W3 Bn 9 (.string ⟨#[]⟩) := hk3.trans hbx2
        gi_wp2
        go_roundw
        case rel => exact ⟨pre ++ [t.data.toList], ⟨#[]⟩, by rw [hx, hln]; simp [lnT], by show (0 : Nat) ≤ 100000; omega, hbx3, hJ3⟩
        case measure =>
          rw [leftB_eq hbx3, leftB_eq hbx]
          show 0 < t.size
          omega
      · obtain ⟨k, hk⟩ : ∃ k : Nat, indexByte t.data.toList 10 = k := ⟨(indexByte t.data.toList 10).toNat, by omega⟩
        have hln := L2 k hk
        have hkt : k < t.size := by
          have := (indexByte_some hk).1
          have := (List.getElem?_eq_some_iff.1 this).1
          rw [Array.length_toList] at this; exact this
        have hlen : ∃ rest, lnT s.data.toList = pre ++ t.data.toList.take (k + 1) :: rest := ⟨_, by rw [hx, hln]⟩
        have hbx2 : Boxed (wr.setCell ⟨Bn, 0, none⟩ (.string (t.extract (k + 1) t.size))).drew Bn 9 (.string (t.extract (k + 1) t.size)) := hbx.set _
        have e1 : (⟨(t.data.toList.take (k + 1)).toArray⟩ : ByteArray) = t.extract 0 (k + 1) := by
          have := Lib.extract_from_zero t (k + 1)
          rw [← this]
        have e2 : (t.extract (k + 1) t.size).data.toList = t.data.toList.drop (k + 1) := by
          rw [ByteArray.data_extract, Array.toList_extract]
          simp only [List.extract_eq_take_drop]
          rw [List.take_of_length_le]
          rw [List.length_drop, Array.length_toList]; exact Nat.le_refl _
        obtain ⟨fn, tmps, assign, body, hy, hR⟩ := hY pre (t.data.toList.take (k + 1)) (wr.setCell ⟨Bn, 0, none⟩ (.string (t.extract (k + 1) t.size))).drew (hJd _ _ (hJ _ _ _ hJs)) hlen
        rw [e1] at hy
        gi_wp2_with (refine ⟨trivial, ?_⟩; gi_at_call 40; refine (callsIn_wide.2 (Tryd.strings_IndexByte _ _ _)).mono ?_; rintro e w' ⟨rfl, rfl⟩)
        gi_region
        gi_wp2
        refine hR.mono ?_
        rintro e W3 ⟨rfl, hJ3, hk3⟩
        have hbx3 : Boxed W3 Bn 9 (.string (t.extract (k + 1) t.size)) := hk3.trans hbx2
        have hsz : (t.extract (k + 1) t.size).size = t.size - (k + 1) := by
          show (t.extract (k + 1) t.size).data.size = _
          rw [← Array.length_toList, e2, List.length_drop, Array.length_toList]; rfl
        gi_wp2
        go_roundw
        case rel => exact ⟨pre ++ [t.data.toList.take (k + 1)], _, by rw [hx, hln, e2]; simp, by rw [hsz]; omega, hbx3, hJ3⟩
        case measure =>
          rw [leftB_eq hbx3, leftB_eq hbx, hsz]
          omega
end Go.Proofs.YtfhdmhoeopbhnaaDoor
namespace Go.Proofs.YtfhdmhoeopbhnaaDoor
open Go.RowKit Go.Shelf Go.Lib
attribute [local go_sem] Oper.semAt_some
set_option maxHeartbeats 1000000 in
theorem linesF_raw (n : Nat) (s : ByteArray) (w : World) :
    CallsIn Fence.wide n Tryd.prog 31 #[.string s] w fun e w' => e = .returned (.func (.func 39) #[] #[.pointer (some ⟨w.heap.size, 0, none⟩)]) ∧ w' = w.alloc (.cells #[.string s] 9) := by
  refine callsIn_of_wp Tryd.func31 rfl trivial ?_ rfl
  simp only [Tryd.ntmps31, List.size_toArray, List.length_cons, List.length_nil, Nat.reduceAdd, Nat.reduceSub, Array.replicate_succ, Array.replicate_zero, List.push_toArray, List.append_toArray, List.nil_append, List.cons_append]
  gi_wp2
  go_ret
  exact ⟨rfl, rfl⟩
theorem info9 : (Tryd.prog.info? 9).map (fun i => (i.zero, i.size, i.bytes)) = some (some (.string ⟨#[]⟩), 1, 16) := by kernel_rfl
def trN (x : List UInt8) : Value := .string ⟨(trimSuffix x [10]).toArray⟩
theorem lnT_len : ∀ s : List UInt8, (lnT s).length ≤ s.length
  | [] => by simp [lnT]
  | b :: l => by
    have := lnT_len l
    unfold lnT
    split
    · simp; omega
    · split
      · simp
      · rename_i h t e; rw [e] at this; simp at *; omega
theorem lnT_mem_len : ∀ (s : List UInt8), ∀ x ∈ lnT s, x.length ≤ s.length
  | [], x, h => by simp [lnT] at h
  | b :: l, x, h => by
    have ih := lnT_mem_len l
    unfold lnT at h
    split at h
    · rcases List.mem_cons.1 h with rfl | h
      · simp
      · have := ih x h; simp; omega
    · split at h
      · rw [List.mem_singleton] at h; subst h; simp
      · rename_i y t e
        rw [e] at ih
        rcases List.mem_cons.1 h with rfl | h
        · have := ih y (List.mem_cons_self ..); simp; omega
        · have := ih x (List.mem_cons_of_mem _ h); simp; omega
theorem stepIn_append_own {F : Fence} {n : Nat} {P : Program} {ops : Array Oper} {w : World} {o : Oper} {a : Act} {K : Act → World → Prop} {Q : Exit → Act → World → Prop} {E : Prop}
    (hg : o.guard = none) (s x : Operand) (t : TypeId) (hop : o.op = Op.call { callee := Callee.builtin Builtin.append, args := #[s, x], argTypes := #[t, t] })
    (base : Nat) (e : TypeId) (i : TypeInfo) (z : Value) (size bytes : Nat) (h1 : P.underlying t = some (.slice e)) (h2 : P.info? e = some i) (h3 : i.zero = some z) (h4 : i.size = size) (h5 : i.bytes = bytes) (h6 : z.cells.size = size) (h7 : 0 < size)
    (v : Value) (k : Nat) (xs : List Value) (hs : a.eval s = v) (hown : w.ownsRow base e size v k xs) (ad : Addr) (m c : Nat) (news : List Value) (hx : a.eval x = .slice (some ad) m c) (hn : news.length = m * size)
    (hc : ∀ j u, news[j]? = some u → w.cell? (ad.add j) = some u) (h1c : ∀ u ∈ news, u.oneCell' = true) (b1 : k + m ≤ maxLen) (b2 : (k + m) * bytes ≤ 140737488355328) (b3 : base ≤ w.heap.size)
    (hK : ∀ v' w', w'.ownsRow base e size v' (k + m) (xs ++ news) → w.grownBy w' v.ownBlock → K (a.put o.dst v') w') :
    if Region.wanted o (yielded ops a.tmps) = true then Oper.wpIn F n P o a w K Q else E := by
  have hw : Region.wanted o (yielded ops a.tmps) = true := by simp [Region.wanted, hg]
  rw [if_pos hw]
  obtain ⟨v', w', hrun, r1, r2, _⟩ := run_append_own (P := P) w base t o.type e i z size bytes h1 h2 h3 h4 h5 h6 h7 v k xs hown ad m c news hn hc h1c b1 b2 b3
  unfold Oper.wpIn
  refine ⟨?_, ?_⟩
  · simp [Oper.about, hop, resolve, Target.leads, Sem.run_pure]
  · rw [Oper.semAt_plain F _ _ (by rw [hop]; intro c hc'; cases hc')]
    simp [execOp, hop, resolve, invoke, builtin, hs, hx, hrun, Result.andThen]
    exact hK _ _ r1 r2
theorem ownsRow_base {W : World} {b b' : Nat} {e : TypeId} {size : Nat} {v : Value} {k : Nat} {xs : List Value} (h : W.ownsRow b e size v k xs) (hb : b' ≤ b) : W.ownsRow b' e size v k xs := by
  refine ⟨h.1, ?_⟩
  rcases h.2 with h | ⟨g, cap, cur, h1, h2, h3⟩
  · exact .inl h
  · exact .inr ⟨g, cap, cur, h1, Nat.le_trans hb h2, h3⟩
theorem ownsRow_far {W : World} {b B : Nat} {e : TypeId} {size : Nat} {v : Value} {k : Nat} {xs : List Value} (h : W.ownsRow b e size v k xs) (hb : B < b) : some B ≠ v.ownBlock := by
  rcases h.2 with ⟨rfl, _⟩ | ⟨g, cap, cur, rfl, h2, _⟩
  · simp [Value.ownBlock]
  · intro e'
    obtain rfl : B = g := by simpa [Value.ownBlock] using e'
    omega
set_option maxRecDepth 100000 in
set_option maxHeartbeats 2000000 in
theorem lines_raw (s : ByteArray) (hs : s.size ≤ 100000) (w : World) :
    Calls Tryd.prog 14 #[.string s] w fun e W' => ∃ v, e = .returned v ∧ W'.ownsRow w.heap.size 9 1 v (lnT s.data.toList).length ((lnT s.data.toList).map trN) ∧ Below w.heap.size w W' := by
  refine (callsIn_wide (n := 3)).1 ?_
  obtain ⟨i0, hi, hz0, hz1, hz2⟩ := info_parts info9
  refine callsIn_of_wp_marks Tryd.func14 rfl trivial ?_ rfl
  simp only [Tryd.ntmps14, List.size_toArray, List.length_cons, List.length_nil, Nat.reduceAdd, Nat.reduceSub, Array.replicate_succ, Array.replicate_zero, List.push_toArray, List.append_toArray, List.nil_append, List.cons_append]
  gi_wp2_with (refine ⟨trivial, ?_⟩; gi_at_call 31; refine (linesF_raw _ _ _).mono ?_; rintro e w' ⟨rfl, rfl⟩)
  have bO := Boxed.new w 30 (.slice none 0 0)
  have bN := Boxed.new (w.alloc (.cells #[.slice none 0 0] 30)) 9 (.string s)
  rw [World.size_alloc] at bN
  have hB0 : Below w.heap.size w ((w.alloc (.cells #[.slice none 0 0] 30)).alloc (.cells #[.string s] 9)) := ((Below.refl _ w).alloc (Nat.le_refl _) _).alloc (by simp) _
  refine rangeFunc_box (α := List UInt8) (encs := fun x => #[Value.string ⟨x.toArray⟩]) (Kp := fun A B => B.heap[w.heap.size + 1]? = A.heap[w.heap.size + 1]?) (Bn := w.heap.size + 1) (xs := lnT s.data.toList) rfl (by decide) (gf := 39) (lb := #[.pointer (some ⟨w.heap.size + 1, 0, none⟩)]) rfl trivial (enters_of Tryd.func39 (by kernel_rfl) rfl)
    (lines_stops _ (by decide) (w.heap.size + 1) s _ (by simp) bN hs) (fun h k => k.trans h) (fun W l o' hl => World.putObj_heap_other (by simp at hl; omega)) (Below.refl _ _) (by simp) (fun _ => rfl)
    (fun pre W => (∃ v, Boxed W w.heap.size 30 v ∧ W.ownsRow (w.heap.size + 2) 9 1 v pre.length (pre.map trN) ∧ True) ∧ Below w.heap.size w W ∧ w.heap.size + 2 ≤ W.heap.size)
    (OwnFrom.and (Own.from (holdsRow_own (w.heap.size + 2) w.heap.size 30 9 1 (fun pre : List (List UInt8) => pre.length) (fun pre => pre.map trN) (fun _ _ => True)) _) (OwnFrom.and (ownFrom_below (Nat.le_refl _) (by simp; omega)) (fun _ A B _ h hg _ => Nat.le_trans h hg.size)))
    ?iB ⟨⟨_, bO.alloc _, World.ownsRow_nil _ _ _ _, trivial⟩, hB0, by simp⟩
    (fun x => { tmps := #[.string s, undef, .slice none 0 0, .pointer (some ⟨w.heap.size, 0, none⟩), .string ⟨x.toArray⟩, .string s, .func (.func 39) #[] #[.pointer (some ⟨w.heap.size + 1, 0, none⟩)], .string ⟨x.toArray⟩, undef, undef, undef, undef, undef, undef], defers := [] }) ?assign ?body ?done
  case iB =>
    rintro pre A v ⟨⟨u, hv, hrow, _⟩, hB, hsz⟩
    refine ⟨⟨u, hv.kept (grownBy_setCell' A (w.heap.size + 1) v) (by simp), hrow.kept (grownBy_setCell' A (w.heap.size + 1) v) ?_, trivial⟩, hB.setCell (p := ⟨w.heap.size + 1, 0, none⟩) (by show w.heap.size ≤ w.heap.size + 1; omega) v, Nat.le_trans hsz (grownBy_setCell' A (w.heap.size + 1) v).size⟩
    exact .inr (ownsRow_far hrow (by omega)).symm
  case assign =>
    intro l x W K hK
    gi_wp2
    exact hK
  case body =>
    rintro l pre x W ⟨⟨v, hv, hrow, _⟩, hB, hsz⟩ ⟨rest, hxs⟩
    have hc := hv.cell
    have hsl : s.data.toList.length = s.size := by rw [Array.length_toList]; rfl
    have hpl : pre.length < 100000 := by
      have h1 := lnT_len s.data.toList
      rw [hxs] at h1
      simp at h1
      omega
    have hxl : x.length ≤ 100000 := by
      have := lnT_mem_len s.data.toList x (by rw [hxs]; simp)
      omega
    have hxb : (⟨x.toArray⟩ : ByteArray).size ≤ 9223372036854775807 := by show x.toArray.size ≤ 9223372036854775807; rw [List.size_toArray]; omega
    have hc2 : (W.alloc (.cells #[.string ⟨(trimSuffix x [10]).toArray⟩] 9)).cell? ⟨w.heap.size, 0, none⟩ = some v := (hv.alloc _).cell
    have hc3 : (W.alloc (.cells #[.string ⟨(trimSuffix x [10]).toArray⟩] 9)).drew.cell? ⟨w.heap.size, 0, none⟩ = some v := (hv.alloc _).cell
    gi_wp2
    refine wpIn_region_any (by kernel_rfl) ?_
    change wpAnyIn _ _ _ _ _ _ _ _ _ (World.drew _)
    refine wpAnyIn_ready (rs := [0, 1]) (by kernel_rfl) (by simp) ?_
    refine AllReadyIn.cons rfl (fun K hK => ?_) (AllReadyIn.cons rfl (fun K hK => ?_) (AllReadyIn.nil))
    · go_simp
      refine hK _ _ ?_
      clear hK K
      refine wpAnyIn_ready (rs := [1]) (by kernel_rfl) (by simp) ?_
      refine AllReadyIn.cons rfl (fun K hK => ?_) (AllReadyIn.nil)
      · go_simp
        refine hK _ _ ?_
        clear hK K
        refine wpAnyIn_ready (rs := [2]) (by kernel_rfl) (by simp) ?_
        refine AllReadyIn.cons rfl (fun K hK => ?_) (AllReadyIn.nil)
        · go_simp
          gi_wp2_with (refine ⟨trivial, ?_⟩; gi_at_call 32; refine (CallsIn.inRound l (callsIn_wide.2 (Tryd.strings_TrimSuffix ⟨x.toArray⟩ ⟨#[10]⟩ _ hxb))).mono ?_; rintro e w' ⟨rfl, rfl⟩)
          try (refine hK _ _ ?_; clear hK K)
          refine wpAnyIn_ready (rs := [3]) (by kernel_rfl) (by simp) ?_
          refine AllReadyIn.cons rfl (fun K hK => ?_) (AllReadyIn.nil)
          · go_simp
            refine hK _ _ ?_
            clear hK K
            refine wpAnyIn_ready (rs := [4]) (by kernel_rfl) (by simp) ?_
            refine AllReadyIn.cons rfl (fun K hK => ?_) (AllReadyIn.nil)
            · refine stepIn_append_own rfl _ _ 30 rfl (w.heap.size + 2) 9 i0 (.string ⟨#[]⟩) 1 16 Tryd.underlying30 hi hz0 hz1 hz2 rfl (by decide) v pre.length (pre.map trN) rfl ?_ ⟨W.heap.size, 0, none⟩ 1 1 [trN x] rfl rfl ?_ (by simp [trN, Value.oneCell']) (by unfold maxLen; omega) (by omega) ?_ ?_
              · exact hrow.alloc _
              · exact cell_one_new _ _ _
              · have := hv.lt; show w.heap.size + 2 ≤ (W.heap.push _).size; rw [Array.size_push]; omega
              intro v' w1 hown' hgrow
              obtain ⟨g', cap', rfl⟩ := ownsRow_succ hown'
              have hv1 : Boxed w1 w.heap.size 30 v := Boxed.kept (W := (W.alloc (.cells #[trN x] 9)).drew) (hv.alloc _) hgrow (hv.not_row (by decide) hrow)
              have hc1 := hv1.cell
              have hf1 := hv1.frozen
              refine hK _ _ ?_
              clear hK K
              refine wpAnyIn_ready (rs := [5]) (by kernel_rfl) (by simp) ?_
              refine AllReadyIn.cons rfl (fun K hK => ?_) (AllReadyIn.nil)
              · go_simp
                refine hK _ _ ?_
                clear hK K
                refine wpAnyIn_done (by kernel_rfl) ?_ _
                have hg2 : (W.alloc (.cells #[trN x] 9)).grownBy w1 v.ownBlock := by obtain ⟨a1, a2, a3, a4, a5⟩ := hgrow; exact ⟨a1, a2, a3, a4, a5⟩
                have hown2 := hown'.kept (grownBy_setCell' w1 w.heap.size (.slice (some ⟨g', 0, none⟩) (pre.length + 1) cap')) (.inr (hv1.not_row (by decide) hown').symm)
                obtain ⟨_, h2, _, h4, h5⟩ := hv.appended (n₀ := w.heap.size) (by decide) (ownsRow_base hrow (by omega)) hB.size (Nat.le_refl _) (ownsRow_base hown' (by omega)) hg2
                have hkp : (w1.setCell ⟨w.heap.size, 0, none⟩ (.slice (some ⟨g', 0, none⟩) (pre.length + 1) cap')).heap[w.heap.size + 1]? = W.heap[w.heap.size + 1]? := (Below.heap_setCell _ _ _ _ (by show w.heap.size + 1 ≠ w.heap.size; omega)).trans ((hg2.block _ (by rw [World.size_alloc]; omega) (ownsRow_far hrow (by omega))).trans (Below.heap_alloc _ _ _ (by omega)))
                refine ⟨h4.from _, hkp, ⟨_, h2, by simpa using hown2, trivial⟩, hB.trans h5, ?_⟩
                exact Nat.le_trans hsz h4.size
    · go_simp
      refine hK _ _ ?_
      clear hK K
      refine wpAnyIn_ready (rs := [0, 2]) (by kernel_rfl) (by simp) ?_
      refine AllReadyIn.cons rfl (fun K hK => ?_) (AllReadyIn.cons rfl (fun K hK => ?_) (AllReadyIn.nil))
      · go_simp
        refine hK _ _ ?_
        clear hK K
        refine wpAnyIn_ready (rs := [2]) (by kernel_rfl) (by simp) ?_
        refine AllReadyIn.cons rfl (fun K hK => ?_) (AllReadyIn.nil)
        · go_simp
          gi_wp2_with (refine ⟨trivial, ?_⟩; gi_at_call 32; refine (CallsIn.inRound l (callsIn_wide.2 (Tryd.strings_TrimSuffix ⟨x.toArray⟩ ⟨#[10]⟩ _ hxb))).mono ?_; rintro e w' ⟨rfl, rfl⟩)
          try (refine hK _ _ ?_; clear hK K)
          refine wpAnyIn_ready (rs := [3]) (by kernel_rfl) (by simp) ?_
          refine AllReadyIn.cons rfl (fun K hK => ?_) (AllReadyIn.nil)
          · go_simp
            refine hK _ _ ?_
            clear hK K
            refine wpAnyIn_ready (rs := [4]) (by kernel_rfl) (by simp) ?_
            refine AllReadyIn.cons rfl (fun K hK => ?_) (AllReadyIn.nil)
            · refine stepIn_append_own rfl _ _ 30 rfl (w.heap.size + 2) 9 i0 (.string ⟨#[]⟩) 1 16 Tryd.underlying30 hi hz0 hz1 hz2 rfl (by decide) v pre.length (pre.map trN) rfl ?_ ⟨W.heap.size, 0, none⟩ 1 1 [trN x] rfl rfl ?_ (by simp [trN, Value.oneCell']) (by unfold maxLen; omega) (by omega) ?_ ?_
              · exact hrow.alloc _
              · exact cell_one_new _ _ _
              · have := hv.lt; show w.heap.size + 2 ≤ (W.heap.push _).size; rw [Array.size_push]; omega
              intro v' w1 hown' hgrow
              obtain ⟨g', cap', rfl⟩ := ownsRow_succ hown'
              have hv1 : Boxed w1 w.heap.size 30 v := Boxed.kept (W := (W.alloc (.cells #[trN x] 9)).drew) (hv.alloc _) hgrow (hv.not_row (by decide) hrow)
              have hc1 := hv1.cell
              have hf1 := hv1.frozen
              refine hK _ _ ?_
              clear hK K
              refine wpAnyIn_ready (rs := [5]) (by kernel_rfl) (by simp) ?_
              refine AllReadyIn.cons rfl (fun K hK => ?_) (AllReadyIn.nil)
              · go_simp
                refine hK _ _ ?_
                clear hK K
                refine wpAnyIn_done (by kernel_rfl) ?_ _
                have hg2 : (W.alloc (.cells #[trN x] 9)).grownBy w1 v.ownBlock := by obtain ⟨a1, a2, a3, a4, a5⟩ := hgrow; exact ⟨a1, a2, a3, a4, a5⟩
                have hown2 := hown'.kept (grownBy_setCell' w1 w.heap.size (.slice (some ⟨g', 0, none⟩) (pre.length + 1) cap')) (.inr (hv1.not_row (by decide) hown').symm)
                obtain ⟨_, h2, _, h4, h5⟩ := hv.appended (n₀ := w.heap.size) (by decide) (ownsRow_base hrow (by omega)) hB.size (Nat.le_refl _) (ownsRow_base hown' (by omega)) hg2
                have hkp : (w1.setCell ⟨w.heap.size, 0, none⟩ (.slice (some ⟨g', 0, none⟩) (pre.length + 1) cap')).heap[w.heap.size + 1]? = W.heap[w.heap.size + 1]? := (Below.heap_setCell _ _ _ _ (by show w.heap.size + 1 ≠ w.heap.size; omega)).trans ((hg2.block _ (by rw [World.size_alloc]; omega) (ownsRow_far hrow (by omega))).trans (Below.heap_alloc _ _ _ (by omega)))
                refine ⟨h4.from _, hkp, ⟨_, h2, by simpa using hown2, trivial⟩, hB.trans h5, ?_⟩
                exact Nat.le_trans hsz h4.size
      · go_simp
        gi_wp2_with (refine ⟨trivial, ?_⟩; gi_at_call 32; refine (CallsIn.inRound l (callsIn_wide.2 (Tryd.strings_TrimSuffix ⟨x.toArray⟩ ⟨#[10]⟩ _ hxb))).mono ?_; rintro e w' ⟨rfl, rfl⟩)
        try (refine hK _ _ ?_; clear hK K)
        refine wpAnyIn_ready (rs := [0, 3]) (by kernel_rfl) (by simp) ?_
        refine AllReadyIn.cons rfl (fun K hK => ?_) (AllReadyIn.cons rfl (fun K hK => ?_) (AllReadyIn.nil))
        · go_simp
          refine hK _ _ ?_
          clear hK K
          refine wpAnyIn_ready (rs := [3]) (by kernel_rfl) (by simp) ?_
          refine AllReadyIn.cons rfl (fun K hK => ?_) (AllReadyIn.nil)
          · go_simp
            refine hK _ _ ?_
            clear hK K
            refine wpAnyIn_ready (rs := [4]) (by kernel_rfl) (by simp) ?_
            refine AllReadyIn.cons rfl (fun K hK => ?_) (AllReadyIn.nil)
            · refine stepIn_append_own rfl _ _ 30 rfl (w.heap.size + 2) 9 i0 (.string ⟨#[]⟩) 1 16 Tryd.underlying30 hi hz0 hz1 hz2 rfl (by decide) v pre.length (pre.map trN) rfl ?_ ⟨W.heap.size, 0, none⟩ 1 1 [trN x] rfl rfl ?_ (by simp [trN, Value.oneCell']) (by unfold maxLen; omega) (by omega) ?_ ?_
              · exact hrow.alloc _
              · exact cell_one_new _ _ _
              · have := hv.lt; show w.heap.size + 2 ≤ (W.heap.push _).size; rw [Array.size_push]; omega
              intro v' w1 hown' hgrow
              obtain ⟨g', cap', rfl⟩ := ownsRow_succ hown'
              have hv1 : Boxed w1 w.heap.size 30 v := Boxed.kept (W := (W.alloc (.cells #[trN x] 9)).drew) (hv.alloc _) hgrow (hv.not_row (by decide) hrow)
              have hc1 := hv1.cell
              have hf1 := hv1.frozen
              refine hK _ _ ?_
              clear hK K
              refine wpAnyIn_ready (rs := [5]) (by kernel_rfl) (by simp) ?_
              refine AllReadyIn.cons rfl (fun K hK => ?_) (AllReadyIn.nil)
              · go_simp
                refine hK _ _ ?_
                clear hK K
                refine wpAnyIn_done (by kernel_rfl) ?_ _
                have hg2 : (W.alloc (.cells #[trN x] 9)).grownBy w1 v.ownBlock := by obtain ⟨a1, a2, a3, a4, a5⟩ := hgrow; exact ⟨a1, a2, a3, a4, a5⟩
                have hown2 := hown'.kept (grownBy_setCell' w1 w.heap.size (.slice (some ⟨g', 0, none⟩) (pre.length + 1) cap')) (.inr (hv1.not_row (by decide) hown').symm)
                obtain ⟨_, h2, _, h4, h5⟩ := hv.appended (n₀ := w.heap.size) (by decide) (ownsRow_base hrow (by omega)) hB.size (Nat.le_refl _) (ownsRow_base hown' (by omega)) hg2
                have hkp : (w1.setCell ⟨w.heap.size, 0, none⟩ (.slice (some ⟨g', 0, none⟩) (pre.length + 1) cap')).heap[w.heap.size + 1]? = W.heap[w.heap.size + 1]? := (Below.heap_setCell _ _ _ _ (by show w.heap.size + 1 ≠ w.heap.size; omega)).trans ((hg2.block _ (by rw [World.size_alloc]; omega) (ownsRow_far hrow (by omega))).trans (Below.heap_alloc _ _ _ (by omega)))
                refine ⟨h4.from _, hkp, ⟨_, h2, by simpa using hown2, trivial⟩, hB.trans h5, ?_⟩
                exact Nat.le_trans hsz h4.size
        · go_simp
          refine hK _ _ ?_
          clear hK K
          refine wpAnyIn_ready (rs := [0]) (by kernel_rfl) (by simp) ?_
          refine AllReadyIn.cons rfl (fun K hK => ?_) (AllReadyIn.nil)
          · go_simp
            refine hK _ _ ?_
            clear hK K
            refine wpAnyIn_ready (rs := [4]) (by kernel_rfl) (by simp) ?_
            refine AllReadyIn.cons rfl (fun K hK => ?_) (AllReadyIn.nil)
            · refine stepIn_append_own rfl _ _ 30 rfl (w.heap.size + 2) 9 i0 (.string ⟨#[]⟩) 1 16 Tryd.underlying30 hi hz0 hz1 hz2 rfl (by decide) v pre.length (pre.map trN) rfl ?_ ⟨W.heap.size, 0, none⟩ 1 1 [trN x] rfl rfl ?_ (by simp [trN, Value.oneCell']) (by unfold maxLen; omega) (by omega) ?_ ?_
              · exact hrow.alloc _
              · exact cell_one_new _ _ _
              · have := hv.lt; show w.heap.size + 2 ≤ (W.heap.push _).size; rw [Array.size_push]; omega
              intro v' w1 hown' hgrow
              obtain ⟨g', cap', rfl⟩ := ownsRow_succ hown'
              have hv1 : Boxed w1 w.heap.size 30 v := Boxed.kept (W := (W.alloc (.cells #[trN x] 9)).drew) (hv.alloc _) hgrow (hv.not_row (by decide) hrow)
              have hc1 := hv1.cell
              have hf1 := hv1.frozen
              refine hK _ _ ?_
              clear hK K
              refine wpAnyIn_ready (rs := [5]) (by kernel_rfl) (by simp) ?_
              refine AllReadyIn.cons rfl (fun K hK => ?_) (AllReadyIn.nil)
              · go_simp
                refine hK _ _ ?_
                clear hK K
                refine wpAnyIn_done (by kernel_rfl) ?_ _
                have hg2 : (W.alloc (.cells #[trN x] 9)).grownBy w1 v.ownBlock := by obtain ⟨a1, a2, a3, a4, a5⟩ := hgrow; exact ⟨a1, a2, a3, a4, a5⟩
                have hown2 := hown'.kept (grownBy_setCell' w1 w.heap.size (.slice (some ⟨g', 0, none⟩) (pre.length + 1) cap')) (.inr (hv1.not_row (by decide) hown').symm)
                obtain ⟨_, h2, _, h4, h5⟩ := hv.appended (n₀ := w.heap.size) (by decide) (ownsRow_base hrow (by omega)) hB.size (Nat.le_refl _) (ownsRow_base hown' (by omega)) hg2
                have hkp : (w1.setCell ⟨w.heap.size, 0, none⟩ (.slice (some ⟨g', 0, none⟩) (pre.length + 1) cap')).heap[w.heap.size + 1]? = W.heap[w.heap.size + 1]? := (Below.heap_setCell _ _ _ _ (by show w.heap.size + 1 ≠ w.heap.size; omega)).trans ((hg2.block _ (by rw [World.size_alloc]; omega) (ownsRow_far hrow (by omega))).trans (Below.heap_alloc _ _ _ (by omega)))
                refine ⟨h4.from _, hkp, ⟨_, h2, by simpa using hown2, trivial⟩, hB.trans h5, ?_⟩
                exact Nat.le_trans hsz h4.size
  case done =>
    rintro D W hD ⟨⟨v, hv, hrow, _⟩, hB, _⟩ hK
    have hc := hv.cell
    gi_wp2
    refine ⟨by simp, .inl ⟨_, _, rfl, run_takeDeferred hK, ?_⟩⟩
    exact ⟨_, results_tmp rfl _ _ _, v, rfl, ownsRow_base (ownsRow_putObj hrow _ hK rfl) (by omega), hB.trans (belowK_b (w := w) (Nat.le_refl _) W D _ _ (by simp at hD; omega) hK rfl rfl)⟩
end Go.Proofs.YtfhdmhoeopbhnaaDoor

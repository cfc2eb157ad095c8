/-
  The walks and plain laws, part 5.
-/
import Derived.Test.YtnkbkfjgbejhfaaGreatBase4
import Derived.Test.YtnkbkfjgbejhfaaGreatBase2
import Derived.Test.YtnkbkfjgbejhfaaGreatBm4
import Derived.Test.YtnkbkfjgbejhfaaGreatBase1
import Derived.Test.YtnkbkfjgbejhfaaGreatBm5
import Derived.Test.YtnkbkfjgbejhfaaGreatShelf
set_option linter.unusedSimpArgs false
set_option linter.unusedSectionVars false
set_option linter.unusedVariables false
set_option maxRecDepth 100000
set_option maxHeartbeats 4000000
namespace Go.Proofs.YtnkbkfjgbejhfaaGreat
open Go.Proofs.YtnkbkfjgbejhfaaGreat.Am Go.HeapL
variable [Inhabited DRT]
variable {G : GInv}
/-! ### A graph's work, as blocks -/
abbrev gB (n : Nat) (ini : Nat → Nat) (o : OE) : Blk := .mgrid 75 false [.int .i64] n 0 [] ini (fun i => mH (o i)) (fun i => mV (o i))
abbrev wkB (n : Nat) (ini : Nat → Nat) (o : OE) (gn : Int → Int) (q : List It) (k : Nat) (Φ : (Nat → List A) → Prop) : List Blk := [.box 52 [.int .i64 (n : Int), .own 2, .own 3, .own 4, .ref 5 0, .own 8], gB n ini o, gB n ini (inM o), .row 3 1 n (fun i => [.int .i64 (gn i)]), .box 81 [.own 6, .omap 7], .row 41 2 q.length (itR q), atB q, .rowE 44 4 k Φ]
abbrev wg1 : Blk := .ghost [.junk, .ref 1 0, .junk, .junk, .junk, .ref 5 0, .junk, .omap 7, .junk]
abbrev wg2 : Blk := .ghost [.junk, .junk, .ref 1 0, .junk, .junk, .junk, .ref 5 0, .junk, .omap 7, .junk]
theorem grid_fit {n : Nat} {ini : Nat → Nat} {i0 : Nat} (h0 : ini i0 = 1) {H : List KC → Bool} {V : List KC → A} {f f' : Int → Mp} (hne : ∀ i : Nat, i ≠ i0 → f' (i : Int) = f (i : Int)) (hH : ∀ k, H k = mH (f' i0) k) (hV : ∀ k, V k = mV (f' i0) k) :
  ∀ i, i < n → ini i ≤ 1 → updN ini i0 1 i = ini i ∧ (ini i = 1 → (∀ k, updN (fun i => mH (f i)) i0 H i k = (fun (i : Nat) => mH (f' i)) i k) ∧ ∀ k, updN (fun i => mH (f i)) i0 H i k = true → updN (fun i => mV (f i)) i0 V i k = (fun (i : Nat) => mV (f' i)) i k) := by
 intro i _ _
 unfold updN
 by_cases e : i = i0
 ·subst e
  simp only [if_pos rfl]
  exact ⟨h0.symm, fun _ => ⟨hH, fun k _ => hV k⟩⟩
 ·simp only [if_neg e, hne i e]
  exact ⟨trivial, fun _ => ⟨fun _ => trivial, fun _ _ => trivial⟩⟩
theorem put_same {o : OE} {a b w m : Int} (h : (o a b).isSome = true) (h' : ((o a b).getD (0, 0)).1 ≤ w) : putM o ⟨a, b, w, m⟩ = o := by
 rcases putM_cases o ⟨a, b, w, m⟩ with ⟨_, _, _, e⟩ | ⟨hd, _⟩
 ·exact e
 ·obtain ⟨s, hs⟩ := Option.isSome_iff_exists.1 h
  rw [hs] at h'
  have := hd s hs
  simp only [Option.getD_some] at h' this
  omega
theorem put_diff {o : OE} {a b w m : Int} (h : (o a b).isSome = true → ¬ ((o a b).getD (0, 0)).1 ≤ w) : putM o ⟨a, b, w, m⟩ = fun x y => if x = a ∧ y = b then some (w, m) else o x y := by
 rcases putM_cases o ⟨a, b, w, m⟩ with ⟨s, hs, hd, _⟩ | ⟨_, e⟩
 ·have hs : o a b = some s := hs
  rw [hs] at h
  exact absurd hd (h rfl)
 ·exact e
theorem po_ne {o : OE} {a b : Nat} {s : Int × Int} {i : Nat} (h : i ≠ a) : (fun x y => if x = (a : Int) ∧ y = (b : Int) then some s else o x y) (i : Int) = o i := by
 funext y
 show (if (i : Int) = a ∧ y = b then some s else o i y) = o i y
 rw [if_neg (by omega)]
theorem po_eq {o : OE} {a b : Nat} {s : Int × Int} : (fun x y => if x = (a : Int) ∧ y = (b : Int) then some s else o x y) (a : Int) = fun y => if y = (b : Int) then some s else o a y := by
 funext y
 show (if (a : Int) = a ∧ y = b then some s else o a y) = _
 simp
theorem pi_ne {o : OE} {a b : Nat} {s : Int × Int} {i : Nat} (h : i ≠ b) : inM (fun x y => if x = (a : Int) ∧ y = (b : Int) then some s else o x y) (i : Int) = inM o i := by
 funext y
 show (if y = (a : Int) ∧ (i : Int) = b then some s else o y i) = o y i
 rw [if_neg (by omega)]
theorem pi_eq {o : OE} {a b : Nat} {s : Int × Int} : inM (fun x y => if x = (a : Int) ∧ y = (b : Int) then some s else o x y) (b : Int) = fun y => if y = (a : Int) then some s else inM o b y := by
 funext y
 show (if y = (a : Int) ∧ (b : Int) = b then some s else o y b) = if y = (a : Int) then some s else o y b
 simp
theorem put_c (n : Nat) (ini : Nat → Nat) (o : OE) (gn : Int → Int) (q : List It) (k : Nat) (Φ : (Nat → List A) → Prop) (a b : Nat) (w m : Int) (ha : a < n) (hb : b < n) (ia : ini a = 1) (ib : ini b = 1) (hn : n ≤ 50) :
  MCalls Tryz.prog G 32 [.ref 1 0, .agg [.int .i64 (a : Int), .int .i64 (b : Int), .int .i64 w, .int .i64 m]] (wg2 :: wkB n ini o gn q k Φ) (.tup []) (wg2 :: wkB n ini (putM o ⟨a, b, w, m⟩) gn q k Φ) := by
 refine MCalls.of_WA ttok Tryz.func32 rfl rfl _ rfl ?_
 conv => whnf
 refine WA_nx ?_
 refine WA_takeG 2 a rfl ha ia ?_
 conv => whnf
 refine WA_takeG 3 b rfl hb ib ?_
 conv => whnf
 repeat' (first | ((refine WA_backG (code := .ret) 2 9 rfl rfl rfl ha ?_; (conv => whnf); refine WA_backG (code := .ret) 3 10 rfl rfl rfl hb ?_; (conv => whnf); refine rt ?_; conv => whnf)) | ((refine WA_trkR (id := 4) 9 ?_; (conv => whnf); refine WA_trkR (id := 4) 10 ?_; (conv => whnf); refine dw ttok mixed ?_; conv => whnf)) | ((refine NX_unx 9 rfl ?_; (conv => whnf); refine NX_unx 10 rfl ?_; (conv => whnf); refine NX_backG 2 9 rfl rfl rfl ha ?_; (conv => whnf); refine NX_backG 3 10 rfl rfl rfl hb ?_; (conv => whnf); refine NX_done ?_; conv => whnf)) | refine sq ?_ | refine bk ?_ | ((first | refine rg ttok ?_ | refine dw ttok mixed ?_ | refine cd ?_ | refine sk ?_ | refine xt ?_ | refine rt ?_); conv => whnf) | (refine And.intro (fun h => ?_) (fun h => ?_) <;> (try simp only [brsA] at h) <;> conv => whnf) | ((first | refine wf ?_ | refine wp' ?_ | refine ai ?_ | refine And.intro rfl ?_ | refine an ?_ | fail); conv => whnf))
 ·have e := put_same (m := m) (show (o a b).isSome = true by assumption) h
  rw [e]
  repeat (first | exact fa | ((first | refine fb ?_ | (refine And.intro ?_ ?_; rotate_left)); conv => whnf))
  all_goals first
   | exact fun row h => h
   | exact grid_fit ia (fun i _ => rfl) (fun _ => rfl) (fun _ => rfl)
   | exact grid_fit ib (fun i _ => rfl) (fun _ => rfl) (fun _ => rfl)
 all_goals
  have e := put_diff (o := o) (a := a) (b := b) (w := w) (m := m) (by first | exact fun _ => h | exact fun h' => absurd h' (by rw [show (o a b).isSome = false from h]; exact Bool.noConfusion))
  rw [e]
  repeat (first | exact fa | ((first | refine fb ?_ | (refine And.intro ?_ ?_; rotate_left)); conv => whnf))
  all_goals first
   | exact fun row h => h
   | exact grid_fit (f := o) (f' := (fun x y => if x = (a : Int) ∧ y = (b : Int) then some (w, m) else o x y)) ia (fun i hi => po_ne hi) (H := putH (mH (o a)) [.int b] true) (fun k => (put_mH (o a) b (w, m) k).trans (congrArg (fun f => mH f k) po_eq.symm)) (V := putV (putV (mV (o a)) [.int b] .junk) [.int b] (.agg [.int .i64 w, .int .i64 m])) (fun k => (congrFun (putV_putV _ _ _ _) k).trans ((put_mV (o a) b (w, m) k).trans (congrArg (fun f => mV f k) po_eq.symm)))
   | exact grid_fit (f := inM o) (f' := inM (fun x y => if x = (a : Int) ∧ y = (b : Int) then some (w, m) else o x y)) ib (fun i hi => pi_ne hi) (H := putH (mH (inM o b)) [.int a] true) (fun k => (put_mH (inM o b) a (w, m) k).trans (congrArg (fun f => mH f k) pi_eq.symm)) (V := putV (putV (mV (inM o b)) [.int a] .junk) [.int a] (.agg [.int .i64 w, .int .i64 m])) (fun k => (congrFun (putV_putV _ _ _ _) k).trans ((put_mV (inM o b) a (w, m) k).trans (congrArg (fun f => mV f k) pi_eq.symm)))
end Go.Proofs.YtnkbkfjgbejhfaaGreat
namespace Go.Proofs.YtnkbkfjgbejhfaaGreat
open Go.Proofs.YtnkbkfjgbejhfaaGreat.Am Go.HeapL
variable [Inhabited DRT]
variable {G : GInv}
theorem prioH_c (hns : (default : DRT).ns) (n : Nat) (L : Int → Prop) (B : Int) (ini : Nat → Nat) (o : OE) (gn : Int → Int) (q : List It) (k : Nat) (Φ : (Nat → List A) → Prop) (hO : OI n L B o) (hB : B ≤ mxC) (hn : n ≤ 50) (hini : ∀ u : Int, 0 ≤ u → u < n → L u → ini u.toNat = 1)
  (hg : ∀ u, 0 ≤ gn u ∧ gn u ≤ 1000) (v : Int) (hv : 0 ≤ v ∧ v < n ∧ L v) :
  MCalls Tryz.prog G 15 [.ref 1 0, .int .i64 v] (wg2 :: wkB n ini o gn q k Φ) (.tup [.int .i64 (prM n o gn v), .own 9]) ((wg2 :: wkB n ini o gn q k Φ) ++ [.row 44 4 (needM n o v).length (lkR (needM n o v))]) := by
 have h0 := priority_c (G := G) hns n L B o gn (fun i => [gvA false [.int .i64] (ini i) (mH (o i)) (mV (o i))]) (fun i => [gvA false [.int .i64] (ini i) (mH (inM o i)) (mV (inM o i))]) (fun i => [.int .i64 (gn i)]) ⟨q.length, itR q, atH q, atV q⟩ hO hB hn
  (fun u a b c => by show [gvA false [.int .i64] (ini u.toNat) (mH (o (u.toNat : Int))) (mV (o (u.toNat : Int)))] = _; rw [hini u a b c, show ((u.toNat : Nat) : Int) = u by omega]; rfl)
  (fun u a b c => by show [gvA false [.int .i64] (ini u.toNat) (mH (inM o (u.toNat : Int))) (mV (inM o (u.toNat : Int)))] = _; rw [hini u a b c, show ((u.toNat : Nat) : Int) = u by omega]; rfl)
  (fun u a b => by show [A.int .i64 (gn (u.toNat : Int))] = _; rw [show ((u.toNat : Nat) : Int) = u by omega]) hg v hv
 generalize prM n o gn v = pv at h0 ⊢
 generalize needM n o v = K at h0 ⊢
 have h1 : MCalls Tryz.prog G 15 ([.ref 1 0, .int .i64 v].map (wk (wg2 :: wkB n ini o gn q k Φ) 5)) [] (.tup [.int .i64 pv, .own 0]) [.row 44 4 K.length (lkR K)] := by
  refine MCalls.fit h0 rfl ?_
  conv => whnf
  repeat (first | exact fa | ((first | refine fb ?_ | (refine And.intro ?_ ?_; rotate_left)); conv => whnf))
 exact MCalls.lend h1 rfl rfl (fun x hx => by
  rw [List.mem_singleton] at hx; subst hx
  intro i hi x hx
  unfold lkR at hx
  simp only [List.mem_cons, List.not_mem_nil, or_false] at hx
  rcases hx with rfl | rfl | rfl | rfl <;> rfl) rfl
end Go.Proofs.YtnkbkfjgbejhfaaGreat
namespace Go.Proofs.YtnkbkfjgbejhfaaGreat
open Go.Proofs.YtnkbkfjgbejhfaaGreat.Am Go.HeapL
variable [Inhabited DRT]
variable {G : GInv}
theorem next_c (hns : (default : DRT).ns) (n : Nat) (B : Int) (ini : Nat → Nat) (o : OE) (gn : Int → Int) (q : List It) (k : Nat) (Φ : (Nat → List A) → Prop) (hO : OI n (fun v => hasL q v = true) B o) (hB : B ≤ mxC) (hn : n ≤ 50) (hini : ∀ u : Int, 0 ≤ u → u < n → hasL q u = true → ini u.toNat = 1)
  (hg : ∀ u, 0 ≤ gn u ∧ gn u ≤ 1000) (hp : Hp q) (hd : Nd q) (he : ∀ {v}, hasL q v = true → 0 ≤ v ∧ v < n) (h0 : 0 < q.length) (hq : q.length ≤ 50) (Q : List It) (hQ : Q = nextQ (prM n o gn) q.length q) :
  MCalls Tryz.prog G 17 [.ref 1 0] (wg1 :: wkB n ini o gn q k Φ) (.tup [.int .i64 (gt Q 0).2, .own 9, .bool true]) ((wg1 :: wkB n ini o gn (hpop Q) k Φ) ++ [.row 44 4 (needM n o (gt Q 0).2).length (lkR (needM n o (gt Q 0).2))]) := by
 rw [nextQ_late hp hd _ (late_le _ _)] at hQ
 refine MCalls.of_WA ttok Tryz.func17 rfl rfl _ rfl ?_
 conv => whnf
 repeat (first | refine sq ?_ | refine bk ?_ | ((first | refine rg ttok ?_ | refine dw ttok mixed ?_ | refine cd ?_ | refine sk ?_ | refine xt ?_ | refine rt ?_); conv => whnf))
 refine WA_loopI (ι := List It) (fun x => Hp x ∧ Nd x ∧ (∀ v, hasL x v = hasL q v) ∧ nextQ (prM n o gn) (late (prM n o gn) x) x = Q) (fun _ => []) (fun x => wg1 :: wkB n ini o gn x k Φ) (fun x => late (prM n o gn) x) q ⟨hp, hd, fun _ => rfl, hQ.symm⟩ ?_ ?_
 ·conv => whnf
  repeat (first | exact fa | ((first | refine fb ?_ | (refine And.intro ?_ ?_; rotate_left)); conv => whnf))
  all_goals first
   | exact fun row h => h
   | exact fun i _ _ => ⟨rfl, fun _ => ⟨fun _ => rfl, fun _ _ => rfl⟩⟩
 ·rintro x ⟨xp, xd, xh, xQ⟩
  have xl : x.length = q.length := len_has xd hd xh
  have x0 : 0 < x.length := by omega
  have xt : hasL q (gt x 0).2 = true := by rw [← xh]; exact has_at x0
  have xr := he xt
  have h1 := least_yes (G := G) x x0 (by omega)
  have h2 := prioH_c (G := G) hns n (fun v => hasL q v = true) B ini o gn x k Φ hO hB hn hini hg (gt x 0).2 ⟨xr.1, xr.2, xt⟩
  have h3 := pop_c (G := G) x xd x0 (by omega)
  have h4 := set_old (G := G) x (prM n o gn (gt x 0).2, (gt x 0).2) xd (has_at x0) (by omega)
  have hlt := fun h => late_hset xp xd x0 (p := prM n o gn) h
  conv => whnf
  repeat' (first | ((refine WA_drawB (id := 8) 8 [] ttok mixed rfl (by kernel_rfl) ?_; conv => whnf)) | refine sq ?_ | refine bk ?_ | ((first | refine rg ttok ?_ | refine dw ttok mixed ?_ | refine cd ?_ | refine sk ?_ | refine xt ?_ | refine rt ?_); conv => whnf) | (refine And.intro (fun h => ?_) (fun h => ?_) <;> (try simp only [brsA] at h) <;> conv => whnf) | (refine Or.inr (Or.inl ?_); (conv => whnf); (first | refine ⟨_, _, h1, ?_⟩ | refine ⟨_, _, h2, ?_⟩ | refine ⟨_, _, h3, ?_⟩ | refine ⟨_, _, h4, ?_⟩); conv => whnf) | ((first | refine wf ?_ | refine wp' ?_ | refine ai ?_ | refine And.intro rfl ?_ | refine an ?_ | fail); conv => whnf))
  ·have e : x = Q := by rw [← xQ]; exact (nextQ_fix _ fun _ => by omega).symm
   subst e
   repeat (first | exact fa | ((first | refine fb ?_ | (refine And.intro ?_ ?_; rotate_left)); conv => whnf))
   all_goals first
    | exact fun row h => h
    | exact fun i _ _ => ⟨rfl, fun _ => ⟨fun _ => rfl, fun _ _ => rfl⟩⟩
  ·have hk : (gt x 0).1 < prM n o gn (gt x 0).2 := by omega
   have hlt := hlt hk
   obtain ⟨y1, y2, _⟩ := hset_ok xp xd (prM n o gn (gt x 0).2, (gt x 0).2)
   refine ⟨hset x (prM n o gn (gt x 0).2, (gt x 0).2), ⟨y1, y2, fun v => (hset_has (x := (prM n o gn (gt x 0).2, (gt x 0).2)) xp xd (has_at x0) v).trans (xh v), ?_⟩, hlt, ?_⟩
   ·rw [← xQ]
    obtain ⟨j, hj⟩ : ∃ j, late (prM n o gn) x = j + 1 := ⟨late (prM n o gn) x - 1, by omega⟩
    rw [hj, nextQ, decide_eq_true x0, decide_eq_true hk]
    exact (nextQ_late y1 y2 j (by omega)).symm
   ·conv => whnf
    repeat (first | exact fa | ((first | refine fb ?_ | (refine And.intro ?_ ?_; rotate_left)); conv => whnf))
    all_goals first
     | exact fun row h => h
     | exact fun i _ _ => ⟨rfl, fun _ => ⟨fun _ => rfl, fun _ _ => rfl⟩⟩
end Go.Proofs.YtnkbkfjgbejhfaaGreat
namespace Go.Proofs.YtnkbkfjgbejhfaaGreat
open Go.Proofs.YtnkbkfjgbejhfaaGreat.Am Go.HeapL
variable [Inhabited DRT]
variable {G : GInv}
/-! ### Which graphs there may be -/
abbrev gA (g : Gr) : A := .agg [intsA g.st, intsA g.hd, intsA g.wt]
abbrev stI (g : Gr) (v : Int) : Int := g.st.getD v.toNat 0
abbrev hdI (g : Gr) (v : Int) : Int := g.hd.getD v.toNat 0
abbrev wtI (g : Gr) (v : Int) : Int := g.wt.getD v.toNat 0
def GHead (g : Gr) : Prop := 1 ≤ g.st.length ∧ g.st.length ≤ 4001 ∧ g.st.getD 0 0 = 0 ∧ g.st.getD (g.st.length - 1) 0 = g.hd.length ∧ g.hd.length ≤ 200000 ∧ g.wt.length = g.hd.length
def GMono (g : Gr) : Prop := ∀ v : Nat, v + 1 < g.st.length → g.st.getD v 0 ≤ g.st.getD (v + 1) 0
def ArcP (g : Gr) (v : Nat) (i : Int) : Prop := (0 ≤ hdI g i ∧ hdI g i < (g.st.length : Int) - 1) ∧ (0 ≤ wtI g i ∧ wtI g i ≤ 2147483648) ∧ (stI g v < i → hdI g (i - 1) < hdI g i)
def GArcs (g : Gr) : Prop := ∀ v : Nat, v + 1 < g.st.length → ∀ i : Int, stI g v ≤ i → i < stI g ((v : Int) + 1) → ArcP g v i
def GMay (g : Gr) : Prop := GHead g ∧ GMono g ∧ GArcs g
noncomputable instance (g : Gr) : Decidable (GMay g) := Classical.propDecidable _
theorem GMay.ok {g : Gr} (h : GMay g) : GrOK g := by
 obtain ⟨⟨h1, h2, h3, h4, h5, h6⟩, hm, ha⟩ := h
 have hn : g.n = g.st.length - 1 := rfl
 refine ⟨h1, h3, h4, h6, fun v hv => hm v (by omega), fun v hv i i1 i2 => ?_⟩
 obtain ⟨a1, a2, a3⟩ := ha v (by omega) i i1 i2
 have e : ((i : Int) - 1).toNat = i - 1 := by omega
 simp only [hdI, wtI, stI, e, Int.toNat_natCast] at a1 a2 a3
 exact ⟨⟨a1.1, by omega⟩, a2, a3⟩
theorem sorted_mono {l : List Int} (h : ∀ v : Nat, v + 1 < l.length → l.getD v 0 ≤ l.getD (v + 1) 0) : ∀ (u v : Nat), u ≤ v → v < l.length → l.getD u 0 ≤ l.getD v 0 := by
 intro u v huv hv
 induction v with
 | zero => rw [show u = 0 by omega]; exact Int.le_refl _
 | succ v ih =>
  by_cases e : u = v + 1
  ·subst e; exact Int.le_refl _
  ·have := ih (by omega) (by omega)
   have := h v hv
   omega
theorem cless_c (a b : Int) : ACalls Tryz.prog G 81 [.int .i64 a, .int .i64 b] (.sb (decide (a < b))) := by
 have h1 := fun x => isNaN_c (G := G) x
 refine ACalls.of_WA ttok Tryz.func81 rfl rfl _ rfl ?_
 conv => whnf
 repeat' (first | refine sq ?_ | refine bk ?_ | ((first | refine rg ttok ?_ | refine dw ttok mixed ?_ | refine cd ?_ | refine sk ?_ | refine xt ?_ | refine rt ?_); conv => whnf) | (refine And.intro (fun h => ?_) (fun h => ?_) <;> (try simp only [brsA] at h) <;> conv => whnf) | (refine Or.inl ?_; (conv => whnf); refine ⟨_, (h1 _), ?_⟩; conv => whnf) | ((first | refine wf ?_ | refine wp' ?_ | refine ai ?_ | refine And.intro rfl ?_ | refine an ?_ | fail); conv => whnf))
 all_goals cases ‹false = true›
def MonoP (l : List Int) : Prop := ∀ v : Nat, v + 1 < l.length → l.getD v 0 ≤ l.getD (v + 1) 0
noncomputable instance (l : List Int) : Decidable (MonoP l) := Classical.propDecidable _
theorem isSorted_c (l : List Int) (hl : l.length ≤ 1000000) : ACalls Tryz.prog G 50 [intsA l] (.sb (decide (MonoP l))) := by
 have hc := fun a b => cless_c (G := G) a b
 refine ACalls.of_WA ttok Tryz.func50 rfl rfl _ rfl ?_
 conv => whnf
 repeat' (first | refine sq ?_ | refine bk ?_ | ((first | refine rg ttok ?_ | refine dw ttok mixed ?_ | refine cd ?_ | refine sk ?_ | refine xt ?_ | refine rt ?_); conv => whnf) | (refine And.intro (fun h => ?_) (fun h => ?_) <;> (try simp only [brsA] at h) <;> conv => whnf) | ((first | refine wf ?_ | refine wp' ?_ | refine ai ?_ | refine And.intro rfl ?_ | refine an ?_ | fail); conv => whnf))
 refine WA_loopI (ι := Int) (fun j => -1 ≤ j ∧ j ≤ (l.length : Int) - 1 ∧ ∀ v : Nat, j ≤ v → v + 1 < l.length → l.getD v 0 ≤ l.getD (v + 1) 0) (fun j => [(3, .int .i64 j)]) (fun _ => []) (fun j => j.toNat) ((l.length : Int) - 1) ⟨by omega, by omega, fun v h1 h2 => by omega⟩ ?_ ?_
 ·conv => whnf
  repeat (first | exact fa | ((first | refine fb ?_ | (refine And.intro ?_ ?_; rotate_left)); conv => whnf))
 ·rintro j ⟨j1, j2, j3⟩
  have j1 : -1 ≤ j := j1
  have j2 : j ≤ (l.length : Int) - 1 := j2
  conv => whnf
  repeat' (first | ((exfalso; omega)) | refine sq ?_ | refine bk ?_ | ((first | refine rg ttok ?_ | refine dw ttok mixed ?_ | refine cd ?_ | refine sk ?_ | refine xt ?_ | refine rt ?_); conv => whnf) | (refine And.intro (fun h => ?_) (fun h => ?_) <;> (try simp only [brsA] at h) <;> conv => whnf) | (refine Or.inl ?_; (conv => whnf); refine ⟨_, (hc _ _), ?_⟩; conv => whnf) | ((first | refine wf ?_ | refine wp' ?_ | refine ai ?_ | refine And.intro rfl ?_ | refine an ?_ | fail); conv => whnf))
  ·refine (decide_eq_false fun hM => ?_).symm
   have := hM (j - 1).toNat (by omega)
   rw [show (j - 1).toNat + 1 = j.toNat by omega] at this
   have h : l.getD j.toNat 0 < l.getD (j - 1).toNat 0 := h
   omega
  ·refine ⟨j - 1, ⟨by omega, by omega, fun v h1 h2 => ?_⟩, (by show (j - 1).toNat < j.toNat; omega), ?_⟩
   ·by_cases e : (v : Int) = j - 1
    ·have h : ¬ l.getD j.toNat 0 < l.getD (j - 1).toNat 0 := h
     rw [show v = (j - 1).toNat by omega, show (j - 1).toNat + 1 = j.toNat by omega]
     omega
    ·exact j3 v (by omega) h2
   ·conv => whnf
    repeat (first | exact fa | ((first | refine fb ?_ | (refine And.intro ?_ ?_; rotate_left)); conv => whnf))
  ·exact (decide_eq_true (show MonoP l from fun v hv => j3 v (by omega) hv)).symm
/-! The head of a graph. -/
noncomputable instance (g : Gr) : Decidable (GHead g ∧ GMono g) := Classical.propDecidable _
theorem starts_c (g : Gr) (h1 : g.st.length ≤ 100000) (h2 : g.hd.length ≤ 1000000) (h3 : g.wt.length ≤ 1000000) : ACalls Tryz.prog G 29 [gA g] (.sb (decide (GHead g ∧ GMono g))) := by
 have hs := isSorted_c (G := G) g.st (by omega)
 refine ACalls.of_WA ttok Tryz.func29 rfl rfl _ rfl ?_
 conv => whnf
 repeat' (first | refine sq ?_ | refine bk ?_ | ((first | refine rg ttok ?_ | refine dw ttok mixed ?_ | refine cd ?_ | refine sk ?_ | refine xt ?_ | refine rt ?_); conv => whnf) | (refine And.intro (fun h => ?_) (fun h => ?_) <;> (try simp only [brsA] at h) <;> conv => whnf) | (refine Or.inl ?_; (conv => whnf); refine ⟨_, hs, ?_⟩; conv => whnf) | ((first | refine wf ?_ | refine wp' ?_ | refine ai ?_ | refine And.intro rfl ?_ | refine an ?_ | fail); conv => whnf))
 all_goals first
  | (refine (decide_eq_false fun hg => ?_).symm; obtain ⟨⟨g1, g2, g3, g4, g5, g6⟩, _⟩ := hg; first | omega | exact absurd g3 (by assumption) | (rw [show ((g.st.length : Int) - 1).toNat = g.st.length - 1 by omega] at h; exact h g4))
  | (refine decide_eq_decide.2 ⟨fun hm => ⟨⟨by omega, by omega, by assumption, ?_, by omega, by omega⟩, hm⟩, fun hg => hg.2⟩; rw [show g.st.length - 1 = ((g.st.length : Int) - 1).toNat by omega]; assumption)
theorem head_facts {g : Gr} (h : GHead g ∧ GMono g) {v : Nat} (hv : v + 1 < g.st.length) : 0 ≤ stI g v ∧ stI g v ≤ stI g ((v : Int) + 1) ∧ stI g ((v : Int) + 1) ≤ g.hd.length := by
 obtain ⟨⟨g1, g2, g3, g4, g5, g6⟩, hm⟩ := h
 have a := sorted_mono hm 0 v (Nat.zero_le _) (by omega)
 have b := hm v hv
 have c := sorted_mono hm (v + 1) (g.st.length - 1) (by omega) (by omega)
 rw [g3] at a; rw [g4] at c
 exact ⟨a, b, c⟩
theorem arcP_raw {g : Gr} {v : Nat} {i : Int} : ArcP g v i ↔ (0 ≤ g.hd.getD i.toNat 0 ∧ g.hd.getD i.toNat 0 < (g.st.length : Int) - 1) ∧ (0 ≤ g.wt.getD i.toNat 0 ∧ g.wt.getD i.toNat 0 ≤ 2147483648) ∧ (g.st.getD (v : Int).toNat 0 < i → g.hd.getD (i - 1).toNat 0 < g.hd.getD i.toNat 0) := Iff.rfl
theorem arcs_step {g : Gr} {v : Nat} {i : Int} (i1 : stI g v ≤ i) (h : i < stI g ((v : Int) + 1)) (i3 : ∀ i' : Int, stI g v ≤ i' → i' < i → ArcP g v i') (hA : ArcP g v i) : stI g v ≤ i + 1 ∧ i + 1 ≤ stI g ((v : Int) + 1) ∧ ∀ i' : Int, stI g v ≤ i' → i' < i + 1 → ArcP g v i' := by
 refine ⟨by omega, by omega, fun i' a b => ?_⟩
 by_cases e : i' = i
 ·subst e; exact hA
 ·exact i3 i' a (by omega)
theorem arcs_meas {g : Gr} {v : Nat} {i : Int} (h : i < stI g ((v : Int) + 1)) : (stI g ((v : Int) + 1) - (i + 1)).toNat < (stI g ((v : Int) + 1) - i).toNat := by omega
theorem arcs_row {g : Gr} {v : Nat} {i : Int} (v2 : ∀ u : Nat, u < v → ∀ i : Int, stI g u ≤ i → i < stI g ((u : Int) + 1) → ArcP g u i) (h : ¬ i < stI g ((v : Int) + 1)) (i3 : ∀ i' : Int, stI g v ≤ i' → i' < i → ArcP g v i') :
  ∀ u : Nat, u < v + 1 → ∀ i : Int, stI g u ≤ i → i < stI g ((u : Int) + 1) → ArcP g u i := by
 intro u hu j a b
 by_cases e : u = v
 ·subst e; exact i3 j a (by omega)
 ·exact v2 u (by omega) j a b
theorem amay_c (g : Gr) (h1 : g.st.length ≤ 100000) (h2 : g.hd.length ≤ 1000000) (h3 : g.wt.length ≤ 1000000) : ACalls Tryz.prog G 13 [gA g] (.sb (decide (GMay g))) := by
 have hs := starts_c (G := G) g h1 h2 h3
 refine ACalls.of_WA ttok Tryz.func13 rfl rfl _ rfl ?_
 conv => whnf
 repeat' (first | refine sq ?_ | refine bk ?_ | ((first | refine rg ttok ?_ | refine dw ttok mixed ?_ | refine cd ?_ | refine sk ?_ | refine xt ?_ | refine rt ?_); conv => whnf) | (refine And.intro (fun h => ?_) (fun h => ?_) <;> (try simp only [brsA] at h) <;> conv => whnf) | (refine Or.inl ?_; (conv => whnf); refine ⟨_, hs, ?_⟩; conv => whnf) | ((first | refine wf ?_ | refine wp' ?_ | refine ai ?_ | refine And.intro rfl ?_ | refine an ?_ | fail); conv => whnf))
 ·exact (decide_eq_false fun hg => h ⟨hg.1, hg.2.1⟩).symm
 ·have hg : GHead g ∧ GMono g := h
  refine WA_loopI (ι := Nat) (fun v => v + 1 ≤ g.st.length ∧ ∀ u : Nat, u < v → ∀ i : Int, stI g u ≤ i → i < stI g ((u : Int) + 1) → ArcP g u i) (fun v => [(16, .int .i64 (v : Int))]) (fun _ => [.box 24 [intsA g.st, intsA g.hd, intsA g.wt]]) (fun v => g.st.length - v) 0 ⟨hg.1.1, fun u hu => by omega⟩ ?_ ?_
  ·conv => whnf
   repeat (first | exact fa | ((first | refine fb ?_ | (refine And.intro ?_ ?_; rotate_left)); conv => whnf))
  ·rintro v ⟨v1, v2⟩
   have v1 : v + 1 ≤ g.st.length := v1
   have hf := fun h => head_facts hg (v := v) h
   have hw := hg.1.2.2.2.2.2
   have hl := hg.1.2.1
   conv => whnf
   repeat' (first | refine sq ?_ | refine bk ?_ | ((first | refine rg ttok ?_ | refine dw ttok mixed ?_ | refine cd ?_ | refine sk ?_ | refine xt ?_ | refine rt ?_); conv => whnf) | (refine And.intro (fun h => ?_) (fun h => ?_) <;> (try simp only [brsA] at h) <;> conv => whnf) | ((first | refine wf ?_ | refine wp' ?_ | refine ai ?_ | refine And.intro rfl ?_ | refine an ?_ | fail); conv => whnf))
   ·have hv : v + 1 < g.st.length := by omega
    have hf := hf hv
    refine WA_loopI (ι := Int) (fun i => stI g v ≤ i ∧ i ≤ stI g ((v : Int) + 1) ∧ ∀ i' : Int, stI g v ≤ i' → i' < i → ArcP g v i') (fun i => [(5, .int .i64 i)]) (fun _ => [.box 24 [intsA g.st, intsA g.hd, intsA g.wt]]) (fun i => (stI g ((v : Int) + 1) - i).toNat) (stI g v) ⟨Int.le_refl _, hf.2.1, fun i' a b => by omega⟩ ?_ ?_
    ·conv => whnf
     repeat (first | exact fa | ((first | refine fb ?_ | (refine And.intro ?_ ?_; rotate_left)); conv => whnf))
    ·rintro i ⟨i1, i2, i3⟩
     have i1 : stI g v ≤ i := i1
     have i2 : i ≤ stI g ((v : Int) + 1) := i2
     conv => whnf
     repeat' (first | refine sq ?_ | refine bk ?_ | ((first | refine rg ttok ?_ | refine dw ttok mixed ?_ | refine cd ?_ | refine sk ?_ | refine xt ?_ | refine rt ?_); conv => whnf) | (refine And.intro (fun h => ?_) (fun h => ?_) <;> (try simp only [brsA] at h) <;> conv => whnf) | ((first | refine wf ?_ | refine wp' ?_ | refine ai ?_ | refine And.intro rfl ?_ | refine an ?_ | fail); conv => whnf))
     all_goals first
      | (refine (decide_eq_false fun hM => ?_).symm; have hA := arcP_raw.1 (hM.2.2 v hv i i1 (by assumption)); omega)
      | (refine ⟨i + 1, arcs_step i1 (by assumption) i3 (arcP_raw.2 (by omega)), arcs_meas (by assumption), ?_⟩)
      | (refine ⟨v + 1, ⟨hv, arcs_row v2 (by assumption) i3⟩, (by show g.st.length - (v + 1) < g.st.length - v; omega), ?_⟩)
      | skip
     all_goals
      conv => whnf
      repeat (first | exact fa | ((first | refine fb ?_ | (refine And.intro ?_ ?_; rotate_left)); conv => whnf))
   ·exact (decide_eq_true ⟨hg.1, hg.2, fun u hu => v2 u (by omega)⟩).symm
end Go.Proofs.YtnkbkfjgbejhfaaGreat
namespace Go.Proofs.YtnkbkfjgbejhfaaGreat
open Go.Proofs.YtnkbkfjgbejhfaaGreat.Am Go.HeapL
variable [Inhabited DRT]
variable {G : GInv}
theorem asize_c (g : Gr) (hg : GMay g) : ACalls Tryz.prog G 30 [gA g] (.int .i64 (g.n : Int)) := by
 have h0 := hg.1
 obtain ⟨g1, g2, g3, g4, g5, g6⟩ := h0
 have hs := amay_c (G := G) g (by omega) (by omega) (by omega)
 have e : (g.n : Int) = (g.st.length : Int) - 1 := by show ((g.st.length - 1 : Nat) : Int) = _; omega
 refine ACalls.of_WA ttok Tryz.func30 rfl rfl _ rfl ?_
 conv => whnf
 repeat' (first | refine sq ?_ | refine bk ?_ | ((first | refine rg ttok ?_ | refine dw ttok mixed ?_ | refine cd ?_ | refine sk ?_ | refine xt ?_ | refine rt ?_); conv => whnf) | (refine And.intro (fun h => ?_) (fun h => ?_) <;> (try simp only [brsA] at h) <;> conv => whnf) | (refine Or.inl ?_; (conv => whnf); refine ⟨_, hs, ?_⟩; conv => whnf) | ((first | refine wf ?_ | refine wp' ?_ | refine ai ?_ | refine And.intro rfl ?_ | refine an ?_ | fail); conv => whnf))
 ·exact absurd hg h
 ·exact e.symm
theorem rsize19_c (g : Gr) (h1 : g.st.length ≤ 1000000) : ACalls Tryz.prog G 25 [gA g] (.int .i64 ((g.st.length : Int) - 1)) := by
 refine ACalls.of_WA ttok Tryz.func25 rfl rfl _ rfl ?_
 conv => whnf
 repeat' (first | refine sq ?_ | refine bk ?_ | ((first | refine rg ttok ?_ | refine dw ttok mixed ?_ | refine cd ?_ | refine sk ?_ | refine xt ?_ | refine rt ?_); conv => whnf) | (refine And.intro (fun h => ?_) (fun h => ?_) <;> (try simp only [brsA] at h) <;> conv => whnf) | ((first | refine wf ?_ | refine wp' ?_ | refine ai ?_ | refine And.intro rfl ?_ | refine an ?_ | fail); conv => whnf))
theorem rmay19_c (g : Gr) (h1 : g.st.length ≤ 100000) (h2 : g.hd.length ≤ 1000000) (h3 : g.wt.length ≤ 1000000) : ACalls Tryz.prog G 5 [gA g] (.sb (decide (GMay g))) := by
 refine ACalls.of_WA ttok Tryz.func5 rfl rfl _ rfl ?_
 conv => whnf
 repeat' (first | refine sq ?_ | refine bk ?_ | ((first | refine rg ttok ?_ | refine dw ttok mixed ?_ | refine cd ?_ | refine sk ?_ | refine xt ?_ | refine rt ?_); conv => whnf) | (refine And.intro (fun h => ?_) (fun h => ?_) <;> (try simp only [brsA] at h) <;> conv => whnf) | ((first | refine wf ?_ | refine wp' ?_ | refine ai ?_ | refine And.intro rfl ?_ | refine an ?_ | fail); conv => whnf))
 all_goals first
  | (refine (decide_eq_false fun hg => ?_).symm; obtain ⟨⟨g1, g2, g3, g4, g5, g6⟩, _⟩ := hg; first | omega | exact absurd g3 (by assumption) | (rw [show ((g.st.length : Int) - 1).toNat = g.st.length - 1 by omega] at h; exact h g4))
  | skip
 have h0 : GHead g := ⟨by omega, by omega, by assumption, (by rw [show g.st.length - 1 = ((g.st.length : Int) - 1).toNat by omega]; assumption), by omega, by omega⟩
 have hw := h0.2.2.2.2.2
 have hl := h0.2.1
 refine WA_loopI (ι := Nat) (fun v => v + 1 ≤ g.st.length ∧ ∀ u : Nat, u < v → g.st.getD u 0 ≤ g.st.getD (u + 1) 0) (fun v => [(4, .int .i64 (v : Int))]) (fun _ => [.box 24 [intsA g.st, intsA g.hd, intsA g.wt]]) (fun v => g.st.length - v) 0 ⟨h0.1, fun u hu => by omega⟩ ?_ ?_
 ·conv => whnf
  repeat (first | exact fa | ((first | refine fb ?_ | (refine And.intro ?_ ?_; rotate_left)); conv => whnf))
 ·rintro v ⟨v1, v2⟩
  have v1 : v + 1 ≤ g.st.length := v1
  conv => whnf
  repeat' (first | refine sq ?_ | refine bk ?_ | ((first | refine rg ttok ?_ | refine dw ttok mixed ?_ | refine cd ?_ | refine sk ?_ | refine xt ?_ | refine rt ?_); conv => whnf) | (refine And.intro (fun h => ?_) (fun h => ?_) <;> (try simp only [brsA] at h) <;> conv => whnf) | ((first | refine wf ?_ | refine wp' ?_ | refine ai ?_ | refine And.intro rfl ?_ | refine an ?_ | fail); conv => whnf))
  ·exact (decide_eq_false fun hg => by have h := h; have := hg.2.1 v (by omega); have h' : g.st.getD (v + 1) 0 < g.st.getD v 0 := h; omega).symm
  ·refine ⟨v + 1, ⟨by omega, fun u hu => ?_⟩, (by show g.st.length - (v + 1) < g.st.length - v; omega), ?_⟩
   ·by_cases e : u = v
    ·subst e
     have h' : ¬ g.st.getD (u + 1) 0 < g.st.getD u 0 := h
     omega
    ·exact v2 u (by omega)
   ·conv => whnf
    repeat (first | exact fa | ((first | refine fb ?_ | (refine And.intro ?_ ?_; rotate_left)); conv => whnf))
  ·have hg : GHead g ∧ GMono g := ⟨h0, fun u hu => v2 u (by omega)⟩
   clear v2
   refine WA_loopI (ι := Nat) (fun v => v + 1 ≤ g.st.length ∧ ∀ u : Nat, u < v → ∀ i : Int, stI g u ≤ i → i < stI g ((u : Int) + 1) → ArcP g u i) (fun v => [(5, .int .i64 (v : Int))]) (fun _ => [.box 24 [intsA g.st, intsA g.hd, intsA g.wt]]) (fun v => g.st.length - v) 0 ⟨hg.1.1, fun u hu => by omega⟩ ?_ ?_
   ·conv => whnf
    repeat (first | exact fa | ((first | refine fb ?_ | (refine And.intro ?_ ?_; rotate_left)); conv => whnf))
   ·rintro v ⟨v1, v2⟩
    have v1 : v + 1 ≤ g.st.length := v1
    have hf := fun h => head_facts hg (v := v) h
    conv => whnf
    repeat' (first | refine sq ?_ | refine bk ?_ | ((first | refine rg ttok ?_ | refine dw ttok mixed ?_ | refine cd ?_ | refine sk ?_ | refine xt ?_ | refine rt ?_); conv => whnf) | (refine And.intro (fun h => ?_) (fun h => ?_) <;> (try simp only [brsA] at h) <;> conv => whnf) | ((first | refine wf ?_ | refine wp' ?_ | refine ai ?_ | refine And.intro rfl ?_ | refine an ?_ | fail); conv => whnf))
    ·have hv : v + 1 < g.st.length := by omega
     have hf := hf hv
     refine WA_loopI (ι := Int) (fun i => stI g v ≤ i ∧ i ≤ stI g ((v : Int) + 1) ∧ ∀ i' : Int, stI g v ≤ i' → i' < i → ArcP g v i') (fun i => [(6, .int .i64 i)]) (fun _ => [.box 24 [intsA g.st, intsA g.hd, intsA g.wt]]) (fun i => (stI g ((v : Int) + 1) - i).toNat) (stI g v) ⟨Int.le_refl _, hf.2.1, fun i' a b => by omega⟩ ?_ ?_
     ·conv => whnf
      repeat (first | exact fa | ((first | refine fb ?_ | (refine And.intro ?_ ?_; rotate_left)); conv => whnf))
     ·rintro i ⟨i1, i2, i3⟩
      have i1 : stI g v ≤ i := i1
      have i2 : i ≤ stI g ((v : Int) + 1) := i2
      conv => whnf
      repeat' (first | refine sq ?_ | refine bk ?_ | ((first | refine rg ttok ?_ | refine dw ttok mixed ?_ | refine cd ?_ | refine sk ?_ | refine xt ?_ | refine rt ?_); conv => whnf) | (refine And.intro (fun h => ?_) (fun h => ?_) <;> (try simp only [brsA] at h) <;> conv => whnf) | ((first | refine wf ?_ | refine wp' ?_ | refine ai ?_ | refine And.intro rfl ?_ | refine an ?_ | fail); conv => whnf))
      all_goals first
       | (refine (decide_eq_false fun hM => ?_).symm; have hA := arcP_raw.1 (hM.2.2 v hv i i1 (by assumption)); omega)
       | (refine ⟨i + 1, arcs_step i1 (by assumption) i3 (arcP_raw.2 (by omega)), arcs_meas (by assumption), ?_⟩)
       | (refine ⟨v + 1, ⟨hv, arcs_row v2 (by assumption) i3⟩, (by show g.st.length - (v + 1) < g.st.length - v; omega), ?_⟩)
      all_goals
       conv => whnf
       repeat (first | exact fa | ((first | refine fb ?_ | (refine And.intro ?_ ?_; rotate_left)); conv => whnf))
    ·exact (decide_eq_true ⟨hg.1, hg.2, fun u hu => v2 u (by omega)⟩).symm
end Go.Proofs.YtnkbkfjgbejhfaaGreat
namespace Go.Proofs.YtnkbkfjgbejhfaaGreat
open Go.Proofs.YtnkbkfjgbejhfaaGreat.Am Go.HeapL
variable [Inhabited DRT]
variable {G : GInv}
/-- What links there are, as a row of some order. -/
def LΦ (ks : List Lk) (row : Nat → List A) : Prop := ∃ l : List Lk, l.Perm ks ∧ ∀ i, i < l.length → row i = [.int .i64 (l.getD i default).f, .int .i64 (l.getD i default).t, .int .i64 (l.getD i default).w, .int .i64 (l.getD i default).m]
abbrev wkC (n : Nat) (ini : Nat → Nat) (o : OE) (gn : Int → Int) (q : List It) (k : Nat) (Φ : (Nat → List A) → Prop) : List Blk := [.box 52 [.int .i64 (n : Int), .own 1, .own 2, .own 3, .ref 4 0, .own 7], gB n ini o, gB n ini (inM o), .row 3 1 n (fun i => [.int .i64 (gn i)]), .box 81 [.own 5, .omap 6], .row 41 2 q.length (itR q), atB q, .rowE 44 4 k Φ]
def iniB (v i : Nat) : Nat := if i < v then 1 else 0
theorem iniB_0 (i : Nat) : iniB 0 i = 0 := if_neg (Nat.not_lt_zero _)
theorem grid_new {n : Nat} (v : Nat) {H : List KC → Bool} {V : List KC → A} {f : Int → Mp} (hf : ∀ i : Nat, f i = fun _ => none) (hH : ∀ k, H k = mH (fun _ => none) k) :
  ∀ i, i < n → iniB (v + 1) i ≤ 1 → updN (iniB v) (v : Int).toNat 1 i = iniB (v + 1) i ∧ (iniB (v + 1) i = 1 → (∀ k, updN (fun i => mH (f i)) (v : Int).toNat H i k = (fun (i : Nat) => mH (f i)) i k) ∧ ∀ k, updN (fun i => mH (f i)) (v : Int).toNat H i k = true → updN (fun i => mV (f i)) (v : Int).toNat V i k = (fun (i : Nat) => mV (f i)) i k) := by
 intro i _ _
 rw [show (v : Int).toNat = v from rfl]
 unfold updN iniB
 by_cases e : i = v
 ·subst e
  simp only [hf, ↓reduceIte]
  refine ⟨by rw [if_pos (Nat.lt_succ_self _)], fun _ => ⟨hH, fun k hk => ?_⟩⟩
  rw [hH] at hk
  unfold mH at hk
  split at hk <;> cases hk
 ·simp only [if_neg e]
  refine ⟨?_, fun _ => ⟨fun _ => trivial, fun _ _ => trivial⟩⟩
  by_cases h : i < v
  ·rw [if_pos h, if_pos (by omega)]
  ·rw [if_neg h, if_neg (by omega)]
abbrev bgC (g : Gr) (o : OE) : List Blk := [.box 24 [intsA g.st, intsA g.hd, intsA g.wt], gB g.n (iniB g.n) o, gB g.n (iniB g.n) (inM o), .row 3 1 g.n (fun _ => [.int .i64 0]), .box 81 [.own 5, .omap 6], .row 41 2 0 (itR []), atB [], .box 52 [.int .i64 (g.n : Int), .own 1, .own 2, .own 3, .ref 4 0, .own 8], .rowE 44 4 0 (LΦ [])]
abbrev bgB (g : Gr) (v : Nat) (o : OE) : List Blk := [.box 24 [intsA g.st, intsA g.hd, intsA g.wt], gB g.n (iniB v) o, gB g.n (iniB v) (inM o), .row 3 1 g.n (fun _ => [.int .i64 0]), .box 81 [.own 5, .omap 6], .row 41 2 0 (itR []), atB [], .box 52 [.int .i64 (g.n : Int), .own 1, .own 2, .own 3, .ref 4 0, .own 8], .row 44 4 0 (fun _ => [])]
theorem begin_c (g : Gr) (hg : GMay g) (hn : g.n ≤ 50) :
  MCalls Tryz.prog G 14 [gA g] [] (.ref 0 0) (wkC g.n (fun _ => 1) (oP g g.hd.length) (fun _ => 0) [] 0 (LΦ [])) := by
 have hs := asize_c (G := G) g hg
 have h0 := new_c (G := G)
 have hok := hg.ok
 refine MCalls.of_WA ttok Tryz.func14 rfl rfl _ rfl ?_
 conv => whnf
 repeat' (first | (refine WA_drawR (id := 2) [(7,3)] ttok mixed ?_; conv => whnf) | refine sq ?_ | refine bk ?_ | ((first | refine rg ttok ?_ | refine dw ttok mixed ?_ | refine cd ?_ | refine sk ?_ | refine xt ?_ | refine rt ?_); conv => whnf) | (refine And.intro (fun h => ?_) (fun h => ?_) <;> (try simp only [brsA] at h) <;> conv => whnf) | (refine Or.inl ?_; (conv => whnf); refine ⟨_, hs, ?_⟩; conv => whnf) | ((first | refine Or.inr (Or.inr (Or.inr ?_)) | refine Or.inr ?_); (conv => whnf); refine ⟨_, _, h0, ?_⟩; conv => whnf) | ((first | refine wf ?_ | refine wp' ?_ | refine ai ?_ | refine And.intro rfl ?_ | refine an ?_ | fail); conv => whnf))
 refine WA_gridOf 1 false [.int .i64] rfl (fun _ _ => rfl) ?_
 conv => whnf
 refine WA_gridOf 2 false [.int .i64] rfl (fun _ _ => rfl) ?_
 conv => whnf
 refine WA_nilB 7 5 44 4 rfl rfl ?_
 conv => whnf
 refine WA_loopI (ι := Nat) (fun v => v ≤ g.n) (fun v => [(21, .int .i64 (v : Int))]) (fun v => bgB g v (fun _ _ => none)) (fun v => g.n - v) 0 (Nat.zero_le _) ?_ ?_
 ·conv => whnf
  repeat (first | exact fa | ((first | refine fb ?_ | (refine And.intro ?_ ?_; rotate_left)); conv => whnf))
  all_goals first
   | exact fun i _ _ => ⟨(iniB_0 i).symm, fun h => absurd ((iniB_0 i).symm.trans h) (by omega)⟩
  
 ·intro v hv
  have hv : v ≤ g.n := hv
  conv => whnf
  repeat' (first | ((refine WA_backG (code := .region 7 _ _) 1 9 rfl rfl rfl (show (v : Int).toNat < g.n by omega) ?_; (conv => whnf); refine WA_backG (code := .region 7 _ _) 2 10 rfl rfl rfl (show (v : Int).toNat < g.n by omega) ?_; (conv => whnf); refine rg ttok ?_; conv => whnf)) | refine sq ?_ | refine bk ?_ | ((first | refine rg ttok ?_ | refine dw ttok mixed ?_ | refine cd ?_ | refine sk ?_ | refine xt ?_ | refine rt ?_); conv => whnf) | (refine And.intro (fun h => ?_) (fun h => ?_) <;> (try simp only [brsA] at h) <;> conv => whnf) | ((first | refine wf ?_ | refine wp' ?_ | refine ai ?_ | refine And.intro rfl ?_ | refine an ?_ | fail); conv => whnf))
  ·refine ⟨v + 1, (by show v + 1 ≤ g.n; omega), (by show g.n - (v + 1) < g.n - v; omega), ?_⟩
   conv => whnf
   repeat (first | exact fa | ((first | refine fb ?_ | (refine And.intro ?_ ?_; rotate_left)); conv => whnf))
   all_goals first
    | exact grid_new (f := fun _ _ => none) v (fun _ => rfl) (fun k => by unfold mH; split <;> rfl)
    | exact grid_new (f := inM fun _ _ => none) v (fun _ => rfl) (fun k => by unfold mH; split <;> rfl)
  ·have e : v = g.n := by omega
   subst e
   refine WA_loopI (ι := Nat) (fun v => v ≤ g.n) (fun v => [(40, .int .i64 (v : Int)), (12, .junk), (14, .junk), (16, .junk), (18, .junk)]) (fun v => bgC g (oP g (g.st.getD v 0).toNat)) (fun v => g.n - v) 0 (Nat.zero_le _) ?_ ?_
   ·rw [hok.s0, show oP g (Int.toNat 0) = fun _ _ => none from rfl]
    conv => whnf
    repeat (first | exact fa | ((first | refine fb ?_ | (refine And.intro ?_ ?_; rotate_left)); conv => whnf))
    all_goals first
     | exact fun i _ _ => ⟨rfl, fun _ => ⟨fun _ => rfl, fun _ _ => rfl⟩⟩
     | exact ⟨fun _ => [], ⟨[], List.Perm.refl _, fun i hi => absurd hi (Nat.not_lt_zero _)⟩, fun i hi => absurd hi (Nat.not_lt_zero _)⟩
   ·intro v hv
    have hv : v ≤ g.n := hv
    have hnn := hok.nn (v := v) hv
    have hnn1 := fun h => hok.nn (v := v + 1) h
    have hnn1 : v + 1 ≤ g.n → 0 ≤ g.st.getD ((v : Int) + 1).toNat 0 ∧ g.st.getD ((v : Int) + 1).toNat 0 ≤ g.hd.length := hnn1
    have hnn : 0 ≤ g.st.getD (v : Int).toNat 0 ∧ g.st.getD (v : Int).toNat 0 ≤ g.hd.length := hnn
    have hwl := hok.wl
    have hsl := hg.1.1
    have hgn : g.n = g.st.length - 1 := rfl
    have hll := hg.1.2.1
    have hhl := hg.1.2.2.2.2.1
    conv => whnf
    repeat' (first | refine sq ?_ | refine bk ?_ | ((first | refine rg ttok ?_ | refine dw ttok mixed ?_ | refine cd ?_ | refine sk ?_ | refine xt ?_ | refine rt ?_); conv => whnf) | (refine And.intro (fun h => ?_) (fun h => ?_) <;> (try simp only [brsA] at h) <;> conv => whnf) | ((first | refine wf ?_ | refine wp' ?_ | refine ai ?_ | refine And.intro rfl ?_ | refine an ?_ | fail); conv => whnf))
    ·have hvn : v < g.n := by omega
     have hnn1 := hnn1 (by omega)
     have hmo : g.st.getD (v : Int).toNat 0 ≤ g.st.getD ((v : Int) + 1).toNat 0 := hok.mono v hvn
     refine WA_loopI (ι := Nat) (fun i => g.st.getD (v : Int).toNat 0 ≤ i ∧ (i : Int) ≤ g.st.getD ((v : Int) + 1).toNat 0) (fun i => [(7, .int .i64 (i : Int)), (12, .junk), (14, .junk), (16, .junk), (18, .junk)]) (fun i => bgC g (oP g i)) (fun i => g.hd.length - i) (g.st.getD (v : Int).toNat 0).toNat ⟨by omega, by omega⟩ ?_ ?_
     ·conv => whnf
      repeat (first | exact fa | ((first | refine fb ?_ | (refine And.intro ?_ ?_; rotate_left)); conv => whnf))
      all_goals first
       | exact fun row h => h
       | omega
       | exact fun i _ _ => ⟨rfl, fun _ => ⟨fun _ => rfl, fun _ _ => rfl⟩⟩
     ·rintro i ⟨i1, i2⟩
      have i1 : g.st.getD (v : Int).toNat 0 ≤ i := i1
      have i2 : (i : Int) ≤ g.st.getD ((v : Int) + 1).toNat 0 := i2
      have ha := fun h1 h2 => (hok.arc v hvn i h1 h2).1
      have hp : g.st.getD (v : Int).toNat 0 ≤ i → (i : Int) < g.st.getD ((v : Int) + 1).toNat 0 → ¬ g.hd.getD (i : Int).toNat 0 = v → MCalls Tryz.prog G 32 [.ref 1 0, .agg [.int .i64 (v : Int), .int .i64 (g.hd.getD (i : Int).toNat 0), .int .i64 (g.wt.getD (i : Int).toNat 0), .int .i64 (-1)]] (wg2 :: wkB g.n (iniB g.n) (oP g i) (fun _ => 0) [] 0 (LΦ [])) (.tup []) (wg2 :: wkB g.n (iniB g.n) (oP g (i + 1)) (fun _ => 0) [] 0 (LΦ [])) := fun k1 k2 k3 => by
       have hb := ha k1 k2
       have := put_c (G := G) g.n (iniB g.n) (oP g i) (fun _ => 0) [] 0 (LΦ []) v (g.hd.getD i 0).toNat (g.wt.getD i 0) (-1) hvn (by omega) (if_pos hvn) (if_pos (by omega)) hn
       rw [show (((g.hd.getD i 0).toNat : Nat) : Int) = g.hd.getD i 0 by omega, oP_put hok hvn k1 k2 k3] at this
       exact this
      have hlp := fun k1 k2 k3 => oP_loop hok (v := v) (i := i) hvn k1 k2 k3
      conv => whnf
      repeat' (first | ((refine WA_drawB (id := 15) 13 [] ttok mixed rfl (by kernel_rfl) ?_; conv => whnf)) | refine sq ?_ | refine bk ?_ | ((first | refine rg ttok ?_ | refine dw ttok mixed ?_ | refine cd ?_ | refine sk ?_ | refine xt ?_ | refine rt ?_); conv => whnf) | (refine And.intro (fun h => ?_) (fun h => ?_) <;> (try simp only [brsA] at h) <;> conv => whnf) | (refine Or.inr (Or.inl ?_); (conv => whnf); refine ⟨_, _, (hp i1 (by assumption) (by assumption)), ?_⟩; conv => whnf) | ((first | refine wf ?_ | refine wp' ?_ | refine ai ?_ | refine And.intro rfl ?_ | refine an ?_ | fail); conv => whnf))
      ·refine ⟨i + 1, ⟨(by show g.st.getD (v : Int).toNat 0 ≤ ((i + 1 : Nat) : Int); omega), (by show ((i + 1 : Nat) : Int) ≤ g.st.getD ((v : Int) + 1).toNat 0; omega)⟩, (by show g.hd.length - (i + 1) < g.hd.length - i; omega), ?_⟩
       conv => whnf
       repeat (first | exact fa | ((first | refine fb ?_ | (refine And.intro ?_ ?_; rotate_left)); conv => whnf))
       all_goals first
        | exact fun row h => h
        | exact fun i _ _ => ⟨rfl, fun _ => ⟨fun _ => rfl, fun _ _ => rfl⟩⟩
      ·have e := hlp i1 (by assumption) h
       refine ⟨i + 1, ⟨(by show g.st.getD (v : Int).toNat 0 ≤ ((i + 1 : Nat) : Int); omega), (by show ((i + 1 : Nat) : Int) ≤ g.st.getD ((v : Int) + 1).toNat 0; omega)⟩, (by show g.hd.length - (i + 1) < g.hd.length - i; omega), ?_⟩
       simp only [e]
       conv => whnf
       repeat (first | exact fa | ((first | refine fb ?_ | (refine And.intro ?_ ?_; rotate_left)); conv => whnf))
       all_goals first
        | exact fun row h => h
        | exact fun i _ _ => ⟨rfl, fun _ => ⟨fun _ => rfl, fun _ _ => rfl⟩⟩
      ·have ei : i = (g.st.getD (v + 1) 0).toNat := by
        have i2 : (i : Int) ≤ g.st.getD (v + 1) 0 := i2
        have h : ¬ (i : Int) < g.st.getD (v + 1) 0 := h
        omega
       subst ei
       refine ⟨v + 1, hvn, (by show g.n - (v + 1) < g.n - v; omega), ?_⟩
       conv => whnf
       repeat (first | exact fa | ((first | refine fb ?_ | (refine And.intro ?_ ?_; rotate_left)); conv => whnf))
       all_goals first
        | exact fun row h => h
        | exact fun i _ _ => ⟨rfl, fun _ => ⟨fun _ => rfl, fun _ _ => rfl⟩⟩
    ·have e : v = g.n := by omega
     subst e
     rw [hok.sn, show (((g.hd.length : Nat) : Int)).toNat = g.hd.length from rfl]
     repeat (first | exact fa | ((first | refine fb ?_ | (refine And.intro ?_ ?_; rotate_left)); conv => whnf))
     all_goals first
      | exact fun row h => h
      | exact fun i hi _ => ⟨if_pos hi, fun _ => ⟨fun _ => rfl, fun _ _ => rfl⟩⟩
end Go.Proofs.YtnkbkfjgbejhfaaGreat
namespace Go.Proofs.YtnkbkfjgbejhfaaGreat
open Go.Proofs.YtnkbkfjgbejhfaaGreat.Am Go.HeapL
variable [Inhabited DRT]
variable {G : GInv}
/-! ### A vertex goes -/
abbrev gF (n : Nat) (ini : Nat → Nat) (f : Int → Mp) : Blk := .mgrid 75 false [.int .i64] n 0 [] ini (fun i => mH (f i)) (fun i => mV (f i))
abbrev wg4 : Blk := .ghost [.junk, .junk, .own 9, .ref 1 0, .junk, .junk, .junk, .ref 5 0, .junk, .omap 7, .junk, .junk]
/-- A map without an entry. -/
def dlM (v : Int) (m : Mp) : Mp := fun x => if x = v then none else m x
def fI (o : OE) (v : Int) (S : List Int) : Int → Mp := fun u => if u ∈ S then dlM v (inM o u) else inM o u
def fO (o : OE) (v : Int) (S : List Int) : Int → Mp := fun u => if u ∈ S then dlM v (o u) else o u
def nH (S : List Int) : List KC → Bool
 | [.int u] => decide (u ∈ S)
 | _ => false
abbrev nB (S : List Int) : Blk := .mapb false [.int .i64] (nH S) (fun _ => .bool true)
abbrev lvB (n : Nat) (i1 i2 : Nat → Nat) (f1 f2 : Int → Mp) (gn : Int → Int) (q : List It) (k : Nat) (l : List Lk) (K : List Lk) (S : List Int) (x : Blk) : List Blk := [.ghost [.junk, .junk, .own 9, .ref 1 0, .junk, .junk, .junk, .ref 5 0, .junk, .omap 7, .junk, .junk], .box 52 [.int .i64 (n : Int), .own 2, .own 3, .own 4, .ref 5 0, .own 8], gF n i1 f1, gF n i2 f2, .row 3 1 n (fun i => [.int .i64 (gn i)]), .box 81 [.own 6, .omap 7], .row 41 2 q.length (itR q), atB q, .row 44 4 k (lkR l), .row 44 4 K.length (lkR K), .dead, nB S, x]
theorem last_key (l : List (List KC)) (k : List KC) : (l ++ [k]).getLast? = some k := by simp
theorem nodup_snoc {S : List Int} {u : Int} (h : S.Nodup) (hu : u ∉ S) : (S ++ [u]).Nodup := by
 rw [List.nodup_append]
 exact ⟨h, by simp, fun a ha b hb => by rw [List.mem_singleton] at hb; subst hb; exact fun e => hu (e ▸ ha)⟩
theorem del_mH (m : Mp) (v : Int) (k : List KC) : putH (mH m) [.int v] false k = mH (dlM v m) k := by
 unfold putH
 split
 ·rename_i e; subst e
  show false = (if v = v then none else m v).isSome
  rw [if_pos rfl]; rfl
 ·rename_i hne
  unfold mH
  split
  ·rename_i x
   have : x ≠ v := fun e => hne (by rw [e])
   show (m x).isSome = (if x = v then none else m x).isSome
   rw [if_neg this]
  ·rfl
theorem del_mV (m : Mp) (v : Int) (k : List KC) (h : putH (mH m) [.int v] false k = true) : mV m k = mV (dlM v m) k := by
 unfold putH at h
 split at h
 ·cases h
 ·rename_i hne
  unfold mV
  split
  ·rename_i x
   have : x ≠ v := fun e => hne (by rw [e])
   show A.agg [.int .i64 ((m x).getD (0, 0)).1, .int .i64 ((m x).getD (0, 0)).2] = A.agg [.int .i64 ((if x = v then none else m x).getD (0, 0)).1, .int .i64 ((if x = v then none else m x).getD (0, 0)).2]
   rw [if_neg this]
  ·rfl
theorem grid_del {n : Nat} {ini : Nat → Nat} {i0 : Nat} (v : Int) (h0 : ini i0 = 1) {f f' : Int → Mp} (hne : ∀ i : Nat, i ≠ i0 → f' (i : Int) = f (i : Int)) (he : f' i0 = dlM v (f i0)) :
  ∀ i, i < n → ini i ≤ 1 → updN ini i0 1 i = ini i ∧ (ini i = 1 → (∀ k, updN (fun i => mH (f i)) i0 (putH (mH (f i0)) [.int v] false) i k = (fun (i : Nat) => mH (f' i)) i k) ∧ ∀ k, updN (fun i => mH (f i)) i0 (putH (mH (f i0)) [.int v] false) i k = true → updN (fun i => mV (f i)) i0 (mV (f i0)) i k = (fun (i : Nat) => mV (f' i)) i k) := by
 intro i _ _
 unfold updN
 by_cases e : i = i0
 ·subst e
  simp only [↓reduceIte, he]
  exact ⟨h0.symm, fun _ => ⟨fun k => del_mH _ _ k, fun k hk => del_mV _ _ k hk⟩⟩
 ·simp only [if_neg e, hne i e]
  exact ⟨trivial, fun _ => ⟨fun _ => trivial, fun _ _ => trivial⟩⟩
theorem nH_snoc (S : List Int) (u : Int) (k : List KC) : putH (nH S) [.int u] true k = nH (S ++ [u]) k := by
 unfold putH
 split
 ·rename_i e; subst e
  exact (decide_eq_true (List.mem_append_right _ (List.mem_singleton.2 rfl))).symm
 ·rename_i hne
  unfold nH
  split
  ·rename_i x
   have : x ≠ u := fun e => hne (by rw [e])
   exact decide_eq_decide.2 (by simp [this])
  ·rfl
theorem nV_put (u : List KC) (k : List KC) : putV (fun _ => A.bool true) u (.bool true) k = A.bool true := by
 unfold putV; split <;> rfl
theorem lkR_app2 (k : Nat) (L : List Lk) (x : Lk) (hk : k = L.length) (r : Nat → List A) (hr : r 0 = [.int .i64 x.f, .int .i64 x.t, .int .i64 x.w, .int .i64 x.m]) (j : Nat) (h : j < k + 1) : rowCat k (lkR L) r j = lkR (L ++ [x]) j := by
 subst hk; exact lkR_app L x r hr j h
theorem lkO_some {o : OE} {v u : Int} (h : (o v u).isSome = true) : lkO v (o v) u = ⟨v, u, ((o v u).getD (0, 0)).1, ((o v u).getD (0, 0)).2⟩ := by
 obtain ⟨s, hs⟩ := Option.isSome_iff_exists.1 h
 unfold lkO; rw [hs]; rfl
theorem lkI_some {o : OE} {v u : Int} (h : (o u v).isSome = true) : lkI v (inM o v) u = ⟨u, v, ((o u v).getD (0, 0)).1, ((o u v).getD (0, 0)).2⟩ := by
 obtain ⟨s, hs⟩ := Option.isSome_iff_exists.1 h
 unfold lkI
 rw [show inM o v u = some s from hs, hs]; rfl
theorem fI_ne {o : OE} {v u : Int} {S : List Int} {i : Nat} (h : (i : Int) ≠ u) : fI o v (S ++ [u]) i = fI o v S i := by
 unfold fI; simp [h]
theorem fI_eq {o : OE} {v u : Int} {S : List Int} (hu : u ∉ S) (h0 : 0 ≤ u) : fI o v (S ++ [u]) (u.toNat : Int) = dlM v (fI o v S (u.toNat : Int)) := by
 rw [show ((u.toNat : Nat) : Int) = u by omega]
 unfold fI; simp [hu]
theorem fO_ne {o : OE} {v u : Int} {S : List Int} {i : Nat} (h : (i : Int) ≠ u) : fO o v (S ++ [u]) i = fO o v S i := by
 unfold fO; simp [h]
theorem fO_eq {o : OE} {v u : Int} {S : List Int} (hu : u ∉ S) (h0 : 0 ≤ u) : fO o v (S ++ [u]) (u.toNat : Int) = dlM v (fO o v S (u.toNat : Int)) := by
 rw [show ((u.toNat : Nat) : Int) = u by omega]
 unfold fO; simp [hu]
theorem nH_nil (k : List KC) : nH [] k = false := by
 unfold nH; split
 ·simp
 ·rfl
theorem kd_len {S : List Int} {keys : List (List KC)} (hks : keys.Nodup) (h : S.Nodup) (hk : ∀ u ∈ S, [KC.int u] ∈ keys) : S.length ≤ keys.length := by
 have hn : (S.map fun u => [KC.int u]).Nodup := by
  rw [List.nodup_iff_pairwise_ne, List.pairwise_map]
  exact (List.nodup_iff_pairwise_ne.1 h).imp fun h e => h (by injection e with e _; injection e)
 have hp : (S.map fun u => [KC.int u]).Perm (keys.filter fun k => decide (k ∈ S.map fun u => [KC.int u])) := by
  refine (List.perm_ext_iff_of_nodup hn (hks.filter _)).2 fun k => ?_
  rw [List.mem_filter, decide_eq_true_eq]
  constructor
  ·intro hk'
   obtain ⟨u, hu, rfl⟩ := List.mem_map.1 hk'
   exact ⟨hk u hu, hk'⟩
  ·exact fun h => h.2
 have h1 := hp.length_eq
 have h2 := List.length_filter_le (fun k => decide (k ∈ S.map fun u => [KC.int u])) keys
 rw [List.length_map] at h1
 omega
def gnU (gn : Int → Int) (U : List Int) : Int → Int := fun u => gn u + if u ∈ U then 1 else 0
theorem gnU_bd {gn : Int → Int} (h : ∀ u, 0 ≤ gn u ∧ gn u ≤ 1000) (U : List Int) (u : Int) : 0 ≤ gnU gn U u ∧ gnU gn U u ≤ 1001 := by
 have := h u
 unfold gnU; split <;> omega
theorem gnU_step (gn : Int → Int) {U : List Int} {u : Int} (hu : u ∉ U) (h0 : 0 ≤ u) (i : Nat) : updRow (fun (i : Nat) => [A.int .i64 (gnU gn U (i : Int))]) u.toNat [.int .i64 (gnU gn U (u.toNat : Int) + 1)] i = [A.int .i64 (gnU gn (U ++ [u]) (i : Int))] := by
 unfold updRow
 rw [show ((u.toNat : Nat) : Int) = u by omega]
 by_cases e : i = u.toNat
 ·rw [if_pos e, show (i : Int) = u by omega]
  unfold gnU; simp [hu]
 ·rw [if_neg e]
  unfold gnU
  have : (i : Int) ≠ u := by omega
  simp [this]
theorem grid_eq {n : Nat} {ini : Nat → Nat} {f f' : Int → Mp} (h : ∀ i : Nat, ini i ≤ 1 → f (i : Int) = f' (i : Int)) :
  ∀ i, i < n → ini i ≤ 1 → ini i = ini i ∧ (ini i = 1 → (∀ k, (fun (i : Nat) => mH (f i)) i k = (fun (i : Nat) => mH (f' i)) i k) ∧ ∀ k, (fun (i : Nat) => mH (f i)) i k = true → (fun (i : Nat) => mV (f i)) i k = (fun (i : Nat) => mV (f' i)) i k) :=
 fun i _ hi => ⟨rfl, fun _ => ⟨fun k => by simp only [h i hi], fun k _ => by simp only [h i hi]⟩⟩
theorem fO_del {o : OE} {v : Int} {T : List Int} {i : Nat} (hT : ∀ u, (o u v).isSome = true → u ∈ T) (hi : (i : Int) ≠ v) : fO o v T i = delV o v i := by
 funext b
 show (if (i : Int) ∈ T then dlM v (o i) else o i) b = if (i : Int) = v ∨ b = v then none else o i b
 by_cases h : (i : Int) ∈ T
 ·rw [if_pos h]
  show (if b = v then none else o i b) = _
  by_cases hb : b = v
  ·rw [if_pos hb, if_pos (.inr hb)]
  ·rw [if_neg hb, if_neg (by rintro (e | e); exact hi e; exact hb e)]
 ·rw [if_neg h]
  by_cases hb : b = v
  ·rw [if_pos (.inr hb), hb]
   cases hx : o i v with
   | none => rfl
   | some s => exact absurd (hT i (by rw [hx]; rfl)) h
  ·rw [if_neg (by rintro (e | e); exact hi e; exact hb e)]
theorem fI_del {o : OE} {v : Int} {S : List Int} {i : Nat} (hS : ∀ u, (o v u).isSome = true → u ∈ S) (hi : (i : Int) ≠ v) : fI o v S i = inM (delV o v) i := by
 funext a
 show (if (i : Int) ∈ S then dlM v (inM o i) else inM o i) a = if a = v ∨ (i : Int) = v then none else o a i
 by_cases h : (i : Int) ∈ S
 ·rw [if_pos h]
  show (if a = v then none else o a i) = _
  by_cases ha : a = v
  ·rw [if_pos ha, if_pos (.inl ha)]
  ·rw [if_neg ha, if_neg (by rintro (e | e); exact ha e; exact hi e)]
 ·rw [if_neg h]
  show o a i = _
  by_cases ha : a = v
  ·rw [if_pos (.inl ha), ha]
   cases hx : o v i with
   | none => rfl
   | some s => exact absurd (hS i (by rw [hx]; rfl)) h
  ·rw [if_neg (by rintro (e | e); exact ha e; exact hi e)]
theorem key_n {S : List Int} {k : List KC} (h : kOk [.int .i64] k) (hh : nH S k = true) : ∃ u, k = [.int u] ∧ u ∈ S := by
 match k, h with
 | [.int u], _ => exact ⟨u, rfl, of_decide_eq_true hh⟩
abbrev lv3 (n : Nat) (i1 i2 : Nat → Nat) (f1 f2 : Int → Mp) (gn : Int → Int) (q : List It) (k : Nat) (l : List Lk) (K : List Lk) (x : Blk) : List Blk := [.ghost [.junk, .junk, .own 9, .ref 1 0, .junk, .junk, .junk, .ref 5 0, .junk, .omap 7, .junk, .junk], .box 52 [.int .i64 (n : Int), .own 2, .own 3, .own 4, .ref 5 0, .own 8], gF n i1 f1, gF n i2 f2, .row 3 1 n (fun i => [.int .i64 (gn i)]), .box 81 [.own 6, .omap 7], .row 41 2 q.length (itR q), atB q, .row 44 4 k (lkR l), .row 44 4 K.length (lkR K), x]
theorem leave_c (n : Nat) (ini : Nat → Nat) (o : OE) (gn : Int → Int) (q : List It) (ks K : List Lk) (v : Nat) (L : Int → Prop) (B : Int) (hO : OI n L B o) (hL : ∀ u : Int, 0 ≤ u → u < n → L u → ini u.toNat = 1) (hv : v < n) (hn : n ≤ 50) (iv : ini v = 1) (hg : ∀ u, 0 ≤ gn u ∧ gn u ≤ 1000) (hkl : ks.length ≤ 100000) (hKl : K.length ≤ 100000) (hK : ∀ x ∈ K, (0 ≤ x.f ∧ x.f < n ∧ L x.f ∧ x.f ≠ v) ∧ (0 ≤ x.t ∧ x.t < n ∧ L x.t ∧ x.t ≠ v)) :
  MCalls Tryz.prog G 18 [.ref 1 0, .int .i64 (v : Int), .own 9] ((wg4 :: wkB n ini o gn q ks.length (LΦ ks)) ++ [.row 44 4 K.length (lkR K)]) (.tup [])
   ((wg4 :: wkB n (updN ini v 2) (K.foldl putM (delV o v)) (goneM gn o v) q (ks ++ keptM n o v).length (LΦ (ks ++ keptM n o v))) ++ [.row 44 4 K.length (lkR K)]) := by
 refine MCalls.of_WA ttok Tryz.func18 rfl rfl _ rfl ?_
 conv => whnf
 refine WA_openE 8 rfl fun row0 hrow => ?_
 obtain ⟨l0, hp0, hr0⟩ := hrow
 conv => whnf
 refine WA_takeG 2 v rfl hv iv ?_
 conv => whnf
 refine WA_freeze 10 ?_
 conv => whnf
 repeat' (first | refine sq ?_ | refine bk ?_ | ((first | refine rg ttok ?_ | refine dw ttok mixed ?_ | refine cd ?_ | refine sk ?_ | refine xt ?_ | refine rt ?_); conv => whnf) | (refine And.intro (fun h => ?_) (fun h => ?_) <;> (try simp only [brsA] at h) <;> conv => whnf) | ((first | refine wf ?_ | refine wp' ?_ | refine ai ?_ | refine And.intro rfl ?_ | refine an ?_ | fail); conv => whnf))
 intro keys k1 k2 k3
 conv => whnf
 refine WA_shutG 2 rfl ?_
 conv => whnf
 repeat (first | refine sq ?_ | refine bk ?_ | ((first | refine rg ttok ?_ | refine dw ttok mixed ?_ | refine cd ?_ | refine sk ?_ | refine xt ?_ | refine rt ?_); conv => whnf))
 have hm1 : ∀ u s, o v u = some s → 0 ≤ u ∧ u < n := fun u s h => by have := (hO.dom h).2.1; omega
 have hm2 : ∀ u s, inM o v u = some s → 0 ≤ u ∧ u < n := fun u s h => by have := (hO.dom (show o u v = some s from h)).1; omega
 have hll : l0.length = ks.length := hp0.length_eq
 refine WA_loopI (ι := List Int) (fun S => S.Nodup ∧ ∀ u ∈ S, (o v u).isSome = true) (fun _ => []) (fun S => lvB n (updN ini v 2) ini o (fI o v S) gn q (ks.length + S.length) (l0 ++ S.map (lkO v (o v))) K S (.mit false [.int .i64] (mH (o v)) (mV (o v)) (S.map fun u => [.int u]))) (fun S => keys.length - S.length) [] ⟨List.nodup_nil, fun u hu => by cases hu⟩ ?_ ?_
 ·conv => whnf
  repeat (first | exact fa | ((first | refine fb ?_ | (refine And.intro ?_ ?_; rotate_left)); conv => whnf))
  all_goals first
   | exact fun i _ _ => ⟨rfl, fun _ => ⟨fun _ => rfl, fun _ _ => rfl⟩⟩
   | exact fun i _ _ => ⟨rfl, fun _ => ⟨fun _ => by rw [fI_nil], fun _ _ => by rw [fI_nil]⟩⟩
   | exact Or.inl fun i hi => (hr0 i (by omega)).trans (by rw [List.map_nil, List.append_nil]; rfl)
   | exact fun k => (nH_nil k).symm
   | exact fun k h => by cases h
 ·rintro S ⟨S1, S2⟩
  have hSn : S.length ≤ n := by simpa using nd_leI n S S1 (fun u hu => by obtain ⟨s, hs⟩ := Option.isSome_iff_exists.1 (S2 u hu); exact hm1 u s hs)
  have hSk : S.length ≤ keys.length := kd_len k1 S1 fun u hu => k3 _ trivial (S2 u hu)
  conv => whnf
  refine sq ?_
  refine rg ttok ?_
  conv => whnf
  refine And.intro (fun hov => ?_) (fun key g1 g2 g3 => ?_)
  ·have hvS : (v : Int) ∉ S := fun h => by
    obtain ⟨s, hs⟩ := Option.isSome_iff_exists.1 (S2 _ h)
    exact (hO.dom hs).2.2 rfl
   have eV : fI o v S (v : Int) = inM o v := by unfold fI; rw [if_neg hvS]
   have hSa : ∀ u, (o v u).isSome = true → u ∈ S := fun u h => by
    obtain ⟨x, hx, e⟩ := List.mem_map.1 (hov [.int u] trivial h)
    injection e with e _; injection e with e; rw [← e]; exact hx
   have ini2 : ∀ {u : Int}, 0 ≤ u → u < n → L u → u ≠ v → updN ini v 2 u.toNat = 1 := fun {u} a b c d => by
    unfold updN; rw [if_neg (by omega)]; exact hL u a b c
   conv => whnf
   repeat' (first | ((refine WA_takeG (code := .region 7 _ _) 3 v rfl hv iv ?_; (conv => whnf); refine WA_freeze (code := .region 7 _ _) 13 ?_; (conv => whnf); refine rg ttok ?_; conv => whnf)) | refine sq ?_ | refine bk ?_ | ((first | refine rg ttok ?_ | refine dw ttok mixed ?_ | refine cd ?_ | refine sk ?_ | refine xt ?_ | refine rt ?_); conv => whnf) | (refine And.intro (fun h => ?_) (fun h => ?_) <;> (try simp only [brsA] at h) <;> conv => whnf) | ((first | refine wf ?_ | refine wp' ?_ | refine ai ?_ | refine And.intro rfl ?_ | refine an ?_ | fail); conv => whnf))
   intro keys2 p1 p2 p3
   rw [eV] at p2 p3
   conv => whnf
   refine WA_shutG 3 rfl ?_
   conv => whnf
   refine WA_ren [0, 1, 2, 3, 4, 5, 6, 7, 8, 9, 10, 11, 14] rfl ?_
   conv => whnf
   repeat (first | refine sq ?_ | refine bk ?_ | ((first | refine rg ttok ?_ | refine dw ttok mixed ?_ | refine cd ?_ | refine sk ?_ | refine xt ?_ | refine rt ?_); conv => whnf))
   refine WA_loopI (ι := List Int) (fun T => T.Nodup ∧ ∀ u ∈ T, (o u v).isSome = true) (fun _ => []) (fun T => lvB n (updN ini v 2) (updN ini v 2) (fO o v T) (fI o v S) gn q (ks.length + S.length + T.length) ((l0 ++ S.map (lkO v (o v))) ++ T.map (lkI v (inM o v))) K (S ++ T) (.mit false [.int .i64] (mH (fI o v S v)) (mV (fI o v S v)) (T.map fun u => [.int u]))) (fun T => keys2.length - T.length) [] ⟨List.nodup_nil, fun u hu => by cases hu⟩ ?_ ?_
   ·conv => whnf
    repeat (first | exact fa | ((first | refine fb ?_ | (refine And.intro ?_ ?_; rotate_left)); conv => whnf))
    all_goals first
     | exact fun i _ _ => ⟨rfl, fun _ => ⟨fun _ => rfl, fun _ _ => rfl⟩⟩
     | exact fun i _ _ => ⟨rfl, fun _ => ⟨fun _ => by rw [fO_nil], fun _ _ => by rw [fO_nil]⟩⟩
     | exact Or.inl fun i hi => by rw [List.map_nil, List.append_nil]
     | exact fun k => by rw [List.append_nil]
     | exact fun k h => by cases h
   ·rintro T ⟨T1, T2⟩
    have hTn : T.length ≤ n := by simpa using nd_leI n T T1 (fun u hu => by obtain ⟨s, hs⟩ := Option.isSome_iff_exists.1 (T2 u hu); exact hm2 u s hs)
    have hTk : T.length ≤ keys2.length := kd_len p1 T1 fun u hu => p3 _ trivial (T2 u hu)
    conv => whnf
    refine sq ?_
    refine rg ttok ?_
    conv => whnf
    refine And.intro (fun hov => ?_) (fun key g1 g2 g3 => ?_)
    ·have hTa : ∀ u, (o u v).isSome = true → u ∈ T := fun u h => by
      obtain ⟨x, hx, e⟩ := List.mem_map.1 (hov [.int u] trivial (by rw [eV]; exact h))
      injection e with e _; injection e with e; rw [← e]; exact hx
     have hST : ∀ u, u ∈ S ++ T → (0 ≤ u ∧ u < n) ∧ L u ∧ u ≠ v := fun u hu => by
      rcases List.mem_append.1 hu with hu | hu
      ·obtain ⟨s, hs⟩ := Option.isSome_iff_exists.1 (S2 u hu)
       have := hO.dom hs
       exact ⟨⟨this.2.1.1, this.2.1.2.1⟩, this.2.1.2.2, fun e => this.2.2 e.symm⟩
      ·obtain ⟨s, hs⟩ := Option.isSome_iff_exists.1 (T2 u hu)
       have := hO.dom hs
       exact ⟨⟨this.1.1, this.1.2.1⟩, this.1.2.2, this.2.2⟩
     conv => whnf
     repeat' (first | ((refine WA_freeze (code := .region 13 _ _) 11 ?_; (conv => whnf); refine rg ttok ?_; conv => whnf)) | refine sq ?_ | refine bk ?_ | ((first | refine rg ttok ?_ | refine dw ttok mixed ?_ | refine cd ?_ | refine sk ?_ | refine xt ?_ | refine rt ?_); conv => whnf) | (refine And.intro (fun h => ?_) (fun h => ?_) <;> (try simp only [brsA] at h) <;> conv => whnf) | ((first | refine wf ?_ | refine wp' ?_ | refine ai ?_ | refine And.intro rfl ?_ | refine an ?_ | fail); conv => whnf))
     intro keys3 r1 r2 r3
     conv => whnf
     refine WA_ren [0, 1, 2, 3, 4, 5, 6, 7, 8, 9, 13] rfl ?_
     conv => whnf
     repeat (first | refine sq ?_ | refine bk ?_ | ((first | refine rg ttok ?_ | refine dw ttok mixed ?_ | refine cd ?_ | refine sk ?_ | refine xt ?_ | refine rt ?_); conv => whnf))
     refine WA_loopI (ι := List Int) (fun U => U.Nodup ∧ ∀ u ∈ U, u ∈ S ++ T) (fun _ => []) (fun U => lv3 n (updN ini v 2) (updN ini v 2) (fO o v T) (fI o v S) (gnU gn U) q (ks.length + S.length + T.length) ((l0 ++ S.map (lkO v (o v))) ++ T.map (lkI v (inM o v))) K (.mit false [.int .i64] (nH (S ++ T)) (fun _ => .bool true) (U.map fun u => [.int u]))) (fun U => keys3.length - U.length) [] ⟨List.nodup_nil, fun u hu => by cases hu⟩ ?_ ?_
     ·conv => whnf
      repeat (first | exact fa | ((first | refine fb ?_ | (refine And.intro ?_ ?_; rotate_left)); conv => whnf))
      all_goals first
       | exact fun i _ _ => ⟨rfl, fun _ => ⟨fun _ => rfl, fun _ _ => rfl⟩⟩
       | exact Or.inl fun i hi => by simp [gnU]
     ·rintro U ⟨U1, U2⟩
      have hUk : U.length ≤ keys3.length := kd_len r1 U1 fun u hu => r3 _ trivial (decide_eq_true (U2 u hu))
      conv => whnf
      refine sq ?_
      refine rg ttok ?_
      conv => whnf
      refine And.intro (fun hov2 => ?_) (fun key g1 g2 g3 => ?_)
      ·have hUa : ∀ u, u ∈ S ++ T → u ∈ U := fun u h => by
        obtain ⟨x, hx, e⟩ := List.mem_map.1 (hov2 [.int u] trivial (decide_eq_true h))
        injection e with e _; injection e with e; rw [← e]; exact hx
       have hgn : gnU gn U = goneM gn o v := by
        funext u
        unfold gnU goneM
        by_cases hu : u ∈ U
        ·rw [if_pos hu]
         have : ((o v u).isSome || (o u v).isSome) = true := by
          rcases List.mem_append.1 (U2 u hu) with h | h
          ·rw [S2 u h]; rfl
          ·rw [T2 u h]; simp
         rw [this]
        ·rw [if_neg hu]
         have : ((o v u).isSome || (o u v).isSome) = false := by
          rw [Bool.or_eq_false_iff]
          constructor
          ·cases h : (o v u).isSome with
           | false => rfl
           | true => exact absurd (hUa u (List.mem_append_left _ (hSa u h))) hu
          ·cases h : (o u v).isSome with
           | false => rfl
           | true => exact absurd (hUa u (List.mem_append_right _ (hTa u h))) hu
         rw [this]
       rw [hgn]
       have hSp : ((l0 ++ S.map (lkO v (o v))) ++ T.map (lkI v (inM o v))).Perm (ks ++ keptM n o v) := by
        rw [List.append_assoc]
        refine hp0.append ?_
        unfold keptM
        have p1 : S.Perm (ksM n (o v)) := (List.perm_ext_iff_of_nodup S1 ((ksM_lt n (o v)).imp fun h => by omega)).2 fun u => by
         rw [ksM_mem]
         exact ⟨fun h => by obtain ⟨s, hs⟩ := Option.isSome_iff_exists.1 (S2 u h); exact ⟨(hm1 u s hs).1, (hm1 u s hs).2, S2 u h⟩, fun h => hSa u h.2.2⟩
        have p2 : T.Perm (ksM n (inM o v)) := (List.perm_ext_iff_of_nodup T1 ((ksM_lt n (inM o v)).imp fun h => by omega)).2 fun u => by
         rw [ksM_mem]
         exact ⟨fun h => by obtain ⟨s, hs⟩ := Option.isSome_iff_exists.1 (T2 u h); exact ⟨(hm2 u s hs).1, (hm2 u s hs).2, T2 u h⟩, fun h => hTa u h.2.2⟩
        have q1 := p1.map (lkO v (o v))
        have q2 := p2.map (lkI v (inM o v))
        unfold ksM at q1 q2
        rw [List.map_map] at q1 q2
        exact q1.append q2
       have hSl := hSp.length_eq
       conv => whnf
       repeat' (first | refine sq ?_ | refine bk ?_ | ((first | refine rg ttok ?_ | refine dw ttok mixed ?_ | refine cd ?_ | refine sk ?_ | refine xt ?_ | refine rt ?_); conv => whnf) | (refine And.intro (fun h => ?_) (fun h => ?_) <;> (try simp only [brsA] at h) <;> conv => whnf) | ((first | refine wf ?_ | refine wp' ?_ | refine ai ?_ | refine And.intro rfl ?_ | refine an ?_ | fail); conv => whnf))
       refine WA_loopI (ι := Nat) (fun j => j ≤ K.length) (fun j => [(110, .int .i64 (j : Int)), (94, .junk), (18, .junk), (20, .junk), (57, .junk), (59, .junk)]) (fun j => (wg4 :: wkB n (updN ini v 2) ((K.take j).foldl putM (delV o v)) (goneM gn o v) q (ks ++ keptM n o v).length (LΦ (ks ++ keptM n o v))) ++ [.row 44 4 K.length (lkR K)]) (fun j => K.length - j) 0 (Nat.zero_le _) ?_ ?_
       ·conv => whnf
        repeat (first | exact fa | ((first | refine fb ?_ | (refine And.intro ?_ ?_; rotate_left)); conv => whnf))
        all_goals first
         | exact grid_eq (f := fO o v T) (f' := delV o v) fun i hi => fO_del (fun u h => hTa u h) (fun e => by unfold updN at hi; rw [if_pos (by omega)] at hi; omega)
         | exact grid_eq (f := fI o v S) (f' := inM (delV o v)) fun i hi => fI_del (fun u h => hSa u h) (fun e => by unfold updN at hi; rw [if_pos (by omega)] at hi; omega)
         | (rw [← hSl]; simp; omega)
         | exact ⟨_, ⟨_, hSp, fun i _ => rfl⟩, fun i _ => rfl⟩
        
       ·intro j hj
        have hj : j ≤ K.length := hj
        have hp : j < K.length → MCalls Tryz.prog G 32 [.ref 1 0, .agg [.int .i64 (K.getD j default).f, .int .i64 (K.getD j default).t, .int .i64 (K.getD j default).w, .int .i64 (K.getD j default).m]] (wg2 :: wkB n (updN ini v 2) ((K.take j).foldl putM (delV o v)) (goneM gn o v) q (ks ++ keptM n o v).length (LΦ (ks ++ keptM n o v))) (.tup []) (wg2 :: wkB n (updN ini v 2) ((K.take (j + 1)).foldl putM (delV o v)) (goneM gn o v) q (ks ++ keptM n o v).length (LΦ (ks ++ keptM n o v))) := fun h => by
         have hm : K.getD j default ∈ K := by rw [List.getD_eq_getElem?_getD, List.getElem?_eq_getElem h]; exact List.getElem_mem h
         obtain ⟨⟨f1, f2, f3, f4⟩, t1, t2, t3, t4⟩ := hK _ hm
         have := put_c (G := G) n (updN ini v 2) ((K.take j).foldl putM (delV o v)) (goneM gn o v) q (ks ++ keptM n o v).length (LΦ (ks ++ keptM n o v)) (K.getD j default).f.toNat (K.getD j default).t.toNat (K.getD j default).w (K.getD j default).m (by omega) (by omega) (ini2 f1 f2 f3 f4) (ini2 t1 t2 t3 t4) hn
         rw [show (((K.getD j default).f.toNat : Nat) : Int) = (K.getD j default).f by omega, show (((K.getD j default).t.toNat : Nat) : Int) = (K.getD j default).t by omega] at this
         rw [List.take_add_one, List.foldl_append, List.getElem?_eq_getElem h]
         rw [List.getD_eq_getElem?_getD, List.getElem?_eq_getElem h] at this ⊢
         exact this
        conv => whnf
        repeat' (first | refine sq ?_ | refine bk ?_ | ((first | refine rg ttok ?_ | refine dw ttok mixed ?_ | refine cd ?_ | refine sk ?_ | refine xt ?_ | refine rt ?_); conv => whnf) | (refine And.intro (fun h => ?_) (fun h => ?_) <;> (try simp only [brsA] at h) <;> conv => whnf) | (refine Or.inr (Or.inl ?_); (conv => whnf); refine ⟨_, _, (hp (by omega)), ?_⟩; conv => whnf) | ((first | refine wf ?_ | refine wp' ?_ | refine ai ?_ | refine And.intro rfl ?_ | refine an ?_ | fail); conv => whnf))
        ·refine ⟨j + 1, (by show j + 1 ≤ K.length; omega), (by show K.length - (j + 1) < K.length - j; omega), ?_⟩
         conv => whnf
         repeat (first | exact fa | ((first | refine fb ?_ | (refine And.intro ?_ ?_; rotate_left)); conv => whnf))
         all_goals first
          | exact fun row h => h
          | exact fun i _ _ => ⟨rfl, fun _ => ⟨fun _ => rfl, fun _ _ => rfl⟩⟩
         
        ·have e : j = K.length := by omega
         subst e
         rw [List.take_length]
         repeat (first | exact fa | ((first | refine fb ?_ | (refine And.intro ?_ ?_; rotate_left)); conv => whnf))
         all_goals first
          | exact fun row h => h
          | exact fun i _ _ => ⟨rfl, fun _ => ⟨fun _ => rfl, fun _ _ => rfl⟩⟩
         
      ·obtain ⟨u, rfl, huST⟩ := key_n g1 g2
       have huU : u ∉ U := fun h => g3 (List.mem_map.2 ⟨u, h, rfl⟩)
       have hur := hST u huST
       have hgu := gnU_bd hg U (u.toNat : Int)
       conv => whnf
       repeat' (first | ((rw [last_key]; conv => whnf)) | refine sq ?_ | refine bk ?_ | ((first | refine rg ttok ?_ | refine dw ttok mixed ?_ | refine cd ?_ | refine sk ?_ | refine xt ?_ | refine rt ?_); conv => whnf) | (refine And.intro (fun h => ?_) (fun h => ?_) <;> (try simp only [brsA] at h) <;> conv => whnf) | ((first | refine wf ?_ | refine wp' ?_ | refine ai ?_ | refine And.intro rfl ?_ | refine an ?_ | fail); conv => whnf))
       refine ⟨U ++ [u], ⟨nodup_snoc U1 huU, fun x hx => ?_⟩, ?_, ?_⟩
       ·rcases List.mem_append.1 hx with hx | hx
        ·exact U2 x hx
        ·rw [List.mem_singleton] at hx; subst hx; exact huST
       ·have := kd_len r1 (nodup_snoc U1 huU) fun x hx => r3 [.int x] trivial (decide_eq_true (by
         rcases List.mem_append.1 hx with hx | hx
         ·exact U2 x hx
         ·rw [List.mem_singleton] at hx; subst hx; exact huST))
        show keys3.length - (U ++ [u]).length < keys3.length - U.length
        simp at this ⊢
        omega
       ·conv => whnf
        repeat (first | exact fa | ((first | refine fb ?_ | (refine And.intro ?_ ?_; rotate_left)); conv => whnf))
        all_goals first
         | exact fun i _ _ => ⟨rfl, fun _ => ⟨fun _ => rfl, fun _ _ => rfl⟩⟩
         | (simp; done)
         | exact Or.inl fun i hi => gnU_step gn huU hur.1.1 i
        
    ·rw [eV] at g2
     obtain ⟨u, rfl, u0, un, us⟩ := key_u hm2 g1 g2
     have us : (o u v).isSome = true := us
     have huT : u ∉ T := fun h => g3 (List.mem_map.2 ⟨u, h, rfl⟩)
     conv => whnf
     obtain ⟨s, hs⟩ := Option.isSome_iff_exists.1 us
     have hd := hO.dom hs
     have hun : u.toNat < n := by omega
     have hiu : updN ini v 2 u.toNat = 1 := ini2 hd.1.1 hd.1.2.1 hd.1.2.2 hd.2.2
     clear hs
     repeat' (first | ((rw [last_key]; conv => whnf)) | ((refine WA_renR (id := 11) 16 [0, 1, 2, 3, 4, 5, 6, 7, 15, 9, 10, 11, 12] rfl rfl ?_; (conv => whnf); refine WA_takeG (code := .region 11 _ _) 2 u.toNat rfl hun hiu ?_; (conv => whnf); refine rg ttok ?_; conv => whnf)) | ((refine WA_backG (code := .region 12 _ _) 2 13 rfl rfl rfl hun ?_; (conv => whnf); refine rg ttok ?_; conv => whnf)) | refine sq ?_ | refine bk ?_ | ((first | refine rg ttok ?_ | refine dw ttok mixed ?_ | refine cd ?_ | refine sk ?_ | refine xt ?_ | refine rt ?_); conv => whnf) | (refine And.intro (fun h => ?_) (fun h => ?_) <;> (try simp only [brsA] at h) <;> conv => whnf) | ((first | refine wf ?_ | refine wp' ?_ | refine ai ?_ | refine And.intro rfl ?_ | refine an ?_ | fail); conv => whnf))
     refine ⟨T ++ [u], ⟨nodup_snoc T1 huT, fun x hx => ?_⟩, ?_, ?_⟩
     ·rcases List.mem_append.1 hx with hx | hx
      ·exact T2 x hx
      ·rw [List.mem_singleton] at hx; subst hx; exact us
     ·have := kd_len p1 (nodup_snoc T1 huT) fun x hx => p3 [.int x] trivial (by
       rcases List.mem_append.1 hx with hx | hx
       ·exact T2 x hx
       ·rw [List.mem_singleton] at hx; subst hx; exact us)
      show keys2.length - (T ++ [u]).length < keys2.length - T.length
      simp at this ⊢
      omega
     ·conv => whnf
      repeat (first | exact fa | ((first | refine fb ?_ | (refine And.intro ?_ ?_; rotate_left)); conv => whnf))
      all_goals first
       | exact fun i _ _ => ⟨rfl, fun _ => ⟨fun _ => rfl, fun _ _ => rfl⟩⟩
       | exact grid_del (f := fO o v T) (f' := fO o v (T ++ [u])) v hiu (fun i hi => fO_ne (by omega)) (fO_eq huT u0)
       | exact fun k => (nH_snoc (S ++ T) u k).trans (by rw [List.append_assoc])
       | exact fun k _ => nV_put _ k
       | (simp; done)
       | (simp; omega)
       | (refine Or.inl fun j hj => ?_; rw [List.map_append, ← List.append_assoc]; exact lkR_app2 _ _ _ (by simp [hll]; omega) _ (by rw [lkI_some us, eV]; rfl) j hj)
      
  ·obtain ⟨u, rfl, u0, un, us⟩ := key_u hm1 g1 g2
   have huS : u ∉ S := fun h => g3 (List.mem_map.2 ⟨u, h, rfl⟩)
   conv => whnf
   obtain ⟨s, hs⟩ := Option.isSome_iff_exists.1 us
   have hd := hO.dom hs
   have hun : u.toNat < n := by omega
   have hiu : ini u.toNat = 1 := hL u hd.2.1.1 hd.2.1.2.1 hd.2.1.2.2
   clear hs
   repeat' (first | ((rw [last_key]; conv => whnf)) | ((refine WA_renR (id := 5) 16 [0, 1, 2, 3, 4, 5, 6, 7, 15, 9, 10, 11, 12] rfl rfl ?_; (conv => whnf); refine WA_takeG (code := .region 5 _ _) 3 u.toNat rfl hun hiu ?_; (conv => whnf); refine rg ttok ?_; conv => whnf)) | ((refine WA_backG (code := .region 6 _ _) 3 13 rfl rfl rfl hun ?_; (conv => whnf); refine rg ttok ?_; conv => whnf)) | refine sq ?_ | refine bk ?_ | ((first | refine rg ttok ?_ | refine dw ttok mixed ?_ | refine cd ?_ | refine sk ?_ | refine xt ?_ | refine rt ?_); conv => whnf) | (refine And.intro (fun h => ?_) (fun h => ?_) <;> (try simp only [brsA] at h) <;> conv => whnf) | ((first | refine wf ?_ | refine wp' ?_ | refine ai ?_ | refine And.intro rfl ?_ | refine an ?_ | fail); conv => whnf))
   refine ⟨S ++ [u], ⟨nodup_snoc S1 huS, fun x hx => ?_⟩, ?_, ?_⟩
   ·rcases List.mem_append.1 hx with hx | hx
    ·exact S2 x hx
    ·rw [List.mem_singleton] at hx; subst hx; exact us
   ·have := kd_len k1 (nodup_snoc S1 huS) fun x hx => k3 [.int x] trivial (by
     rcases List.mem_append.1 hx with hx | hx
     ·exact S2 x hx
     ·rw [List.mem_singleton] at hx; subst hx; exact us)
    show keys.length - (S ++ [u]).length < keys.length - S.length
    simp at this ⊢
    omega
   ·conv => whnf
    repeat (first | exact fa | ((first | refine fb ?_ | (refine And.intro ?_ ?_; rotate_left)); conv => whnf))
    all_goals first
     | exact fun i _ _ => ⟨rfl, fun _ => ⟨fun _ => rfl, fun _ _ => rfl⟩⟩
     | exact grid_del (f := fI o v S) (f' := fI o v (S ++ [u])) v hiu (fun i hi => fI_ne (by omega)) (fI_eq huS u0)
     | exact fun k => nH_snoc S u k
     | exact fun k _ => nV_put _ k
     | (simp; done)
     | (simp; omega)
     | (refine Or.inl fun j hj => ?_; rw [List.map_append, ← List.append_assoc]; exact lkR_app2 _ _ _ (by simp [hll]) _ (by rw [lkO_some us]; rfl) j hj)
    
end Go.Proofs.YtnkbkfjgbejhfaaGreat
namespace Go.Proofs.YtnkbkfjgbejhfaaGreat
open Go.Proofs.YtnkbkfjgbejhfaaGreat.Am Go.HeapL
open Go.Proofs Go.Shelf Go.Sort
/-! ### Links in order -/
def cfK (a b : Lk) : Int := firstNZ [cmpI a.f b.f, cmpI a.t b.t]
theorem cfK_lt {a b : Lk} : ltOf cfK a b = true ↔ (a.f < b.f ∨ (a.f = b.f ∧ a.t < b.t)) := by
 unfold ltOf cfK
 rw [decide_eq_true_iff]
 simp only [firstNZ, cmpI]
 split <;> (try split) <;> (try split) <;> (try split) <;> omega
theorem swo_K : SWO (ltOf cfK) := by
 have e' : ∀ a b, ltOf cfK a b = false ↔ ¬ (a.f < b.f ∨ (a.f = b.f ∧ a.t < b.t)) := fun a b => by
  rw [← cfK_lt]; simp
 refine ⟨fun x => ?_, fun x y z h1 h2 => ?_, fun x y z h1 h2 => ?_⟩
 ·rw [e']; omega
 ·rw [cfK_lt] at *; omega
 ·rw [e'] at *; omega
section
variable [Inhabited DRT]
variable {G : GInv}
theorem border_c (x y : Lk) : ACalls Tryz.prog G 20 [.agg (lkA x), .agg (lkA y)] (.int .i64 (cfK x y)) := by
 refine ACalls.of_WA ttok Tryz.func20 rfl rfl _ rfl ?_
 conv => whnf
 repeat' (first | refine sq ?_ | refine bk ?_ | ((first | refine rg ttok ?_ | refine dw ttok mixed ?_ | refine cd ?_ | refine sk ?_ | refine xt ?_ | refine rt ?_); conv => whnf) | (refine And.intro (fun h => ?_) (fun h => ?_) <;> (try simp only [brsA] at h) <;> conv => whnf) | ((first | refine wf ?_ | refine wp' ?_ | refine ai ?_ | refine And.intro rfl ?_ | refine an ?_ | fail); conv => whnf))
 repeat' (first | refine sq ?_ | refine bk ?_ | ((first | refine rg ttok ?_ | refine dw ttok mixed ?_ | refine cd ?_ | refine sk ?_ | refine xt ?_ | refine rt ?_); conv => whnf) | (refine And.intro (fun h => ?_) (fun h => ?_) <;> (try simp only [brsA] at h) <;> conv => whnf) | (refine Or.inl ?_; (conv => whnf); refine ⟨_, compare_c _ _, ?_⟩; conv => whnf) | ((first | refine wf ?_ | refine wp' ?_ | refine ai ?_ | refine And.intro rfl ?_ | refine an ?_ | fail); conv => whnf))
 refine Or.inl ?_
 conv => whnf
 refine ⟨_, (or_c [cmpI x.f y.f, cmpI x.t y.t] (by simp)).fit ?_, rfl, ?_⟩
 ·conv => whnf
  refine ⟨rfl, Or.inl fun i hi => ?_⟩
  match i, hi with
  | 0, _ => rfl
  | 1, _ => rfl
 ·conv => whnf
  repeat' (first | refine sq ?_ | refine bk ?_ | ((first | refine rg ttok ?_ | refine dw ttok mixed ?_ | refine cd ?_ | refine sk ?_ | refine xt ?_ | refine rt ?_); conv => whnf) | (refine And.intro (fun h => ?_) (fun h => ?_) <;> (try simp only [brsA] at h) <;> conv => whnf) | ((first | refine wf ?_ | refine wp' ?_ | refine ai ?_ | refine And.intro rfl ?_ | refine an ?_ | fail); conv => whnf))
  rfl
theorem lenz64_0 : ACalls Tryz.prog G 70 [.int .u64 0] (.int .i64 0) := by
 refine ACalls.of_WA ttok Tryz.func70 rfl rfl _ rfl ?_
 conv => whnf
 repeat' (first | refine sq ?_ | refine bk ?_ | ((first | refine rg ttok ?_ | refine dw ttok mixed ?_ | refine cd ?_ | refine sk ?_ | refine xt ?_ | refine rt ?_); conv => whnf) | (refine And.intro (fun h => ?_) (fun h => ?_) <;> (try simp only [brsA] at h) <;> conv => whnf) | ((first | refine wf ?_ | refine wp' ?_ | refine ai ?_ | refine And.intro rfl ?_ | refine an ?_ | fail); conv => whnf))
 all_goals first | (exfalso; omega) | skip
 all_goals first | decide | rfl
theorem lenz_0 : ACalls Tryz.prog G 40 [.int .u64 0] (.int .i64 0) := by
 refine ACalls.of_WA ttok Tryz.func40 rfl rfl _ rfl ?_
 conv => whnf
 repeat' (first | refine sq ?_ | refine bk ?_ | ((first | refine rg ttok ?_ | refine dw ttok mixed ?_ | refine cd ?_ | refine sk ?_ | refine xt ?_ | refine rt ?_); conv => whnf) | (refine And.intro (fun h => ?_) (fun h => ?_) <;> (try simp only [brsA] at h) <;> conv => whnf) | (refine Or.inl ?_; (conv => whnf); refine ⟨_, lenz64_0, ?_⟩; conv => whnf) | ((first | refine wf ?_ | refine wp' ?_ | refine ai ?_ | refine And.intro rfl ?_ | refine an ?_ | fail); conv => whnf))
 all_goals first | (exfalso; omega) | skip
theorem insLk_0 (row : Nat → List A) : ACalls Tryz.prog G 61 [.sl 0 4 row, .int .i64 0, .int .i64 0, .fn 20 []] (.tup []) := by
 refine ACalls.of_WA ttok Tryz.func61 rfl rfl _ rfl ?_
 conv => whnf
 repeat' (first | refine sq ?_ | refine bk ?_ | ((first | refine rg ttok ?_ | refine dw ttok mixed ?_ | refine cd ?_ | refine sk ?_ | refine xt ?_ | refine rt ?_); conv => whnf) | (refine And.intro (fun h => ?_) (fun h => ?_) <;> (try simp only [brsA] at h) <;> conv => whnf) | ((first | refine wf ?_ | refine wp' ?_ | refine ai ?_ | refine And.intro rfl ?_ | refine an ?_ | fail); conv => whnf))
 refine WA_loopI (fun _ : Nat => True) (fun _ => [(8, .int .i64 1)]) (fun _ => []) (fun _ => 0) 0 trivial ?_ ?_
 ·conv => whnf
  repeat (first | exact fa | ((first | refine fb ?_ | (refine And.intro ?_ ?_; rotate_left)); conv => whnf))
 ·intro i _
  conv => whnf
  repeat' (first | refine sq ?_ | refine bk ?_ | ((first | refine rg ttok ?_ | refine dw ttok mixed ?_ | refine cd ?_ | refine sk ?_ | refine xt ?_ | refine rt ?_); conv => whnf) | (refine And.intro (fun h => ?_) (fun h => ?_) <;> (try simp only [brsA] at h) <;> conv => whnf) | ((first | refine wf ?_ | refine wp' ?_ | refine ai ?_ | refine And.intro rfl ?_ | refine an ?_ | fail); conv => whnf))
  all_goals first | trivial | (exfalso; omega)
theorem pdqLk_0 (row : Nat → List A) : ACalls Tryz.prog G 39 [.sl 0 4 row, .int .i64 0, .int .i64 0, .int .i64 0, .fn 20 []] (.tup []) := by
 refine ACalls.of_WA ttok Tryz.func39 rfl rfl _ rfl ?_
 conv => whnf
 repeat (first | refine sq ?_ | refine bk ?_ | ((first | refine rg ttok ?_ | refine dw ttok mixed ?_ | refine cd ?_ | refine sk ?_ | refine xt ?_ | refine rt ?_); conv => whnf))
 refine WA_loopI (fun _ : Nat => True) (fun _ => [(1, .int .i64 0), (2, .int .i64 0), (3, .int .i64 0)]) (fun _ => []) (fun _ => 0) 0 trivial ?_ ?_
 ·conv => whnf
  repeat (first | exact fa | ((first | refine fb ?_ | (refine And.intro ?_ ?_; rotate_left)); conv => whnf))
 ·intro i _
  have hi := insLk_0 (G := G) row
  conv => whnf
  repeat' (first | refine sq ?_ | refine bk ?_ | ((first | refine rg ttok ?_ | refine dw ttok mixed ?_ | refine cd ?_ | refine sk ?_ | refine xt ?_ | refine rt ?_); conv => whnf) | (refine And.intro (fun h => ?_) (fun h => ?_) <;> (try simp only [brsA] at h) <;> conv => whnf) | (refine Or.inl ?_; (conv => whnf); refine ⟨_, hi, ?_⟩; conv => whnf) | ((first | refine wf ?_ | refine wp' ?_ | refine ai ?_ | refine And.intro rfl ?_ | refine an ?_ | fail); conv => whnf))
  all_goals first | trivial | (exact absurd trivial h) | (exact absurd h (by decide))
theorem sortLk_0 (row : Nat → List A) : ACalls Tryz.prog G 19 [.sl 0 4 row, .fn 20 []] (.tup []) := by
 refine ACalls.of_WA ttok Tryz.func19 rfl rfl _ rfl ?_
 have hi := pdqLk_0 (G := G) row
 conv => whnf
 repeat' (first | refine sq ?_ | refine bk ?_ | ((first | refine rg ttok ?_ | refine dw ttok mixed ?_ | refine cd ?_ | refine sk ?_ | refine xt ?_ | refine rt ?_); conv => whnf) | (refine And.intro (fun h => ?_) (fun h => ?_) <;> (try simp only [brsA] at h) <;> conv => whnf) | (refine Or.inl ?_; (conv => whnf); (first | refine ⟨_, lenz_0, ?_⟩ | refine ⟨_, hi, ?_⟩); conv => whnf) | ((first | refine wf ?_ | refine wp' ?_ | refine ai ?_ | refine And.intro rfl ?_ | refine an ?_ | fail); conv => whnf))
 all_goals trivial
end
theorem sortLk_f {G : GInv} (l : List Lk) (hl : l.length ≤ 1000000) (h0 : 0 < l.length) :
  @MCalls drF Tryz.prog G 19 [.own 1, .fn 20 []] [.ghost [.own 1, .junk, .junk], .row 44 4 l.length (lkR l)] (.tup []) [.ghost [.own 1, .junk, .junk], .row 44 4 l.length (lkR (srt cfK l))] :=
 @MCalls.sortFunc drF Tryz.prog Tryz.laySortLk_ren G Lk _ (fun h => h) Tryz.laySortLk 4 (by decide) (fun w => Tryz.isAgg44 w) (fun w => Tryz.sizeOf44 w) (fun x => [x.f, x.t, x.w, x.m]) (fun _ => rfl) cfK swo_K 20 [] rfl
  (fun x y => @border_c drF G x y) ⟨_, _, Tryz.func19, rfl, rfl⟩ 44 l hl h0
theorem sortLk_c [Inhabited DRT] {G : GInv} (hns : (default : DRT).ns) (k : Nat) (row : Nat → List A) (l : List Lk) (hk : k = l.length) (hr : ∀ i, i < k → row i = lkR l i) (hl : l.length ≤ 1000000) (h0 : 0 < l.length) :
  MCalls Tryz.prog G 19 [.own 1, .fn 20 []] [.ghost [.own 1, .junk, .junk], .row 44 4 k row] (.tup []) [.ghost [.own 1, .junk, .junk], .row 44 4 k (lkR (srt cfK l))] := by
 subst hk
 refine MCalls.fit (mcalls_lift hns (sortLk_f l hl h0)) rfl ?_
 conv => whnf
 repeat (first | exact fa | ((first | refine fb ?_ | (refine And.intro ?_ ?_; rotate_left)); conv => whnf))
 exact Or.inl hr
end Go.Proofs.YtnkbkfjgbejhfaaGreat
namespace Go.Proofs.YtnkbkfjgbejhfaaGreat
open Go.Proofs.YtnkbkfjgbejhfaaGreat.Am Go.HeapL
open Go.Proofs Go.Shelf Go.Sort
variable [Inhabited DRT]
variable {G : GInv}
/-! ### The hierarchy of a graph -/
def lsB (g : Gr) : List Lk := srt cfK (ofB g).ks
abbrev ofL (g : Gr) (ini : Nat → Nat) (o : OE) (gn : Int → Int) (q : List It) (k : Nat) (Φ : (Nat → List A) → Prop) : List Blk := [.box 24 [intsA g.st, intsA g.hd, intsA g.wt], .box 32 [.nils, .nils], .box 52 [.int .i64 (g.n : Int), .own 3, .own 4, .own 5, .ref 6 0, .own 9], gB g.n ini o, gB g.n ini (inM o), .row 3 1 g.n (fun i => [.int .i64 (gn i)]), .box 81 [.own 7, .omap 8], .row 41 2 q.length (itR q), atB q, .rowE 44 4 k Φ]
theorem pow_bd {n i : Nat} (hn : n ≤ 28) (hi : i ≤ n) : (2147483648 : Int) * 2 ^ i ≤ mxC := by
 have h2 : (2 : Nat) ^ i ≤ 2 ^ 28 := Nat.pow_le_pow_right (by omega) (by omega)
 have e : ((2 ^ i : Nat) : Int) = (2 : Int) ^ i := by simp
 have h3 : (2 : Nat) ^ 28 = 268435456 := by decide
 unfold mxC
 omega
theorem rk0_at (g : Gr) (j : Nat) : (b0 g).rk.getD j 0 = 0 := by
 show (List.replicate g.n (0 : Int)).getD j 0 = 0
 rw [List.getD_eq_getElem?_getD, List.getElem?_replicate]
 split <;> rfl
theorem rk_step {rk : List Int} {v : Int} {i : Int} (hv : v.toNat < rk.length) (j : Nat) : updRow (fun j => [A.int .i64 (rk.getD j 0)]) v.toNat [.int .i64 i] j = [A.int .i64 ((rk.set v.toNat i).getD j 0)] := by
 rw [getD_set hv]
 unfold updRow
 split <;> rfl
theorem srt_uniq {l ks : List Lk} (hp : l.Perm ks) (hn : (ks.map fun x => (x.f, x.t)).Nodup) : srt cfK l = srt cfK ks := by
 obtain ⟨a1, a2⟩ := srt_facts cfK swo_K l
 obtain ⟨b1, b2⟩ := srt_facts cfK swo_K ks
 have pw : ∀ m : List Lk, (∀ i j, i < j → j < m.length → ltOf cfK (m.getD j default) (m.getD i default) = false) → m.Pairwise fun x y => ltOf cfK y x = false := fun m h => by
  rw [List.pairwise_iff_getElem]
  intro i j hi hj hij
  have := h i j hij hj
  rw [List.getD_eq_getElem?_getD, List.getD_eq_getElem?_getD, List.getElem?_eq_getElem hi, List.getElem?_eq_getElem hj] at this
  exact this
 refine List.Perm.eq_of_pairwise (le := fun x y => ltOf cfK y x = false) (fun x y hx hy h1 h2 => ?_) (pw _ (by rw [a1.length_eq]; exact a2)) (pw _ (by rw [b1.length_eq]; exact b2)) ((a1.trans hp).trans b1.symm)
 have hx : x ∈ ks := hp.mem_iff.1 (a1.mem_iff.1 hx)
 have hy : y ∈ ks := b1.mem_iff.1 hy
 have n1 : ¬ (y.f < x.f ∨ (y.f = x.f ∧ y.t < x.t)) := fun h => by rw [cfK_lt.2 h] at h1; cases h1
 have n2 : ¬ (x.f < y.f ∨ (x.f = y.f ∧ x.t < y.t)) := fun h => by rw [cfK_lt.2 h] at h2; cases h2
 have e : (x.f, x.t) = (y.f, y.t) := by rw [show x.f = y.f by omega, show x.t = y.t by omega]
 rw [List.nodup_iff_pairwise_ne, List.pairwise_map, List.pairwise_iff_getElem] at hn
 obtain ⟨i, hi, rfl⟩ := List.getElem_of_mem hx
 obtain ⟨j, hj, rfl⟩ := List.getElem_of_mem hy
 rcases Nat.lt_trichotomy i j with h | h | h
 ·exact absurd e (hn i j hi hj h)
 ·subst h; rfl
 ·exact absurd e.symm (hn j i hj hi h)
theorem of_ok (hns : (default : DRT).ns) (g : Gr) (hg : GMay g) (hn : g.n ≤ 28) :
  ACalls Tryz.prog G 7 [gA g] (.tup [.agg [intsA (ofB g).rk, lksA (lsB g)], .int .i64 0]) := by
 obtain ⟨h1, h2, h3, h4, h5, h6⟩ := hg.1
 have hm := amay_c (G := G) g (by omega) (by omega) (by omega)
 have hb := begin_c (G := G) g hg (by omega)
 have hok := hg.ok
 refine ACalls.of_WA ttok Tryz.func7 rfl rfl _ rfl ?_
 conv => whnf
 repeat' (first | (exact absurd hg h) | refine sq ?_ | refine bk ?_ | ((first | refine rg ttok ?_ | refine dw ttok mixed ?_ | refine cd ?_ | refine sk ?_ | refine xt ?_ | refine rt ?_); conv => whnf) | (refine And.intro (fun h => ?_) (fun h => ?_) <;> (try simp only [brsA] at h) <;> conv => whnf) | (refine Or.inl ?_; (conv => whnf); refine ⟨_, hm, ?_⟩; conv => whnf) | ((first | refine Or.inr (Or.inr (Or.inr ?_)) | refine Or.inr ?_); (conv => whnf); refine ⟨_, _, hb, ?_⟩; conv => whnf) | ((first | refine wf ?_ | refine wp' ?_ | refine ai ?_ | refine And.intro rfl ?_ | refine an ?_ | fail); conv => whnf))
 clear h
 have hO0 : OI g.n (fun _ => True) 2147483648 (oP g g.hd.length) := oP_OI hok _ fun _ _ _ => trivial
 refine WA_loopI (ι := Nat) (fun v => v ≤ g.n) (fun v => [(23, .int .i64 (v : Int))]) (fun v => ofL g (fun _ => 1) (oP g g.hd.length) (fun _ => 0) (q0 g.n (oP g g.hd.length) v) 0 (LΦ [])) (fun v => g.n - v) 0 (Nat.zero_le _) ?_ ?_
 ·conv => whnf
  repeat (first | exact fa | ((first | refine fb ?_ | (refine And.intro ?_ ?_; rotate_left)); conv => whnf))
  all_goals first
   | exact fun row h => h
   | exact fun i _ _ => ⟨rfl, fun _ => ⟨fun _ => rfl, fun _ _ => rfl⟩⟩
  
 ·intro v hv
  have hv : v ≤ g.n := hv
  obtain ⟨c1, c2, c3, c4⟩ := q0_ok g.n (oP g g.hd.length) v
  have p1 := fun h => prioH_c (G := G) hns g.n (fun _ => True) 2147483648 (fun _ => 1) (oP g g.hd.length) (fun _ => 0) (q0 g.n (oP g g.hd.length) v) 0 (LΦ []) hO0 (by unfold mxC; omega) (by omega) (fun _ _ _ _ => rfl) (fun _ => ⟨Int.le_refl _, by omega⟩) (v : Int) h
  have p2 := wset_c (G := G) (q0 g.n (oP g g.hd.length) v) (prM g.n (oP g g.hd.length) (fun _ => 0) v, v) c2 (by omega)
  conv => whnf
  repeat' (first | refine sq ?_ | refine bk ?_ | ((first | refine rg ttok ?_ | refine dw ttok mixed ?_ | refine cd ?_ | refine sk ?_ | refine xt ?_ | refine rt ?_); conv => whnf) | (refine And.intro (fun h => ?_) (fun h => ?_) <;> (try simp only [brsA] at h) <;> conv => whnf) | (refine Or.inr (Or.inl ?_); (conv => whnf); (first | refine ⟨_, _, (p1 ⟨by omega, by omega, trivial⟩), ?_⟩ | refine ⟨_, _, p2, ?_⟩); conv => whnf) | ((first | refine wf ?_ | refine wp' ?_ | refine ai ?_ | refine And.intro rfl ?_ | refine an ?_ | fail); conv => whnf))
  ·refine ⟨v + 1, (by show v + 1 ≤ g.n; omega), (by show g.n - (v + 1) < g.n - v; omega), ?_⟩
   conv => whnf
   repeat (first | exact fa | ((first | refine fb ?_ | (refine And.intro ?_ ?_; rotate_left)); conv => whnf))
   all_goals first
    | exact fun row h => h
    | exact fun i _ _ => ⟨rfl, fun _ => ⟨fun _ => rfl, fun _ _ => rfl⟩⟩
   
  ·have e : v = g.n := by omega
   subst e
   refine WA_loopI (ι := Nat × (Nat → Nat) × BS) (fun x => x.1 ≤ g.n ∧ (∀ u : Int, 0 ≤ u → u < g.n → hasL x.2.2.q u = true → x.2.1 u.toNat = 1) ∧ x.2.2 = itrB g.n (b0 g) x.1) (fun x => match x with | (i, _, _) => [(51, .int .i64 (i : Int))]) (fun x => match x with | (i, ini, S) => ofL g ini S.o S.gn S.q S.ks.length (LΦ S.ks) ++ [.row 3 1 g.n (fun j => [.int .i64 (S.rk.getD j 0)]), .box 32 [.own 10, .nils]]) (fun x => g.n - x.1) (0, (fun _ => 1), b0 g) ⟨Nat.zero_le _, fun _ _ _ _ => rfl, rfl⟩ ?_ ?_
   ·conv => whnf
    repeat (first | exact fa | ((first | refine fb ?_ | (refine And.intro ?_ ?_; rotate_left)); conv => whnf))
    all_goals first
     | exact fun row h => h
     | exact fun i _ _ => ⟨rfl, fun _ => ⟨fun _ => rfl, fun _ _ => rfl⟩⟩
     | exact Or.inl fun i hi => by simp only [rk0_at]
    
   ·rintro ⟨i, ini, S⟩ ⟨hi, hini, hSe⟩
    have hi : i ≤ g.n := hi
    have hini : ∀ u : Int, 0 ≤ u → u < g.n → hasL S.q u = true → ini u.toNat = 1 := hini
    have hSe : S = itrB g.n (b0 g) i := hSe
    have hB : BI g.n i 2147483648 (oP g g.hd.length) S := hSe ▸ itr_BI hok hn i hi
    have hBB := pow_bd (n := g.n) hn hi
    have hst : stepB g.n i S = itrB g.n (b0 g) (i + 1) := by rw [hSe]; rfl
    have hlen := hB.len
    have hnn : g.n * g.n ≤ 784 := Nat.mul_le_mul hn hn
    have hct := hB.ct
    by_cases hin : i < g.n
    ·obtain ⟨t0, t1, t2, t3⟩ := hB.top hin
     have n1 := next_c (G := G) hns g.n _ ini S.o S.gn S.q S.ks.length (LΦ S.ks) hB.oi hBB (by omega) hini (fun u => by have := hB.gb u; omega) hB.hp hB.nd hB.el (by omega) (by omega) (qN g.n S) rfl
     have n1 : MCalls _ _ _ _ _ (.tup [.int .i64 (topN g.n S), .own 9, .bool true]) ((wg1 :: wkB g.n ini S.o S.gn (hpop (qN g.n S)) S.ks.length (LΦ S.ks)) ++ [.row 44 4 (needM g.n S.o (topN g.n S)).length (lkR (needM g.n S.o (topN g.n S)))]) := n1
     have n2 := leave_c (G := G) g.n ini S.o S.gn (hpop (qN g.n S)) S.ks (needM g.n S.o (topN g.n S)) (topN g.n S).toNat (fun v => hasL S.q v = true) _ hB.oi hini (by omega) (by omega) (hini _ t2 t3 t1) (fun u => by have := hB.gb u; omega) (by omega) (by have := need_len (n := g.n) (by omega) S.o (topN g.n S); omega) (fun x hx => by
      obtain ⟨s, t, e1, e2, _⟩ := (need_mem hB.oi hBB (by omega)).1 hx
      have d1 := hB.oi.dom e1
      have d2 := hB.oi.dom e2
      rw [show (((topN g.n S).toNat : Nat) : Int) = topN g.n S by omega]
      exact ⟨⟨d1.1.1, d1.1.2.1, d1.1.2.2, d1.2.2⟩, d2.2.1.1, d2.2.1.2.1, d2.2.1.2.2, d2.2.2.symm⟩)
     rw [show (((topN g.n S).toNat : Nat) : Int) = topN g.n S by omega] at n2
     have hrl := hB.rl
     conv => whnf
     repeat' (first | ((exfalso; omega)) | refine sq ?_ | refine bk ?_ | ((first | refine rg ttok ?_ | refine dw ttok mixed ?_ | refine cd ?_ | refine sk ?_ | refine xt ?_ | refine rt ?_); conv => whnf) | (refine And.intro (fun h => ?_) (fun h => ?_) <;> (try simp only [brsA] at h) <;> conv => whnf) | (refine Or.inr (Or.inl ?_); (conv => whnf); (first | refine ⟨_, _, n1, ?_⟩ | refine ⟨_, _, n2, ?_⟩); conv => whnf) | ((first | refine wf ?_ | refine wp' ?_ | refine ai ?_ | refine And.intro rfl ?_ | refine an ?_ | fail); conv => whnf))
     refine ⟨(i + 1, updN ini (topN g.n S).toNat 2, stepB g.n i S), ⟨hin, fun u u0 u1 u2 => ?_, hst⟩, (by show g.n - (i + 1) < g.n - i; omega), ?_⟩
     ·obtain ⟨hne, hl⟩ := (hB.live hin u).1 u2
      show updN ini (topN g.n S).toNat 2 u.toNat = 1
      unfold updN
      rw [if_neg (by omega)]
      exact hini u u0 u1 hl
     ·conv => whnf
      repeat (first | exact fa | ((first | refine fb ?_ | (refine And.intro ?_ ?_; rotate_left)); conv => whnf))
      all_goals first
       | exact fun row h => h
       | exact fun i _ _ => ⟨rfl, fun _ => ⟨fun _ => rfl, fun _ _ => rfl⟩⟩
       | exact Or.inl fun j hj => rk_step (by omega) j
      
    ·have e : i = g.n := by omega
     subst e
     conv => whnf
     repeat' (first | ((exfalso; omega)) | ((refine WA_openE (code := .region 19 _ _) 9 rfl ?_)) | refine sq ?_ | refine bk ?_ | ((first | refine rg ttok ?_ | refine dw ttok mixed ?_ | refine cd ?_ | refine sk ?_ | refine xt ?_ | refine rt ?_); conv => whnf) | (refine And.intro (fun h => ?_) (fun h => ?_) <;> (try simp only [brsA] at h) <;> conv => whnf) | ((first | refine wf ?_ | refine wp' ?_ | refine ai ?_ | refine And.intro rfl ?_ | refine an ?_ | fail); conv => whnf))
     rintro row0 ⟨l0, hp0, hr0⟩
     have hll := hp0.length_eq
     have es : srt cfK l0 = lsB g := (srt_uniq hp0 hB.nk).trans (by rw [hSe]; rfl)
     have eS : S = ofB g := hSe
     have hlb : (lsB g).length = S.ks.length := by rw [← es, srt_len cfK swo_K, hll]
     have hrl : (ofB g).rk.length = g.n := by rw [← eS]; exact hB.rl
     generalize hkl : S.ks.length = kl at *
     cases kl with
     | zero =>
      have h0 := sortLk_0 (G := G) row0
      conv => whnf
      repeat' (first | refine sq ?_ | refine bk ?_ | ((first | refine rg ttok ?_ | refine dw ttok mixed ?_ | refine cd ?_ | refine sk ?_ | refine xt ?_ | refine rt ?_); conv => whnf) | (refine And.intro (fun h => ?_) (fun h => ?_) <;> (try simp only [brsA] at h) <;> conv => whnf) | (refine Or.inl ?_; (conv => whnf); refine ⟨_, h0, ?_⟩; conv => whnf) | ((first | refine wf ?_ | refine wp' ?_ | refine ai ?_ | refine And.intro rfl ?_ | refine an ?_ | fail); conv => whnf))
      repeat (first | exact fa | ((first | refine fb ?_ | (refine And.intro ?_ ?_; rotate_left)); conv => whnf))
      all_goals first
       | exact hlb.symm
       | exact Or.inl fun i _ => by rw [← eS]
       | exact Or.inl fun i hi => absurd hi (Nat.not_lt_zero _)
       | exact Or.inl fun i _ => rfl
      
     | succ kl =>
      have h0 := sortLk_c (G := G) hns (kl + 1) row0 l0 hll.symm (fun i hi => hr0 i (by omega)) (by omega) (by omega)
      rw [es] at h0
      conv => whnf
      repeat' (first | refine sq ?_ | refine bk ?_ | ((first | refine rg ttok ?_ | refine dw ttok mixed ?_ | refine cd ?_ | refine sk ?_ | refine xt ?_ | refine rt ?_); conv => whnf) | (refine And.intro (fun h => ?_) (fun h => ?_) <;> (try simp only [brsA] at h) <;> conv => whnf) | (refine Or.inr (Or.inl ?_); (conv => whnf); refine ⟨_, _, h0, ?_⟩; conv => whnf) | ((first | refine wf ?_ | refine wp' ?_ | refine ai ?_ | refine And.intro rfl ?_ | refine an ?_ | fail); conv => whnf))
      repeat (first | exact fa | ((first | refine fb ?_ | (refine And.intro ?_ ?_; rotate_left)); conv => whnf))
      all_goals first
       | exact hlb.symm
       | exact Or.inl fun i _ => by rw [← eS]
       | exact Or.inl fun i hi => absurd hi (Nat.not_lt_zero _)
       | exact Or.inl fun i _ => rfl
      
end Go.Proofs.YtnkbkfjgbejhfaaGreat

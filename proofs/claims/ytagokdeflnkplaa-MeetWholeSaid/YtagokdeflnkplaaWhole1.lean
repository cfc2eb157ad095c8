/-
  The point of the grid of a meeting; the walk of the law.
-/
import Derived.Test.YtagokdeflnkplaaWord1
import Derived.Test.YtagokdeflnkplaaMeet3
set_option linter.unusedSimpArgs false
namespace Go.Proofs.Ytagokdeflnkplaa
open Go.Proofs.Ytagokdeflnkplaa.Am Go.Sort Go.Proofs
variable {G : GInv}
/-! ### The point of the grid -/
theorem one_end {s t : Sg} (hT : TouchP s t) (hA : AlongP s t) {f l : Pt} (h : Exts s t f l) (e : f = l) : (f = s.a ∨ f = s.b) ∧ (f = t.a ∨ f = t.b) := by
  have hs := hT.1
  have ht := hT.2.1
  obtain ⟨f1, f2, l1, l2, hmm⟩ := h
  subst e
  obtain ⟨hL, hne, hall⟩ := one_dim hA
  have z : dotP s.a s.b s.a = 0 := by unfold dotP; grind
  obtain ⟨fm, fc, fd⟩ := on_all f2.1
  have key : ∀ q, q ∈ endsL s t → BothP s t q → dotP s.a s.b q = dotP s.a s.b f := fun q hq hb => by
    have := hmm q hq hb
    have e1 := (on_all hb.1).2.2
    omega
  obtain ⟨ia, ib⟩ := hall f fm fc
  have jf := ia.1 f2.1
  have kf := ib.1 f2.2
  have ca : crs s.a s.b t.a = 0 := by have := hA.2.2.1; rwa [crsF_eq (All3_line hs ht.1)] at this
  have cb : crs s.a s.b t.b = 0 := by have := hA.2.2.2; rwa [crsF_eq (All3_line hs ht.2.1)] at this
  have ka : (dotP s.a s.b t.a ≤ 0 ∧ 0 ≤ dotP s.a s.b t.b) ∨ (dotP s.a s.b t.b ≤ 0 ∧ 0 ≤ dotP s.a s.b t.a) → 0 = dotP s.a s.b f := fun h => by
    have q := (hall s.a hs.1 (onA hs).2.2.1).2.2 (by rw [z]; exact h)
    have := key s.a (by simp [endsL]) ⟨onA hs, q⟩
    omega
  have kb : (dotP s.a s.b t.a ≤ dotP s.a s.b s.b ∧ dotP s.a s.b s.b ≤ dotP s.a s.b t.b) ∨ (dotP s.a s.b t.b ≤ dotP s.a s.b s.b ∧ dotP s.a s.b s.b ≤ dotP s.a s.b t.a) → dotP s.a s.b s.b = dotP s.a s.b f := fun h => by
    have q := (hall s.b hs.2.1 (onB hs).2.2.1).2.2 h
    exact key s.b (by simp [endsL]) ⟨onB hs, q⟩
  have kc : 0 ≤ dotP s.a s.b t.a ∧ dotP s.a s.b t.a ≤ dotP s.a s.b s.b → dotP s.a s.b t.a = dotP s.a s.b f := fun h =>
    key t.a (by simp [endsL]) ⟨(hall t.a ht.1 ca).1.2 h, onA ht⟩
  have kd : 0 ≤ dotP s.a s.b t.b ∧ dotP s.a s.b t.b ≤ dotP s.a s.b s.b → dotP s.a s.b t.b = dotP s.a s.b f := fun h =>
    key t.b (by simp [endsL]) ⟨(hall t.b ht.2.1 cb).1.2 h, onB ht⟩
  have g1 : dotP s.a s.b f = 0 ∨ dotP s.a s.b f = dotP s.a s.b s.b := by omega
  have g2 : dotP s.a s.b f = dotP s.a s.b t.a ∨ dotP s.a s.b f = dotP s.a s.b t.b := by omega
  constructor
  · rcases g1 with g | g
    · exact Or.inl (dot_inj hs fc (onA hs).2.2.1 (by omega))
    · exact Or.inr (dot_inj hs fc (onB hs).2.2.1 g)
  · rcases g2 with g | g
    · exact Or.inl (dot_inj hs fc ca g)
    · exact Or.inr (dot_inj hs fc cb g)
theorem same_cross (ux uy vx vy wx wy ax : Int) : ux * (wx * vy - wy * vx) + ax * (ux * vy - uy * vx) = vx * (wx * uy - wy * ux) + (wx + ax) * (ux * vy - uy * vx) := by grind
theorem same_neg (a b c d e f g : Int) (h : a * b + c * d = e * f + g * d) : a * -b + c * -d = e * -f + g * -d := by grind
/-- Both lines tell the same place. -/
theorem same_place (s t : Sg) (h : (meetM s t).k = 1) : TouchP s t ∧ 0 ≤ (meetM s t).n ∧ 0 ≤ (meetM s t).m ∧ 0 < (meetM s t).d ∧ (meetM s t).n ≤ (meetM s t).d ∧ (meetM s t).m ≤ (meetM s t).d ∧
    (meetM s t).d ≤ 9223372036854775807 ∧
    (s.b.x - s.a.x) * (meetM s t).n + s.a.x * (meetM s t).d = (t.b.x - t.a.x) * (meetM s t).m + t.a.x * (meetM s t).d := by
  unfold meetM at *
  by_cases hT : TouchP s t
  · rw [if_pos hT] at *
    refine ⟨hT, ?_⟩
    by_cases hd : rD s t = 0
    · rw [if_pos hd] at *
      have hA := (along_iff s t hT).2 hd
      obtain ⟨f, l, hE, hR⟩ := exts hT hA
      rw [hR] at h ⊢
      unfold ovM at h ⊢
      by_cases hf : f = l
      · rw [if_neg (fun q => q hf)] at h ⊢
        obtain ⟨o1, o2⟩ := one_end hT hA hE hf
        have ns : s.a ≠ s.b := fun e => hT.1.2.2 (by rw [e]; exact ⟨rfl, rfl⟩)
        have nt : t.a ≠ t.b := fun e => hT.2.1.2.2 (by rw [e]; exact ⟨rfl, rfl⟩)
        refine ⟨?_, ?_, Int.zero_lt_one, ?_, ?_, (by show (1 : Int) ≤ 9223372036854775807; decide), ?_⟩
        · dsimp only; split <;> omega
        · dsimp only; split <;> omega
        · dsimp only; split <;> omega
        · dsimp only; split <;> omega
        · dsimp only
          rcases o1 with o1 | o1
          · rw [if_neg (fun q => ns (o1.symm.trans q))]
            rcases o2 with o2 | o2
            · rw [if_neg (fun q => nt (o2.symm.trans q)), ← o1, ← o2]; omega
            · rw [if_pos o2, ← o1, ← o2]; omega
          · rw [if_pos o1]
            rcases o2 with o2 | o2
            · rw [if_neg (fun q => nt (o2.symm.trans q)), ← o1, ← o2]; omega
            · rw [if_pos o2, ← o1, ← o2]; omega
      · rw [if_pos hf] at h; exact absurd (show (2 : Int) = 1 from h) (by decide)
    · rw [if_neg hd] at *
      obtain ⟨b1, b2, b3, b4, _⟩ := cross_bd hT hd
      obtain ⟨_, _, b5, b6⟩ := rbd hT.1 hT.2.1
      have hbd : -9223372036854775807 ≤ rD s t ∧ rD s t ≤ 9223372036854775807 := by unfold rD; omega
      have e := same_cross (s.b.x - s.a.x) (s.b.y - s.a.y) (t.b.x - t.a.x) (t.b.y - t.a.y) (t.a.x - s.a.x) (t.a.y - s.a.y) s.a.x
      rw [show t.a.x - s.a.x + s.a.x = t.a.x by omega] at e
      have e' : (s.b.x - s.a.x) * rN s t + s.a.x * rD s t = (t.b.x - t.a.x) * rM s t + t.a.x * rD s t := e
      by_cases hn : rD s t < 0
      · have eq : refCross s t = ⟨1, -(rN s t), -(rM s t), -(rD s t), ⟨0, 0⟩, ⟨0, 0⟩⟩ := by unfold refCross; rw [if_pos hn]
        rw [eq] at b1 b2 b3 b4 ⊢
        dsimp only at b1 b2 b3 b4 ⊢
        refine ⟨b1, b3, by omega, b2, b4, by omega, same_neg _ _ _ _ _ _ _ e'⟩
      · have eq : refCross s t = ⟨1, rN s t, rM s t, rD s t, ⟨0, 0⟩, ⟨0, 0⟩⟩ := by unfold refCross; rw [if_neg hn]
        rw [eq] at b1 b2 b3 b4 ⊢
        dsimp only at b1 b2 b3 b4 ⊢
        refine ⟨b1, b3, by omega, b2, b4, by omega, e'⟩
  · rw [if_neg hT] at h; exact absurd h (by decide)
def stQ (b n d : Int) : Int := if b < 0 then -((b.natAbs * n.natAbs / d.natAbs : Nat) : Int) else ((b.natAbs * n.natAbs / d.natAbs : Nat) : Int)
def stOk (b n d : Int) : Bool := decide (b.natAbs * n.natAbs % d.natAbs = 0)
def GoodM (m : Mt) (s : Sg) : Prop := m.k = 1 ∧ 1 ≤ m.d ∧ 0 ≤ m.n ∧ m.n ≤ m.d ∧ LineS s
theorem stQ_bd {b n d : Int} (b1 : -1073741824 ≤ b) (b2 : b ≤ 1073741824) (n1 : 0 ≤ n) (n2 : n ≤ d) (d1 : 0 < d) : -1073741824 ≤ stQ b n d ∧ stQ b n d ≤ 1073741824 := by
  have hle : b.natAbs * n.natAbs ≤ b.natAbs * d.natAbs := Nat.mul_le_mul_left _ (by omega)
  have hq : b.natAbs * n.natAbs / d.natAbs ≤ b.natAbs := Nat.div_le_of_le_mul (by rw [Nat.mul_comm d.natAbs]; exact hle)
  unfold stQ
  generalize b.natAbs * n.natAbs / d.natAbs = q at *
  split <;> omega
theorem line_df {s : Sg} (h : LineS s) : (-1073741824 ≤ s.b.x - s.a.x ∧ s.b.x - s.a.x ≤ 1073741824) ∧ (-1073741824 ≤ s.b.y - s.a.y ∧ s.b.y - s.a.y ≤ 1073741824) := by
  obtain ⟨⟨⟨a1, a2⟩, a3, a4⟩, ⟨⟨b1, b2⟩, b3, b4⟩, _⟩ := h
  omega
set_option maxRecDepth 100000 in
theorem wholeM_bad (m : Mt) (s : Sg) (hbad : ¬ GoodM m s) : ACalls Try.prog G 11 [.agg (mtA m), .agg (sgA s)] (.tup [.agg (ptA ⟨0, 0⟩), .sb false]) := by
  have hl := pline_c (G := G) s
  unfold GoodM at hbad
  refine ACalls.of_WA ttok Try.func11 rfl rfl _ rfl ?_
  conv => whnf
  repeat' (first | refine WA_seq ?_ | (refine WA_region ttok ?_; conv => whnf) | (refine WA_draw ttok mixed ?_; conv => whnf) | (refine WA_cond ?_; conv => whnf) | refine WA_block ?_ | (refine WA_skip ?_; conv => whnf) | (refine WA_exit ?_; conv => whnf) | (refine WA_ret ?_; conv => whnf) | (refine And.intro (fun h => ?_) (fun h => ?_) <;> (try simp only [brsA] at h) <;> conv => whnf) | (refine Or.inl ?_; (conv => whnf); refine Exists.intro _ (And.intro (hl) ?_); conv => whnf) | (refine Or.inr (Or.inr (Or.inl ?_)); (conv => whnf); refine Exists.intro _ (And.intro (hl) ?_); conv => whnf) | (refine Exists.intro _ (And.intro (hl) ?_); conv => whnf) | (refine WR_fit ?_ ?_; (focus (first | exact wr_i64 (by omega) | exact wr_u64 (by omega) | exact wr_u8 (by omega) | exact wr_i32 (by omega) | exact wr_u32 (by omega))); conv => whnf) | (refine WR_wrap ?_; conv => whnf) | (refine And.intro (a := indepB _ _ = true) ?_ ?_; (focus kernel_rfl); conv => whnf) | (refine And.intro rfl ?_; conv => whnf) | (refine And.intro ?_ ?_; (focus (first | omega | decide | (dsimp only; omega) | (simp at *; omega))); conv => whnf))
  all_goals first | exact absurd ⟨by omega, by omega, by omega, by omega, by assumption⟩ hbad | exact absurd ⟨by omega, by omega, by omega, by omega, of_decide_eq_true (by assumption)⟩ hbad | trace_state
set_option maxRecDepth 100000 in
theorem wholeM_c (m : Mt) (s : Sg) (h : GoodM m s) (hd : m.d ≤ 9223372036854775807) : ACalls Try.prog G 11 [.agg (mtA m), .agg (sgA s)] (.tup [.agg (ptA (if stOk (s.b.x - s.a.x) m.n m.d = true ∧ stOk (s.b.y - s.a.y) m.n m.d = true then ⟨s.a.x + stQ (s.b.x - s.a.x) m.n m.d, s.a.y + stQ (s.b.y - s.a.y) m.n m.d⟩ else ⟨0, 0⟩)), .sb (stOk (s.b.x - s.a.x) m.n m.d && stOk (s.b.y - s.a.y) m.n m.d)]) := by
  obtain ⟨h1, h2, h3, h4, h5⟩ := h
  have hl := toBc (pline_c (G := G) s)
  rw [decide_eq_true h5] at hl
  obtain ⟨⟨x1, x2⟩, y1, y2⟩ := line_df h5
  obtain ⟨⟨⟨a1, a2⟩, a3, a4⟩, ⟨⟨b1, b2⟩, b3, b4⟩, _⟩ := h5
  have c1 := stepG_c (G := G) (s.b.x - s.a.x) m.n m.d (by omega) (by omega) h3 h4 (by omega) hd
  have c2 := stepG_c (G := G) (s.b.y - s.a.y) m.n m.d (by omega) (by omega) h3 h4 (by omega) hd
  have q1 := stQ_bd x1 x2 h3 h4 (by omega)
  have q2 := stQ_bd y1 y2 h3 h4 (by omega)
  have e1 : (A.tup [.int .i64 (stQ (s.b.x - s.a.x) m.n m.d), .sb (stOk (s.b.x - s.a.x) m.n m.d)]) = .tup [.int .i64 (if s.b.x - s.a.x < 0 then -(((s.b.x - s.a.x).natAbs * m.n.natAbs / m.d.natAbs : Nat) : Int) else (((s.b.x - s.a.x).natAbs * m.n.natAbs / m.d.natAbs : Nat) : Int)), .sb (decide ((s.b.x - s.a.x).natAbs * m.n.natAbs % m.d.natAbs = 0))] := rfl
  have e2 : (A.tup [.int .i64 (stQ (s.b.y - s.a.y) m.n m.d), .sb (stOk (s.b.y - s.a.y) m.n m.d)]) = .tup [.int .i64 (if s.b.y - s.a.y < 0 then -(((s.b.y - s.a.y).natAbs * m.n.natAbs / m.d.natAbs : Nat) : Int) else (((s.b.y - s.a.y).natAbs * m.n.natAbs / m.d.natAbs : Nat) : Int)), .sb (decide ((s.b.y - s.a.y).natAbs * m.n.natAbs % m.d.natAbs = 0))] := rfl
  rw [← e1] at c1
  rw [← e2] at c2
  clear e1 e2
  generalize stQ (s.b.x - s.a.x) m.n m.d = qx at *
  generalize stQ (s.b.y - s.a.y) m.n m.d = qy at *
  generalize stOk (s.b.x - s.a.x) m.n m.d = ox at *
  generalize stOk (s.b.y - s.a.y) m.n m.d = oy at *
  refine ACalls.of_WA ttok Try.func11 rfl rfl _ rfl ?_
  conv => whnf
  repeat' (first | refine WA_seq ?_ | (refine WA_region ttok ?_; conv => whnf) | (refine WA_draw ttok mixed ?_; conv => whnf) | (refine WA_cond ?_; conv => whnf) | refine WA_block ?_ | (refine WA_skip ?_; conv => whnf) | (refine WA_exit ?_; conv => whnf) | (refine WA_ret ?_; conv => whnf) | (refine And.intro (fun h => ?_) (fun h => ?_) <;> (try simp only [brsA] at h) <;> conv => whnf) | (refine Or.inl ?_; (conv => whnf); refine Exists.intro _ (And.intro (hl) ?_); conv => whnf) | (refine Or.inr (Or.inr (Or.inl ?_)); (conv => whnf); refine Exists.intro _ (And.intro (hl) ?_); conv => whnf) | (refine Exists.intro _ (And.intro (hl) ?_); conv => whnf) | (refine Or.inl ?_; (conv => whnf); refine Exists.intro _ (And.intro (c1) ?_); conv => whnf) | (refine Or.inr (Or.inr (Or.inl ?_)); (conv => whnf); refine Exists.intro _ (And.intro (c1) ?_); conv => whnf) | (refine Exists.intro _ (And.intro (c1) ?_); conv => whnf) | (refine Or.inl ?_; (conv => whnf); refine Exists.intro _ (And.intro (c2) ?_); conv => whnf) | (refine Or.inr (Or.inr (Or.inl ?_)); (conv => whnf); refine Exists.intro _ (And.intro (c2) ?_); conv => whnf) | (refine Exists.intro _ (And.intro (c2) ?_); conv => whnf) | (refine WR_fit ?_ ?_; (focus (first | exact wr_i64 (by omega) | exact wr_u64 (by omega) | exact wr_u8 (by omega) | exact wr_i32 (by omega) | exact wr_u32 (by omega))); conv => whnf) | (refine WR_wrap ?_; conv => whnf) | (refine And.intro (a := indepB _ _ = true) ?_ ?_; (focus kernel_rfl); conv => whnf) | (refine And.intro rfl ?_; conv => whnf) | (refine And.intro ?_ ?_; (focus (first | omega | decide | (dsimp only; omega) | (simp at *; omega))); conv => whnf))
  all_goals first | (exfalso; omega) | skip
  all_goals (cases ox <;> cases oy <;> first | (exfalso; simp at *; done) | (repeat (first | exact rfl | exact trivial | exact Or.inl (fun _ _ => rfl) | exact (fun _ => rfl) | exact (fun _ _ => rfl) | exact Or.inl (fun _ hi => absurd hi (Nat.not_lt_zero _)) | (refine And.intro rfl ?_; conv => whnf) | (refine And.intro (Or.inl (fun _ _ => rfl)) ?_; conv => whnf) | (refine And.intro (fun _ => rfl) ?_; conv => whnf) | (refine And.intro (fun _ _ => rfl) ?_; conv => whnf) | (refine And.intro ?_ ?_; rotate_left; conv => whnf))) | trace_state)
end Go.Proofs.Ytagokdeflnkplaa
set_option linter.unusedSimpArgs false
namespace Go.Proofs.Ytagokdeflnkplaa
open Go.Proofs.Ytagokdeflnkplaa.Am Go.Sort Go.Proofs
variable {G : GInv}
theorem w1 : wW 1 0 = 1 ∧ wW 1 1 = 0 ∧ wW 1 2 = 0 ∧ wW 1 3 = 0 ∧ wW 1 4 = 0 ∧ wW 1 5 = 0 ∧ wW 1 6 = 0 ∧ wW 1 7 = 0 := by decide
theorem rat_one (p : Bool) (v : Nat) : ratA p v 1 = .agg [.sb p, .int .u64 (wW v 0 : Nat), .int .u64 (wW v 1 : Nat), .int .u64 (wW v 2 : Nat), .int .u64 (wW v 3 : Nat), .int .u64 (wW v 4 : Nat), .int .u64 (wW v 5 : Nat), .int .u64 (wW v 6 : Nat), .int .u64 (wW v 7 : Nat), .int .u64 1, .int .u64 0, .int .u64 0, .int .u64 0, .int .u64 0, .int .u64 0, .int .u64 0, .int .u64 0] := by
  obtain ⟨h0, h1, h2, h3, h4, h5, h6, h7⟩ := w1
  unfold ratA
  rw [h0, h1, h2, h3, h4, h5, h6, h7]
  rfl
theorem den_one {D : Nat} (hD : D < 65536 ^ 32) : (((wW D 0 : Nat) : Int) == 1 && (((wW D 1 : Nat) : Int) == 0 && (((wW D 2 : Nat) : Int) == 0 && (((wW D 3 : Nat) : Int) == 0 && (((wW D 4 : Nat) : Int) == 0 && (((wW D 5 : Nat) : Int) == 0 && (((wW D 6 : Nat) : Int) == 0 && (((wW D 7 : Nat) : Int) == 0 && true)))))))) = decide (D = 1) := by
  rw [Bool.eq_iff_iff]
  simp only [Bool.and_eq_true, beq_iff_eq, and_true, decide_eq_true_eq]
  constructor
  · intro h
    have e := wv_expl (wW_ok D)
    rw [wv_wW hD] at e
    omega
  · intro h
    subst h
    obtain ⟨h0, h1, h2, h3, h4, h5, h6, h7⟩ := w1
    rw [h0, h1, h2, h3, h4, h5, h6, h7]
    decide
theorem part_whole {b n d : Int} (d1 : 0 < d) :
    (decide (d.natAbs / Nat.gcd (b.natAbs * n.natAbs) d.natAbs = 1) = stOk b n d) ∧
    (stOk b n d = true → b.natAbs * n.natAbs / Nat.gcd (b.natAbs * n.natAbs) d.natAbs = (stQ b n d).natAbs ∧
      ((decide (b < 0) && decide (b.natAbs * n.natAbs ≠ 0)) && decide (b.natAbs * n.natAbs / Nat.gcd (b.natAbs * n.natAbs) d.natAbs ≠ 0)) = decide (stQ b n d < 0)) := by
  unfold stOk stQ
  generalize b.natAbs * n.natAbs = u
  have hD : 0 < d.natAbs := by omega
  generalize d.natAbs = D at *
  have key : u % D = 0 → Nat.gcd u D = D := fun h => Nat.gcd_eq_right (Nat.dvd_of_mod_eq_zero h)
  have hg : 0 < Nat.gcd u D := Nat.gcd_pos_of_pos_right _ hD
  refine ⟨decide_eq_decide.2 ⟨fun h => ?_, fun h => ?_⟩, fun h => ?_⟩
  · have h1 := Nat.div_mul_cancel (Nat.gcd_dvd_right u D)
    rw [h, Nat.one_mul] at h1
    rw [← h1]
    exact Nat.mod_eq_zero_of_dvd (Nat.gcd_dvd_left u D)
  · rw [key h]; exact Nat.div_self hD
  · have h := of_decide_eq_true h
    rw [key h]
    have hu : u / D * D = u := Nat.div_mul_cancel (Nat.dvd_of_mod_eq_zero h)
    generalize u / D = q at *
    refine ⟨by split <;> omega, ?_⟩
    by_cases hb : b < 0
    · rw [if_pos hb, decide_eq_true hb, Bool.true_and]
      by_cases hq : q = 0
      · subst hq
        rw [decide_eq_false (show ¬ (0 : Nat) ≠ 0 by omega), Bool.and_false]
        exact (decide_eq_false (by omega)).symm
      · have hu0 : u ≠ 0 := fun e => by
          rw [e] at hu
          rcases Nat.mul_eq_zero.1 hu with h | h <;> omega
        rw [decide_eq_true hq, decide_eq_true hu0]
        exact (decide_eq_true (by omega)).symm
    · rw [if_neg hb, decide_eq_false hb, Bool.false_and, Bool.false_and]
      exact (decide_eq_false (by omega)).symm
theorem gcd_bd {u d : Nat} (hd : 0 < d) (h : d ≤ 9223372036854775807) : d / Nat.gcd u d < 65536 ^ 32 := by
  have h1 : d / Nat.gcd u d ≤ d := Nat.div_le_self _ _
  have p : 9223372036854775807 < 65536 ^ 32 := by decide
  omega
set_option maxRecDepth 100000 in
theorem mwhole_bad (m : Mt) (s t : Sg) (hbad : ¬ GoodM m s) : ACalls Try.prog G 4 [.agg (mtA m), .agg (sgA s), .agg (sgA t)] (.sb true) := by
  have c1 := wholeM_bad (G := G) m s hbad
  have hl := rline_c (G := G) s
  have ha := awake_c (G := G)
  unfold GoodM at hbad
  refine ACalls.of_WA ttok Try.func4 rfl rfl _ rfl ?_
  conv => whnf
  repeat' (first | refine WA_seq ?_ | (refine WA_region ttok ?_; conv => whnf) | (refine WA_draw ttok mixed ?_; conv => whnf) | (refine WA_cond ?_; conv => whnf) | refine WA_block ?_ | (refine WA_skip ?_; conv => whnf) | (refine WA_exit ?_; conv => whnf) | (refine WA_ret ?_; conv => whnf) | (refine And.intro (fun h => ?_) (fun h => ?_) <;> (try simp only [brsA] at h) <;> conv => whnf) | (refine Or.inl ?_; (conv => whnf); refine Exists.intro _ (And.intro (c1) ?_); conv => whnf) | (refine Or.inr (Or.inr (Or.inl ?_)); (conv => whnf); refine Exists.intro _ (And.intro (c1) ?_); conv => whnf) | (refine Exists.intro _ (And.intro (c1) ?_); conv => whnf) | (refine Or.inl ?_; (conv => whnf); refine Exists.intro _ (And.intro (hl) ?_); conv => whnf) | (refine Or.inr (Or.inr (Or.inl ?_)); (conv => whnf); refine Exists.intro _ (And.intro (hl) ?_); conv => whnf) | (refine Exists.intro _ (And.intro (hl) ?_); conv => whnf) | (refine Or.inl ?_; (conv => whnf); refine Exists.intro _ (And.intro (ha) ?_); conv => whnf) | (refine Or.inr (Or.inr (Or.inl ?_)); (conv => whnf); refine Exists.intro _ (And.intro (ha) ?_); conv => whnf) | (refine Exists.intro _ (And.intro (ha) ?_); conv => whnf) | (refine WR_fit ?_ ?_; (focus (first | exact wr_i64 (by omega) | exact wr_u64 (by omega) | exact wr_u8 (by omega) | exact wr_i32 (by omega) | exact wr_u32 (by omega))); conv => whnf) | (refine WR_wrap ?_; conv => whnf) | (refine And.intro (a := indepB _ _ = true) ?_ ?_; (focus kernel_rfl); conv => whnf) | (refine And.intro rfl ?_; conv => whnf) | (refine And.intro ?_ ?_; (focus (first | omega | decide | (dsimp only; omega) | (simp at *; omega))); conv => whnf))
  all_goals first | (exact Bool.noConfusion (show false = true by assumption)) | (exact absurd (show (((0 : Int) == 0) && (((0 : Int) == 0) && true)) = false by assumption) (by decide)) | exact absurd ⟨by omega, by omega, by omega, by omega, by assumption⟩ hbad | exact absurd ⟨by omega, by omega, by omega, by omega, of_decide_eq_true (by assumption)⟩ hbad | trace_state
theorem toBcT {P : Program} {f : FuncId} {args : List A} {a : A} {b : Bool} (h : ACalls P G f args (.tup [a, .sb b])) : ACalls P G f args (.tup [a, .bool b]) := by
  refine ⟨h.1, fun im w vs h1 h2 h3 h4 => ?_⟩
  refine Calls_mono (h.2 im w vs h1 h2 h3 h4) ?_
  rintro e w' ⟨v, e1, e2, e3⟩
  refine ⟨v, e1, ?_, e3⟩
  cases e2 with
  | tup _ us hl hr =>
    match us, hl, hr with
    | [u0, u1], hl, hr =>
      refine .tup _ [u0, u1] rfl fun j q q' => ?_
      match j with
      | 0 => exact hr 0 (by simp) (by simp)
      | 1 =>
        have := hr 1 (by simp) (by simp)
        have : RelI _ _ (.sb b) u1 := this
        cases this
        exact .bool b
      | j + 2 => exact absurd q (by simp)
set_option maxRecDepth 100000 in
set_option maxHeartbeats 8000000 in
/-- The walk, its callees' answers by variables. -/
theorem mwhole_walk (m k : Mt) (s t : Sg) (p : Pt) (ok sx sy : Bool) (X Y DX DY : Nat → Nat) (hg : GoodM m s)
    (cw : ACalls Try.prog G 11 [.agg (mtA m), .agg (sgA s)] (.tup [.agg (ptA p), .bool ok]))
    (hx : -1610612736 ≤ p.x - s.a.x ∧ p.x - s.a.x ≤ 1610612736) (hy : -1610612736 ≤ p.y - s.a.y ∧ p.y - s.a.y ≤ 1610612736)
    (hl : ACalls Try.prog G 12 [.agg (sgA s)] (.bool true))
    (cx : ACalls Try.prog G 13 [.int .i64 (s.b.x - s.a.x), .int .i64 m.n, .int .i64 m.d] (.agg [.sb sx, .int .u64 (X 0 : Nat), .int .u64 (X 1 : Nat), .int .u64 (X 2 : Nat), .int .u64 (X 3 : Nat), .int .u64 (X 4 : Nat), .int .u64 (X 5 : Nat), .int .u64 (X 6 : Nat), .int .u64 (X 7 : Nat), .int .u64 (DX 0 : Nat), .int .u64 (DX 1 : Nat), .int .u64 (DX 2 : Nat), .int .u64 (DX 3 : Nat), .int .u64 (DX 4 : Nat), .int .u64 (DX 5 : Nat), .int .u64 (DX 6 : Nat), .int .u64 (DX 7 : Nat)]))
    (cy : ACalls Try.prog G 13 [.int .i64 (s.b.y - s.a.y), .int .i64 m.n, .int .i64 m.d] (.agg [.sb sy, .int .u64 (Y 0 : Nat), .int .u64 (Y 1 : Nat), .int .u64 (Y 2 : Nat), .int .u64 (Y 3 : Nat), .int .u64 (Y 4 : Nat), .int .u64 (Y 5 : Nat), .int .u64 (Y 6 : Nat), .int .u64 (Y 7 : Nat), .int .u64 (DY 0 : Nat), .int .u64 (DY 1 : Nat), .int .u64 (DY 2 : Nat), .int .u64 (DY 3 : Nat), .int .u64 (DY 4 : Nat), .int .u64 (DY 5 : Nat), .int .u64 (DY 6 : Nat), .int .u64 (DY 7 : Nat)]))
    (hd : ((((DX 0 : Nat) : Int) == 1 && (((DX 1 : Nat) : Int) == 0 && (((DX 2 : Nat) : Int) == 0 && (((DX 3 : Nat) : Int) == 0 && (((DX 4 : Nat) : Int) == 0 && (((DX 5 : Nat) : Int) == 0 && (((DX 6 : Nat) : Int) == 0 && (((DX 7 : Nat) : Int) == 0 && true)))))))) && (((DY 0 : Nat) : Int) == 1 && (((DY 1 : Nat) : Int) == 0 && (((DY 2 : Nat) : Int) == 0 && (((DY 3 : Nat) : Int) == 0 && (((DY 4 : Nat) : Int) == 0 && (((DY 5 : Nat) : Int) == 0 && (((DY 6 : Nat) : Int) == 0 && (((DY 7 : Nat) : Int) == 0 && true))))))))) = ok)
    (ho : ok = false → p.x = 0 ∧ p.y = 0)
    (cox : ok = true → ACalls Try.prog G 14 [.int .i64 (p.x - s.a.x)] (.agg [.sb sx, .int .u64 (X 0 : Nat), .int .u64 (X 1 : Nat), .int .u64 (X 2 : Nat), .int .u64 (X 3 : Nat), .int .u64 (X 4 : Nat), .int .u64 (X 5 : Nat), .int .u64 (X 6 : Nat), .int .u64 (X 7 : Nat)]))
    (coy : ok = true → ACalls Try.prog G 14 [.int .i64 (p.y - s.a.y)] (.agg [.sb sy, .int .u64 (Y 0 : Nat), .int .u64 (Y 1 : Nat), .int .u64 (Y 2 : Nat), .int .u64 (Y 3 : Nat), .int .u64 (Y 4 : Nat), .int .u64 (Y 5 : Nat), .int .u64 (Y 6 : Nat), .int .u64 (Y 7 : Nat)]))
    (ck : ACalls Try.prog G 8 [.agg (sgA s), .agg (sgA t)] (.agg (mtA k)))
    (ht : k.k = 1 → LineS t)
    (su sv sw sa sb : Bool) (U DU V DV W DW Sa Ta : Nat → Nat)
    (cu : k.k = 1 → ACalls Try.prog G 13 [.int .i64 (s.b.x - s.a.x), .int .i64 k.n, .int .i64 k.d] (.agg [.sb su, .int .u64 (U 0 : Nat), .int .u64 (U 1 : Nat), .int .u64 (U 2 : Nat), .int .u64 (U 3 : Nat), .int .u64 (U 4 : Nat), .int .u64 (U 5 : Nat), .int .u64 (U 6 : Nat), .int .u64 (U 7 : Nat), .int .u64 (DU 0 : Nat), .int .u64 (DU 1 : Nat), .int .u64 (DU 2 : Nat), .int .u64 (DU 3 : Nat), .int .u64 (DU 4 : Nat), .int .u64 (DU 5 : Nat), .int .u64 (DU 6 : Nat), .int .u64 (DU 7 : Nat)]))
    (cv : k.k = 1 → ACalls Try.prog G 13 [.int .i64 (t.b.x - t.a.x), .int .i64 k.m, .int .i64 k.d] (.agg [.sb sv, .int .u64 (V 0 : Nat), .int .u64 (V 1 : Nat), .int .u64 (V 2 : Nat), .int .u64 (V 3 : Nat), .int .u64 (V 4 : Nat), .int .u64 (V 5 : Nat), .int .u64 (V 6 : Nat), .int .u64 (V 7 : Nat), .int .u64 (DV 0 : Nat), .int .u64 (DV 1 : Nat), .int .u64 (DV 2 : Nat), .int .u64 (DV 3 : Nat), .int .u64 (DV 4 : Nat), .int .u64 (DV 5 : Nat), .int .u64 (DV 6 : Nat), .int .u64 (DV 7 : Nat)]))
    (csa : ACalls Try.prog G 14 [.int .i64 s.a.x] (.agg [.sb sa, .int .u64 (Sa 0 : Nat), .int .u64 (Sa 1 : Nat), .int .u64 (Sa 2 : Nat), .int .u64 (Sa 3 : Nat), .int .u64 (Sa 4 : Nat), .int .u64 (Sa 5 : Nat), .int .u64 (Sa 6 : Nat), .int .u64 (Sa 7 : Nat)]))
    (cta : k.k = 1 → ACalls Try.prog G 14 [.int .i64 t.a.x] (.agg [.sb sb, .int .u64 (Ta 0 : Nat), .int .u64 (Ta 1 : Nat), .int .u64 (Ta 2 : Nat), .int .u64 (Ta 3 : Nat), .int .u64 (Ta 4 : Nat), .int .u64 (Ta 5 : Nat), .int .u64 (Ta 6 : Nat), .int .u64 (Ta 7 : Nat)]))
    (c1 : k.k = 1 → ACalls Try.prog G 15 [.agg [.sb su, .int .u64 (U 0 : Nat), .int .u64 (U 1 : Nat), .int .u64 (U 2 : Nat), .int .u64 (U 3 : Nat), .int .u64 (U 4 : Nat), .int .u64 (U 5 : Nat), .int .u64 (U 6 : Nat), .int .u64 (U 7 : Nat), .int .u64 (DU 0 : Nat), .int .u64 (DU 1 : Nat), .int .u64 (DU 2 : Nat), .int .u64 (DU 3 : Nat), .int .u64 (DU 4 : Nat), .int .u64 (DU 5 : Nat), .int .u64 (DU 6 : Nat), .int .u64 (DU 7 : Nat)], .agg [.sb sa, .int .u64 (Sa 0 : Nat), .int .u64 (Sa 1 : Nat), .int .u64 (Sa 2 : Nat), .int .u64 (Sa 3 : Nat), .int .u64 (Sa 4 : Nat), .int .u64 (Sa 5 : Nat), .int .u64 (Sa 6 : Nat), .int .u64 (Sa 7 : Nat), .int .u64 1, .int .u64 0, .int .u64 0, .int .u64 0, .int .u64 0, .int .u64 0, .int .u64 0, .int .u64 0]] (.agg [.sb sw, .int .u64 (W 0 : Nat), .int .u64 (W 1 : Nat), .int .u64 (W 2 : Nat), .int .u64 (W 3 : Nat), .int .u64 (W 4 : Nat), .int .u64 (W 5 : Nat), .int .u64 (W 6 : Nat), .int .u64 (W 7 : Nat), .int .u64 (DW 0 : Nat), .int .u64 (DW 1 : Nat), .int .u64 (DW 2 : Nat), .int .u64 (DW 3 : Nat), .int .u64 (DW 4 : Nat), .int .u64 (DW 5 : Nat), .int .u64 (DW 6 : Nat), .int .u64 (DW 7 : Nat)]))
    (c2 : k.k = 1 → ACalls Try.prog G 15 [.agg [.sb sv, .int .u64 (V 0 : Nat), .int .u64 (V 1 : Nat), .int .u64 (V 2 : Nat), .int .u64 (V 3 : Nat), .int .u64 (V 4 : Nat), .int .u64 (V 5 : Nat), .int .u64 (V 6 : Nat), .int .u64 (V 7 : Nat), .int .u64 (DV 0 : Nat), .int .u64 (DV 1 : Nat), .int .u64 (DV 2 : Nat), .int .u64 (DV 3 : Nat), .int .u64 (DV 4 : Nat), .int .u64 (DV 5 : Nat), .int .u64 (DV 6 : Nat), .int .u64 (DV 7 : Nat)], .agg [.sb sb, .int .u64 (Ta 0 : Nat), .int .u64 (Ta 1 : Nat), .int .u64 (Ta 2 : Nat), .int .u64 (Ta 3 : Nat), .int .u64 (Ta 4 : Nat), .int .u64 (Ta 5 : Nat), .int .u64 (Ta 6 : Nat), .int .u64 (Ta 7 : Nat), .int .u64 1, .int .u64 0, .int .u64 0, .int .u64 0, .int .u64 0, .int .u64 0, .int .u64 0, .int .u64 0]] (.agg [.sb sw, .int .u64 (W 0 : Nat), .int .u64 (W 1 : Nat), .int .u64 (W 2 : Nat), .int .u64 (W 3 : Nat), .int .u64 (W 4 : Nat), .int .u64 (W 5 : Nat), .int .u64 (W 6 : Nat), .int .u64 (W 7 : Nat), .int .u64 (DW 0 : Nat), .int .u64 (DW 1 : Nat), .int .u64 (DW 2 : Nat), .int .u64 (DW 3 : Nat), .int .u64 (DW 4 : Nat), .int .u64 (DW 5 : Nat), .int .u64 (DW 6 : Nat), .int .u64 (DW 7 : Nat)])) :
    ACalls Try.prog G 4 [.agg (mtA m), .agg (sgA s), .agg (sgA t)] (.sb true) := by
  obtain ⟨g1, g2, g3, g4, g5⟩ := hg
  obtain ⟨⟨x1, x2⟩, y1, y2⟩ := line_df g5
  obtain ⟨⟨⟨a1, a2⟩, a3, a4⟩, ⟨⟨b1, b2⟩, b3, b4⟩, _⟩ := g5
  have ht' : k.k = 1 → (-1073741824 ≤ t.b.x - t.a.x ∧ t.b.x - t.a.x ≤ 1073741824) := fun q => (line_df (ht q)).1
  clear ht
  have haw := awake_c (G := G)
  have sX : (sx == sx && (((X 0 : Nat) : Int) == ((X 0 : Nat) : Int) && (((X 1 : Nat) : Int) == ((X 1 : Nat) : Int) && (((X 2 : Nat) : Int) == ((X 2 : Nat) : Int) && (((X 3 : Nat) : Int) == ((X 3 : Nat) : Int) && (((X 4 : Nat) : Int) == ((X 4 : Nat) : Int) && (((X 5 : Nat) : Int) == ((X 5 : Nat) : Int) && (((X 6 : Nat) : Int) == ((X 6 : Nat) : Int) && (((X 7 : Nat) : Int) == ((X 7 : Nat) : Int) && true))))))))) = true := by simp
  have sY : (sy == sy && (((Y 0 : Nat) : Int) == ((Y 0 : Nat) : Int) && (((Y 1 : Nat) : Int) == ((Y 1 : Nat) : Int) && (((Y 2 : Nat) : Int) == ((Y 2 : Nat) : Int) && (((Y 3 : Nat) : Int) == ((Y 3 : Nat) : Int) && (((Y 4 : Nat) : Int) == ((Y 4 : Nat) : Int) && (((Y 5 : Nat) : Int) == ((Y 5 : Nat) : Int) && (((Y 6 : Nat) : Int) == ((Y 6 : Nat) : Int) && (((Y 7 : Nat) : Int) == ((Y 7 : Nat) : Int) && true))))))))) = true := by simp
  have sW : (sw == sw && (((W 0 : Nat) : Int) == ((W 0 : Nat) : Int) && (((W 1 : Nat) : Int) == ((W 1 : Nat) : Int) && (((W 2 : Nat) : Int) == ((W 2 : Nat) : Int) && (((W 3 : Nat) : Int) == ((W 3 : Nat) : Int) && (((W 4 : Nat) : Int) == ((W 4 : Nat) : Int) && (((W 5 : Nat) : Int) == ((W 5 : Nat) : Int) && (((W 6 : Nat) : Int) == ((W 6 : Nat) : Int) && (((W 7 : Nat) : Int) == ((W 7 : Nat) : Int) && (((DW 0 : Nat) : Int) == ((DW 0 : Nat) : Int) && (((DW 1 : Nat) : Int) == ((DW 1 : Nat) : Int) && (((DW 2 : Nat) : Int) == ((DW 2 : Nat) : Int) && (((DW 3 : Nat) : Int) == ((DW 3 : Nat) : Int) && (((DW 4 : Nat) : Int) == ((DW 4 : Nat) : Int) && (((DW 5 : Nat) : Int) == ((DW 5 : Nat) : Int) && (((DW 6 : Nat) : Int) == ((DW 6 : Nat) : Int) && (((DW 7 : Nat) : Int) == ((DW 7 : Nat) : Int) && true))))))))))))))))) = true := by simp
  have s0 : (((0 : Int) == 0) && (((0 : Int) == 0) && true)) = true := rfl
  generalize hE1 : (((DX 0 : Nat) : Int) == 1 && (((DX 1 : Nat) : Int) == 0 && (((DX 2 : Nat) : Int) == 0 && (((DX 3 : Nat) : Int) == 0 && (((DX 4 : Nat) : Int) == 0 && (((DX 5 : Nat) : Int) == 0 && (((DX 6 : Nat) : Int) == 0 && (((DX 7 : Nat) : Int) == 0 && true)))))))) = e1 at hd
  generalize hE2 : (((DY 0 : Nat) : Int) == 1 && (((DY 1 : Nat) : Int) == 0 && (((DY 2 : Nat) : Int) == 0 && (((DY 3 : Nat) : Int) == 0 && (((DY 4 : Nat) : Int) == 0 && (((DY 5 : Nat) : Int) == 0 && (((DY 6 : Nat) : Int) == 0 && (((DY 7 : Nat) : Int) == 0 && true)))))))) = e2 at hd
  cases ok
  · obtain ⟨p1, p2⟩ := ho rfl
    clear ho cox coy hx hy
    obtain ⟨px, py⟩ := p
    dsimp only at p1 p2
    subst p1 p2
    cases e1
    · refine ACalls.of_WA ttok Try.func4 rfl rfl _ rfl ?_
      conv => whnf
      repeat' (first | (exact absurd (hE1.symm.trans (by assumption)) (by decide)) | (exact absurd (s0.symm.trans (by assumption)) (by decide)) | (exact absurd (sW.symm.trans (by assumption)) (by decide)) | refine WA_seq ?_ | (refine WA_region ttok ?_; conv => whnf) | (refine WA_draw ttok mixed ?_; conv => whnf) | (refine WA_cond ?_; conv => whnf) | refine WA_block ?_ | (refine WA_skip ?_; conv => whnf) | (refine WA_exit ?_; conv => whnf) | (refine WA_ret ?_; conv => whnf) | (refine And.intro (fun h => ?_) (fun h => ?_) <;> (try simp only [brsA] at h) <;> conv => whnf) | (refine Or.inl ?_; (conv => whnf); refine Exists.intro _ (And.intro (cw) ?_); conv => whnf) | (refine Or.inr (Or.inr (Or.inl ?_)); (conv => whnf); refine Exists.intro _ (And.intro (cw) ?_); conv => whnf) | (refine Exists.intro _ (And.intro (cw) ?_); conv => whnf) | (refine Or.inl ?_; (conv => whnf); refine Exists.intro _ (And.intro (hl) ?_); conv => whnf) | (refine Or.inr (Or.inr (Or.inl ?_)); (conv => whnf); refine Exists.intro _ (And.intro (hl) ?_); conv => whnf) | (refine Exists.intro _ (And.intro (hl) ?_); conv => whnf) | (refine Or.inl ?_; (conv => whnf); refine Exists.intro _ (And.intro (cx) ?_); conv => whnf) | (refine Or.inr (Or.inr (Or.inl ?_)); (conv => whnf); refine Exists.intro _ (And.intro (cx) ?_); conv => whnf) | (refine Exists.intro _ (And.intro (cx) ?_); conv => whnf) | (refine Or.inl ?_; (conv => whnf); refine Exists.intro _ (And.intro (cy) ?_); conv => whnf) | (refine Or.inr (Or.inr (Or.inl ?_)); (conv => whnf); refine Exists.intro _ (And.intro (cy) ?_); conv => whnf) | (refine Exists.intro _ (And.intro (cy) ?_); conv => whnf) | (refine Or.inl ?_; (conv => whnf); refine Exists.intro _ (And.intro (ck) ?_); conv => whnf) | (refine Or.inr (Or.inr (Or.inl ?_)); (conv => whnf); refine Exists.intro _ (And.intro (ck) ?_); conv => whnf) | (refine Exists.intro _ (And.intro (ck) ?_); conv => whnf) | (refine Or.inl ?_; (conv => whnf); refine Exists.intro _ (And.intro (cu (by omega)) ?_); conv => whnf) | (refine Or.inr (Or.inr (Or.inl ?_)); (conv => whnf); refine Exists.intro _ (And.intro (cu (by omega)) ?_); conv => whnf) | (refine Exists.intro _ (And.intro (cu (by omega)) ?_); conv => whnf) | (refine Or.inl ?_; (conv => whnf); refine Exists.intro _ (And.intro (cv (by omega)) ?_); conv => whnf) | (refine Or.inr (Or.inr (Or.inl ?_)); (conv => whnf); refine Exists.intro _ (And.intro (cv (by omega)) ?_); conv => whnf) | (refine Exists.intro _ (And.intro (cv (by omega)) ?_); conv => whnf) | (refine Or.inl ?_; (conv => whnf); refine Exists.intro _ (And.intro (csa) ?_); conv => whnf) | (refine Or.inr (Or.inr (Or.inl ?_)); (conv => whnf); refine Exists.intro _ (And.intro (csa) ?_); conv => whnf) | (refine Exists.intro _ (And.intro (csa) ?_); conv => whnf) | (refine Or.inl ?_; (conv => whnf); refine Exists.intro _ (And.intro (cta (by omega)) ?_); conv => whnf) | (refine Or.inr (Or.inr (Or.inl ?_)); (conv => whnf); refine Exists.intro _ (And.intro (cta (by omega)) ?_); conv => whnf) | (refine Exists.intro _ (And.intro (cta (by omega)) ?_); conv => whnf) | (refine Or.inl ?_; (conv => whnf); refine Exists.intro _ (And.intro (c1 (by omega)) ?_); conv => whnf) | (refine Or.inr (Or.inr (Or.inl ?_)); (conv => whnf); refine Exists.intro _ (And.intro (c1 (by omega)) ?_); conv => whnf) | (refine Exists.intro _ (And.intro (c1 (by omega)) ?_); conv => whnf) | (refine Or.inl ?_; (conv => whnf); refine Exists.intro _ (And.intro (c2 (by omega)) ?_); conv => whnf) | (refine Or.inr (Or.inr (Or.inl ?_)); (conv => whnf); refine Exists.intro _ (And.intro (c2 (by omega)) ?_); conv => whnf) | (refine Exists.intro _ (And.intro (c2 (by omega)) ?_); conv => whnf) | (refine Or.inl ?_; (conv => whnf); refine Exists.intro _ (And.intro (haw) ?_); conv => whnf) | (refine Or.inr (Or.inr (Or.inl ?_)); (conv => whnf); refine Exists.intro _ (And.intro (haw) ?_); conv => whnf) | (refine Exists.intro _ (And.intro (haw) ?_); conv => whnf) | (refine WR_fit ?_ ?_; (focus (first | exact wr_i64 (by omega) | exact wr_u64 (by omega) | exact wr_u8 (by omega) | exact wr_i32 (by omega) | exact wr_u32 (by omega))); conv => whnf) | (refine WR_wrap ?_; conv => whnf) | (refine And.intro (a := indepB _ _ = true) ?_ ?_; (focus kernel_rfl); conv => whnf) | (refine And.intro rfl ?_; conv => whnf) | (refine And.intro ?_ ?_; (focus (first | omega | decide | (dsimp only; omega) | (simp at *; omega))); conv => whnf))
      all_goals first | contradiction | (exfalso; omega) | skip
    · cases e2
      · refine ACalls.of_WA ttok Try.func4 rfl rfl _ rfl ?_
        conv => whnf
        repeat' (first | (exact absurd (hE1.symm.trans (by assumption)) (by decide)) | (exact absurd (hE2.symm.trans (by assumption)) (by decide)) | (exact absurd hE2.symm (by assumption)) | (exact absurd (s0.symm.trans (by assumption)) (by decide)) | (exact absurd (sW.symm.trans (by assumption)) (by decide)) | refine WA_seq ?_ | (refine WA_region ttok ?_; conv => whnf) | (refine WA_draw ttok mixed ?_; conv => whnf) | (refine WA_cond ?_; conv => whnf) | refine WA_block ?_ | (refine WA_skip ?_; conv => whnf) | (refine WA_exit ?_; conv => whnf) | (refine WA_ret ?_; conv => whnf) | (refine And.intro (fun h => ?_) (fun h => ?_) <;> (try simp only [brsA] at h) <;> conv => whnf) | (refine Or.inl ?_; (conv => whnf); refine Exists.intro _ (And.intro (cw) ?_); conv => whnf) | (refine Or.inr (Or.inr (Or.inl ?_)); (conv => whnf); refine Exists.intro _ (And.intro (cw) ?_); conv => whnf) | (refine Exists.intro _ (And.intro (cw) ?_); conv => whnf) | (refine Or.inl ?_; (conv => whnf); refine Exists.intro _ (And.intro (hl) ?_); conv => whnf) | (refine Or.inr (Or.inr (Or.inl ?_)); (conv => whnf); refine Exists.intro _ (And.intro (hl) ?_); conv => whnf) | (refine Exists.intro _ (And.intro (hl) ?_); conv => whnf) | (refine Or.inl ?_; (conv => whnf); refine Exists.intro _ (And.intro (cx) ?_); conv => whnf) | (refine Or.inr (Or.inr (Or.inl ?_)); (conv => whnf); refine Exists.intro _ (And.intro (cx) ?_); conv => whnf) | (refine Exists.intro _ (And.intro (cx) ?_); conv => whnf) | (refine Or.inl ?_; (conv => whnf); refine Exists.intro _ (And.intro (cy) ?_); conv => whnf) | (refine Or.inr (Or.inr (Or.inl ?_)); (conv => whnf); refine Exists.intro _ (And.intro (cy) ?_); conv => whnf) | (refine Exists.intro _ (And.intro (cy) ?_); conv => whnf) | (refine Or.inl ?_; (conv => whnf); refine Exists.intro _ (And.intro (ck) ?_); conv => whnf) | (refine Or.inr (Or.inr (Or.inl ?_)); (conv => whnf); refine Exists.intro _ (And.intro (ck) ?_); conv => whnf) | (refine Exists.intro _ (And.intro (ck) ?_); conv => whnf) | (refine Or.inl ?_; (conv => whnf); refine Exists.intro _ (And.intro (cu (by omega)) ?_); conv => whnf) | (refine Or.inr (Or.inr (Or.inl ?_)); (conv => whnf); refine Exists.intro _ (And.intro (cu (by omega)) ?_); conv => whnf) | (refine Exists.intro _ (And.intro (cu (by omega)) ?_); conv => whnf) | (refine Or.inl ?_; (conv => whnf); refine Exists.intro _ (And.intro (cv (by omega)) ?_); conv => whnf) | (refine Or.inr (Or.inr (Or.inl ?_)); (conv => whnf); refine Exists.intro _ (And.intro (cv (by omega)) ?_); conv => whnf) | (refine Exists.intro _ (And.intro (cv (by omega)) ?_); conv => whnf) | (refine Or.inl ?_; (conv => whnf); refine Exists.intro _ (And.intro (csa) ?_); conv => whnf) | (refine Or.inr (Or.inr (Or.inl ?_)); (conv => whnf); refine Exists.intro _ (And.intro (csa) ?_); conv => whnf) | (refine Exists.intro _ (And.intro (csa) ?_); conv => whnf) | (refine Or.inl ?_; (conv => whnf); refine Exists.intro _ (And.intro (cta (by omega)) ?_); conv => whnf) | (refine Or.inr (Or.inr (Or.inl ?_)); (conv => whnf); refine Exists.intro _ (And.intro (cta (by omega)) ?_); conv => whnf) | (refine Exists.intro _ (And.intro (cta (by omega)) ?_); conv => whnf) | (refine Or.inl ?_; (conv => whnf); refine Exists.intro _ (And.intro (c1 (by omega)) ?_); conv => whnf) | (refine Or.inr (Or.inr (Or.inl ?_)); (conv => whnf); refine Exists.intro _ (And.intro (c1 (by omega)) ?_); conv => whnf) | (refine Exists.intro _ (And.intro (c1 (by omega)) ?_); conv => whnf) | (refine Or.inl ?_; (conv => whnf); refine Exists.intro _ (And.intro (c2 (by omega)) ?_); conv => whnf) | (refine Or.inr (Or.inr (Or.inl ?_)); (conv => whnf); refine Exists.intro _ (And.intro (c2 (by omega)) ?_); conv => whnf) | (refine Exists.intro _ (And.intro (c2 (by omega)) ?_); conv => whnf) | (refine Or.inl ?_; (conv => whnf); refine Exists.intro _ (And.intro (haw) ?_); conv => whnf) | (refine Or.inr (Or.inr (Or.inl ?_)); (conv => whnf); refine Exists.intro _ (And.intro (haw) ?_); conv => whnf) | (refine Exists.intro _ (And.intro (haw) ?_); conv => whnf) | (refine WR_fit ?_ ?_; (focus (first | exact wr_i64 (by omega) | exact wr_u64 (by omega) | exact wr_u8 (by omega) | exact wr_i32 (by omega) | exact wr_u32 (by omega))); conv => whnf) | (refine WR_wrap ?_; conv => whnf) | (refine And.intro (a := indepB _ _ = true) ?_ ?_; (focus kernel_rfl); conv => whnf) | (refine And.intro rfl ?_; conv => whnf) | (refine And.intro ?_ ?_; (focus (first | omega | decide | (dsimp only; omega) | (simp at *; omega))); conv => whnf))
        all_goals first | contradiction | (exfalso; omega) | skip
      · exact absurd hd (by decide)
  · have cox := cox rfl
    have coy := coy rfl
    clear ho
    rw [Bool.and_eq_true] at hd
    obtain ⟨rfl, rfl⟩ := hd
    refine ACalls.of_WA ttok Try.func4 rfl rfl _ rfl ?_
    conv => whnf
    repeat' (first | (exact absurd (hE1.symm.trans (by assumption)) (by decide)) | (exact absurd (hE2.symm.trans (by assumption)) (by decide)) | (exact absurd hE2.symm (by assumption)) | (exact absurd (sX.symm.trans (by assumption)) (by decide)) | (exact absurd (sY.symm.trans (by assumption)) (by decide)) | (exact absurd (sW.symm.trans (by assumption)) (by decide)) | refine WA_seq ?_ | (refine WA_region ttok ?_; conv => whnf) | (refine WA_draw ttok mixed ?_; conv => whnf) | (refine WA_cond ?_; conv => whnf) | refine WA_block ?_ | (refine WA_skip ?_; conv => whnf) | (refine WA_exit ?_; conv => whnf) | (refine WA_ret ?_; conv => whnf) | (refine And.intro (fun h => ?_) (fun h => ?_) <;> (try simp only [brsA] at h) <;> conv => whnf) | (refine Or.inl ?_; (conv => whnf); refine Exists.intro _ (And.intro (cw) ?_); conv => whnf) | (refine Or.inr (Or.inr (Or.inl ?_)); (conv => whnf); refine Exists.intro _ (And.intro (cw) ?_); conv => whnf) | (refine Exists.intro _ (And.intro (cw) ?_); conv => whnf) | (refine Or.inl ?_; (conv => whnf); refine Exists.intro _ (And.intro (hl) ?_); conv => whnf) | (refine Or.inr (Or.inr (Or.inl ?_)); (conv => whnf); refine Exists.intro _ (And.intro (hl) ?_); conv => whnf) | (refine Exists.intro _ (And.intro (hl) ?_); conv => whnf) | (refine Or.inl ?_; (conv => whnf); refine Exists.intro _ (And.intro (cx) ?_); conv => whnf) | (refine Or.inr (Or.inr (Or.inl ?_)); (conv => whnf); refine Exists.intro _ (And.intro (cx) ?_); conv => whnf) | (refine Exists.intro _ (And.intro (cx) ?_); conv => whnf) | (refine Or.inl ?_; (conv => whnf); refine Exists.intro _ (And.intro (cy) ?_); conv => whnf) | (refine Or.inr (Or.inr (Or.inl ?_)); (conv => whnf); refine Exists.intro _ (And.intro (cy) ?_); conv => whnf) | (refine Exists.intro _ (And.intro (cy) ?_); conv => whnf) | (refine Or.inl ?_; (conv => whnf); refine Exists.intro _ (And.intro (cox) ?_); conv => whnf) | (refine Or.inr (Or.inr (Or.inl ?_)); (conv => whnf); refine Exists.intro _ (And.intro (cox) ?_); conv => whnf) | (refine Exists.intro _ (And.intro (cox) ?_); conv => whnf) | (refine Or.inl ?_; (conv => whnf); refine Exists.intro _ (And.intro (coy) ?_); conv => whnf) | (refine Or.inr (Or.inr (Or.inl ?_)); (conv => whnf); refine Exists.intro _ (And.intro (coy) ?_); conv => whnf) | (refine Exists.intro _ (And.intro (coy) ?_); conv => whnf) | (refine Or.inl ?_; (conv => whnf); refine Exists.intro _ (And.intro (ck) ?_); conv => whnf) | (refine Or.inr (Or.inr (Or.inl ?_)); (conv => whnf); refine Exists.intro _ (And.intro (ck) ?_); conv => whnf) | (refine Exists.intro _ (And.intro (ck) ?_); conv => whnf) | (refine Or.inl ?_; (conv => whnf); refine Exists.intro _ (And.intro (cu (by omega)) ?_); conv => whnf) | (refine Or.inr (Or.inr (Or.inl ?_)); (conv => whnf); refine Exists.intro _ (And.intro (cu (by omega)) ?_); conv => whnf) | (refine Exists.intro _ (And.intro (cu (by omega)) ?_); conv => whnf) | (refine Or.inl ?_; (conv => whnf); refine Exists.intro _ (And.intro (cv (by omega)) ?_); conv => whnf) | (refine Or.inr (Or.inr (Or.inl ?_)); (conv => whnf); refine Exists.intro _ (And.intro (cv (by omega)) ?_); conv => whnf) | (refine Exists.intro _ (And.intro (cv (by omega)) ?_); conv => whnf) | (refine Or.inl ?_; (conv => whnf); refine Exists.intro _ (And.intro (csa) ?_); conv => whnf) | (refine Or.inr (Or.inr (Or.inl ?_)); (conv => whnf); refine Exists.intro _ (And.intro (csa) ?_); conv => whnf) | (refine Exists.intro _ (And.intro (csa) ?_); conv => whnf) | (refine Or.inl ?_; (conv => whnf); refine Exists.intro _ (And.intro (cta (by omega)) ?_); conv => whnf) | (refine Or.inr (Or.inr (Or.inl ?_)); (conv => whnf); refine Exists.intro _ (And.intro (cta (by omega)) ?_); conv => whnf) | (refine Exists.intro _ (And.intro (cta (by omega)) ?_); conv => whnf) | (refine Or.inl ?_; (conv => whnf); refine Exists.intro _ (And.intro (c1 (by omega)) ?_); conv => whnf) | (refine Or.inr (Or.inr (Or.inl ?_)); (conv => whnf); refine Exists.intro _ (And.intro (c1 (by omega)) ?_); conv => whnf) | (refine Exists.intro _ (And.intro (c1 (by omega)) ?_); conv => whnf) | (refine Or.inl ?_; (conv => whnf); refine Exists.intro _ (And.intro (c2 (by omega)) ?_); conv => whnf) | (refine Or.inr (Or.inr (Or.inl ?_)); (conv => whnf); refine Exists.intro _ (And.intro (c2 (by omega)) ?_); conv => whnf) | (refine Exists.intro _ (And.intro (c2 (by omega)) ?_); conv => whnf) | (refine Or.inl ?_; (conv => whnf); refine Exists.intro _ (And.intro (haw) ?_); conv => whnf) | (refine Or.inr (Or.inr (Or.inl ?_)); (conv => whnf); refine Exists.intro _ (And.intro (haw) ?_); conv => whnf) | (refine Exists.intro _ (And.intro (haw) ?_); conv => whnf) | (refine WR_fit ?_ ?_; (focus (first | exact wr_i64 (by omega) | exact wr_u64 (by omega) | exact wr_u8 (by omega) | exact wr_i32 (by omega) | exact wr_u32 (by omega))); conv => whnf) | (refine WR_wrap ?_; conv => whnf) | (refine And.intro (a := indepB _ _ = true) ?_ ?_; (focus kernel_rfl); conv => whnf) | (refine And.intro rfl ?_; conv => whnf) | (refine And.intro ?_ ?_; (focus (first | omega | decide | (dsimp only; omega) | (simp at *; omega))); conv => whnf))
    all_goals first | contradiction | (exfalso; omega) | skip
end Go.Proofs.Ytagokdeflnkplaa

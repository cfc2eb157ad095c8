/-
  PROVED: for every meeting and any two lines the law MeetWhole returns true, and the arguments read as they did. Conditions: none but those of the given row.
-/
import Derived.Test.YtagokdeflnkplaaWhole1
import Derived.Test.YtagokdeflnkplaaAm4
set_option linter.unusedSimpArgs false
namespace Go.Proofs.Ytagokdeflnkplaa
open Go.Proofs.Ytagokdeflnkplaa.Am Go.Sort Go.Proofs
variable {G : GInv}
theorem sgn_same (x : Int) (v : Nat) (p : Bool) (h1 : v = x.natAbs) (h2 : p = decide (x < 0)) : intN x = sgnA p v := by unfold intN; rw [h1, h2]
/-- The theorem of the point of the grid. -/
theorem mwhole_c (m : Mt) (s t : Sg) (hd : m.d ≤ 9223372036854775807) : ACalls Try.prog G 4 [.agg (mtA m), .agg (sgA s), .agg (sgA t)] (.sb true) := by
  by_cases hg : GoodM m s
  · have cw := toBcT (wholeM_c (G := G) m s hg hd)
    have hl := toBc (rline_c (G := G) s)
    obtain ⟨g1, g2, g3, g4, g5⟩ := id hg
    rw [decide_eq_true g5] at hl
    obtain ⟨⟨x1, x2⟩, y1, y2⟩ := line_df g5
    have hgs := g5
    obtain ⟨⟨⟨a1, a2⟩, a3, a4⟩, ⟨⟨b1, b2⟩, b3, b4⟩, _⟩ := hgs
    have cx := part9_c (G := G) (s.b.x - s.a.x) m.n m.d (by omega) (by omega) g3 (by omega) (by omega) hd
    have cy := part9_c (G := G) (s.b.y - s.a.y) m.n m.d (by omega) (by omega) g3 (by omega) (by omega) hd
    obtain ⟨dx, wx⟩ := part_whole (b := s.b.x - s.a.x) (n := m.n) (d := m.d) (by omega)
    obtain ⟨dy, wy⟩ := part_whole (b := s.b.y - s.a.y) (n := m.n) (d := m.d) (by omega)
    rw [← den_one (gcd_bd (by omega) (by omega))] at dx dy
    have qx := stQ_bd x1 x2 g3 g4 (by omega)
    have qy := stQ_bd y1 y2 g3 g4 (by omega)
    have hp : ∃ p : Pt, p = (if stOk (s.b.x - s.a.x) m.n m.d = true ∧ stOk (s.b.y - s.a.y) m.n m.d = true then ⟨s.a.x + stQ (s.b.x - s.a.x) m.n m.d, s.a.y + stQ (s.b.y - s.a.y) m.n m.d⟩ else ⟨0, 0⟩) := ⟨_, rfl⟩
    obtain ⟨p, hp⟩ := hp
    rw [← hp] at cw
    have hd' : (_ && _) = (stOk (s.b.x - s.a.x) m.n m.d && stOk (s.b.y - s.a.y) m.n m.d) := congr (congrArg and dx) dy
    have hyes : (stOk (s.b.x - s.a.x) m.n m.d && stOk (s.b.y - s.a.y) m.n m.d) = true → p.x - s.a.x = stQ (s.b.x - s.a.x) m.n m.d ∧ p.y - s.a.y = stQ (s.b.y - s.a.y) m.n m.d ∧ stOk (s.b.x - s.a.x) m.n m.d = true ∧ stOk (s.b.y - s.a.y) m.n m.d = true := fun q => by
      rw [Bool.and_eq_true] at q
      rw [hp, if_pos q]
      dsimp only
      exact ⟨by omega, by omega, q.1, q.2⟩
    have hno : (stOk (s.b.x - s.a.x) m.n m.d && stOk (s.b.y - s.a.y) m.n m.d) = false → p.x = 0 ∧ p.y = 0 := fun q => by
      rw [hp, if_neg (fun z => by rw [z.1, z.2] at q; exact absurd q (by decide))]
      exact ⟨rfl, rfl⟩
    have hx : -1610612736 ≤ p.x - s.a.x ∧ p.x - s.a.x ≤ 1610612736 := by
      cases hk : (stOk (s.b.x - s.a.x) m.n m.d && stOk (s.b.y - s.a.y) m.n m.d)
      · have := hno hk; omega
      · have := hyes hk; omega
    have hy : -1610612736 ≤ p.y - s.a.y ∧ p.y - s.a.y ≤ 1610612736 := by
      cases hk : (stOk (s.b.x - s.a.x) m.n m.d && stOk (s.b.y - s.a.y) m.n m.d)
      · have := hno hk; omega
      · have := hyes hk; omega
    have cox : (stOk (s.b.x - s.a.x) m.n m.d && stOk (s.b.y - s.a.y) m.n m.d) = true → ACalls Try.prog G 14 [.int .i64 (p.x - s.a.x)] (sgnA _ _) := fun q => by
      obtain ⟨q1, q2, q3, q4⟩ := hyes q
      obtain ⟨z1, z2⟩ := wx q3
      have h := of5_c (G := G) (stQ (s.b.x - s.a.x) m.n m.d) (by omega) (by omega)
      rw [sgn_same _ _ _ z1 z2.symm.symm] at h
      rw [q1]
      exact h
    have coy : (stOk (s.b.x - s.a.x) m.n m.d && stOk (s.b.y - s.a.y) m.n m.d) = true → ACalls Try.prog G 14 [.int .i64 (p.y - s.a.y)] (sgnA _ _) := fun q => by
      obtain ⟨q1, q2, q3, q4⟩ := hyes q
      obtain ⟨z1, z2⟩ := wy q4
      have h := of5_c (G := G) (stQ (s.b.y - s.a.y) m.n m.d) (by omega) (by omega)
      rw [sgn_same _ _ _ z1 z2.symm.symm] at h
      rw [q2]
      exact h
    have ck := of_c (G := G) s t
    have hk := same_place s t
    have csa := of5_c (G := G) s.a.x (by omega) (by omega)
    by_cases hk1 : (meetM s t).k = 1
    · obtain ⟨hT, n1, m1, d1, n2, m2, d2, he⟩ := hk hk1
      obtain ⟨⟨u1, u2⟩, _⟩ := line_df hT.2.1
      have htl := hT.2.1
      obtain ⟨⟨⟨e1, e2⟩, e3, e4⟩, _⟩ := htl
      have cta := of5_c (G := G) t.a.x (by omega) (by omega)
      have cu := part9_c (G := G) (s.b.x - s.a.x) (meetM s t).n (meetM s t).d (by omega) (by omega) n1 (by omega) d1 d2
      have cv := part9_c (G := G) (t.b.x - t.a.x) (meetM s t).m (meetM s t).d (by omega) (by omega) m1 (by omega) d1 d2
      have c1 := padd_c (G := G) (s.b.x - s.a.x) (meetM s t).n (meetM s t).d s.a.x x1 x2 n1 (by omega) d1 d2 (by omega) (by omega)
      have c2 := padd_c (G := G) (t.b.x - t.a.x) (meetM s t).m (meetM s t).d t.a.x u1 u2 m1 (by omega) d1 d2 (by omega) (by omega)
      rw [← he, rat_one] at c2
      rw [rat_one] at c1
      exact mwhole_walk m (meetM s t) s t p _ _ _ _ _ _ _ hg cw hx hy hl cx cy hd' hno cox coy ck (fun _ => hT.2.1) _ _ _ _ _ _ _ _ _ _ _ _ _ (fun _ => cu) (fun _ => cv) csa (fun _ => cta) (fun _ => c1) (fun _ => c2)
    · exact mwhole_walk m (meetM s t) s t p _ _ _ _ _ _ _ hg cw hx hy hl cx cy hd' hno cox coy ck (fun q => absurd q hk1) false false false _ false (fun _ => 0) (fun _ => 0) (fun _ => 0) (fun _ => 0) (fun _ => 0) (fun _ => 0) _ (fun _ => 0) (fun q => absurd q hk1) (fun q => absurd q hk1) csa (fun q => absurd q hk1) (fun q => absurd q hk1) (fun q => absurd q hk1)
  · exact mwhole_bad m s t hg
end Go.Proofs.Ytagokdeflnkplaa
set_option linter.unusedSimpArgs false
namespace Go.Proofs.Ytagokdeflnkplaa
open Go.ChangeShapes Go.WideShapes Go.ChangeAt Go.RowKit
open Go.Proofs.Ytagokdeflnkplaa.Am
theorem Try.own : ownKnob Try.prog.godebug = none := by kernel_rfl
theorem Try.laidOut : laidOutB Try.prog = true := by kernel_rfl
def gTrue : GInv := ⟨fun _ => True, 0, fun _ _ => Nat.zero_le _, fun _ _ _ _ _ => trivial⟩
theorem u3 : Try.prog.underlying 3 = some (.int .i64) := by kernel_rfl
theorem o_int : Opens Try.prog 3 (fun n : Int => [.int .i64 n]) (fun n => -9223372036854775808 ≤ n ∧ n ≤ 9223372036854775807) := opens_i64 u3
theorem o_pt : Opens Try.prog 23 ptA (fun _ => True) :=
  (opens_struct (t := 23) (L := [(3, 0, 1), (3, 1, 1)]) (by kernel_rfl) (by kernel_rfl) (opensF_cons o_int (opensF_cons o_int opensF_nil))).to
    (fun x => (⟨x.1, x.2.1⟩ : Pt)) (fun _ => rfl) (fun _ _ => trivial)
theorem o_seg : Opens Try.prog 25 sgA (fun _ => True) :=
  (opens_struct (t := 25) (L := [(23, 0, 2), (23, 2, 2)]) (by kernel_rfl) (by kernel_rfl) (opensF_cons o_pt (opensF_cons o_pt opensF_nil))).to
    (fun x => (⟨x.1, x.2.1⟩ : Sg)) (fun _ => rfl) (fun _ _ => trivial)
theorem o_mt : Opens Try.prog 27 mtA (fun m => m.d ≤ 9223372036854775807) :=
  (opens_struct (t := 27) (L := [(3, 0, 1), (3, 1, 1), (3, 2, 1), (3, 3, 1), (23, 4, 2), (23, 6, 2)]) (by kernel_rfl) (by kernel_rfl) (opensF_cons o_int (opensF_cons o_int (opensF_cons o_int (opensF_cons o_int (opensF_cons o_pt (opensF_cons o_pt opensF_nil))))))).to
    (fun x => (⟨x.1, x.2.1, x.2.2.1, x.2.2.2.1, x.2.2.2.2.1, x.2.2.2.2.2.1⟩ : Mt)) (fun _ => rfl) (fun _ h => h.2.2.2.1.2)
theorem toSb {P : Program} {G : GInv} {f : FuncId} {args : List A} {b : Bool} (h : ACalls P G f args (.bool b)) : ACalls P G f args (.sb b) := by
  refine ⟨h.1, fun im w vs h1 h2 h3 h4 => ?_⟩
  refine Calls_mono (h.2 im w vs h1 h2 h3 h4) ?_
  rintro e w' ⟨v, e1, e2, e3⟩
  refine ⟨v, e1, ?_, e3⟩
  cases e2; exact .sb b
theorem args3 {im : Nat → Prop} {W : World} {x0 x1 x2 : A} {v0 v1 v2 : Value} (h0 : RelI im W x0 v0) (h1 : RelI im W x1 v1) (h2 : RelI im W x2 v2) :
    ∀ j (_ : j < [x0, x1, x2].length) (_ : j < [v0, v1, v2].length), RelI im W [x0, x1, x2][j] [v0, v1, v2][j] := by
  intro j h _
  match j with
  | 0 => exact h0
  | 1 => exact h1
  | 2 => exact h2
  | j + 3 => exact absurd h (by simp)
set_option maxRecDepth 100000 in
theorem meetWhole_lifted (os : Os) (started : os.Started) (H : Type) (enc : TypeId × Value → H) :
    ReturnsInHanded {} Try.checked os 4 .any (Rows.meetWholeSpec.pre6 enc Try.prog Try.f4 Rows.meetWholeRow.domain false) (Rows.meetWholeSpec.post enc Try.prog Try.f4 false true false false) := by
  refine returnsInHanded_of_change (C := Try.checked) Try.own started (by kernel_rfl) Try.func4
    (ChangeSpec.witness6 (enc := enc) (C := Try.checked) false ⟨#[], #[.agg #[.int .i64 0, .int .i64 0, .int .i64 0, .int .i64 0, .int .i64 0, .int .i64 0, .int .i64 0, .int .i64 0], .agg #[.int .i64 0, .int .i64 0, .int .i64 0, .int .i64 0], .agg #[.int .i64 0, .int .i64 0, .int .i64 0, .int .i64 0]], []⟩ 8 (by kernel_rfl) (by kernel_rfl) (by kernel_rfl) (by kernel_rfl)) ?_
  intro W base args ds gs before hval0 hW hcnd _
  have hval : ∀ (j : Nat) t v, Try.f4.params[j]? = some t → args[j]? = some v → Value.okWide Try.prog W .any base t v := hval0
  have hW' := hW
  obtain ⟨p, q, hA0, hV, rfl, hfz, hnd⟩ := hW
  have hA : DataW.TrodAll enc Try.prog W 0 (fun _ => true) true Try.f4.params.toList args.toList ds p := hA0
  rw [Try.params4] at hA hval
  obtain ⟨v0, v1, v2, d0, d1, d2, p0, p1, p2, rfl, rfl, rfl, h0, h1, h2⟩ := trodAll_three hA
  obtain ⟨rfl, rfl⟩ := trodVars_none hV
  have hlt : ∀ x ∈ p0 ++ p1 ++ p2, x.block < W.heap.size := fun x hx => hW'.lt x (by simpa using hx)
  obtain ⟨m, ok0, r0⟩ := o_mt.agg (im := fun b => b < W.heap.size) h0 (okWide_agg (hval 0 27 v0 rfl rfl) (by kernel_rfl)) (fun x hx => hlt x (by simp [hx]))
  obtain ⟨s, ok1, r1⟩ := o_seg.agg (im := fun b => b < W.heap.size) h1 (okWide_agg (hval 1 25 v1 rfl rfl) (by kernel_rfl)) (fun x hx => hlt x (by simp [hx]))
  obtain ⟨t, ok2, r2⟩ := o_seg.agg (im := fun b => b < W.heap.size) h2 (okWide_agg (hval 2 25 v2 rfl rfl) (by kernel_rfl)) (fun x hx => hlt x (by simp [hx]))
  refine Calls_mono (calls_true (G := gTrue) (mwhole_c m s t ok0) (W := W) (vs := [v0, v1, v2]) (im := fun b => b < W.heap.size) (fun _ h => h) trivial rfl (args3 r0 r1 r2)) ?_
  rintro e W' ⟨rfl, hb⟩
  exact ⟨_, rfl, post_true Try.laidOut rfl (by kernel_rfl) Try.underlying4 (by kernel_rfl) rfl hW' hb⟩
theorem meetWhole_holds : Rows.MeetWholeSaid :=
  OpenClaim.holds_of_wide 4 Try.f4 rfl rfl rfl rfl rfl rfl rfl ⟨rfl, rfl, rfl, rfl, rfl⟩ rfl rfl rfl rfl rfl (by kernel_rfl) Try.func4 (by kernel_rfl)
    (of_decide_eq_true (by kernel_rfl)) (by unfold Func.isWrapper; first | (rw [if_pos (by decide +kernel)]; kernel_rfl) | (rw [if_neg (by decide +kernel)]; exact ⟨rfl, rfl⟩))
    (fun os started H enc _ => meetWhole_lifted os started H enc)
#print axioms meetWhole_holds
end Go.Proofs.Ytagokdeflnkplaa

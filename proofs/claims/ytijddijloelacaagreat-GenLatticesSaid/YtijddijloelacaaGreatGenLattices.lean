/-
  ANY LATTICE, AND ITS NET: the law GenLattices is true of every input.
-/
import Derived.Tactics
import Derived.Test.YtijddijloelacaaGreatGenStars
import Derived.Test.YtijddijloelacaaGreatGenStars5
import Derived.Test.YtijddijloelacaaGreatGenStarsm4
set_option linter.unusedSimpArgs false
set_option linter.unusedSectionVars false
set_option linter.unusedVariables false
set_option maxRecDepth 100000
set_option linter.unusedSectionVars false
namespace Go.Proofs.YtijddijloelacaaGreat.Am
variable [Inhabited bY]
section
variable {P : Program} {G : aG} {s : List A} {m : List aq}
/-- Blocks frozen ahead of a region, where k blocks stand. -/
theorem Tz {Q : Exit → List A → List aq → Prop} {id : Nat} {l : Array Oper} {d : Bool} (k : Nat) (bs : List Nat) (_hk : Nat.beq m.length k = true)
    (h : wT bs s m fun s' m' => WA P G (.region id l d) Q s' m') : WA P G (.region id l d) Q s m := by
  unfold WA
  intro c a w ids hG hs
  obtain ⟨s', m', ab, h', bH⟩ := mQ bs hs h
  unfold WA at h'
  exact h' c a w ab hG bH
variable {ty : TypeId} {agg : Bool} {sh : List KS} {n hi : Nat} {cs : List A} {jb : Nat → Nat} {has : Nat → List KC → Bool} {val : Nat → List KC → A}
end
end Go.Proofs.YtijddijloelacaaGreat.Am
set_option linter.unusedSimpArgs false
set_option linter.unusedSectionVars false
namespace Go.Proofs.YtijddijloelacaaGreat
open Go.Proofs.YtijddijloelacaaGreat.Am
variable [Inhabited bY]
variable {G : aG}

theorem ne_len {α : Type} {l m : List α} (h : ¬ (l.length : Int) = m.length) : l ≠ m := fun e => h (by rw [e])
theorem sameL_c (l m : List Rd) (hl : Lt l) : aa Tryz.prog G 17 [sP l, sP m] (.sb (decide (l = m))) := by
  have Uf := hl.1
  refine aa.aj ak Tryz.func17 rfl rfl _ rfl ?_
  conv => whnf
  repeat' (first | (refine st ?_; conv => whnf) | (refine ⟨fun h => ?_, fun h => ?_⟩ <;> (try simp only [af] at h) <;> conv => whnf) | ((first | refine wf ?_ | refine aA ?_ | refine nn ?_ | fail); conv => whnf))
  · exact (decide_eq_false (ne_len h)).symm
  have hlm : l.length = m.length := by omega
  refine al (fun i : Nat => i ≤ l.length ∧ ∀ k, k < i → l.getD k default = m.getD k default) (fun i => [(5, .int .i64 (i : Int))]) (fun _ => []) (fun i => l.length - i) 0 ⟨by omega, fun k hk => by omega⟩ ?_ ?_
  · exact ff
  · rintro i ⟨hi, he⟩
    conv => whnf
    repeat (first | (refine st ?_; conv => whnf))
    refine ⟨fun h => ?_, fun h => ?_⟩
    · have h : (i : Int) < l.length := of_decide_eq_true h
      have hc := Ig (G := G) (l.getD i default) (m.getD i default) (hl.2 i (by omega))
      conv => whnf
      repeat' (first | (refine st ?_; conv => whnf) | (refine ⟨fun h => ?_, fun h => ?_⟩ <;> (try simp only [af] at h) <;> conv => whnf) | (refine .inl ?_; (conv => whnf); refine ⟨_, hc, ?_⟩; conv => whnf) | ((first | refine wf ?_ | refine aA ?_ | refine nn ?_ | fail); conv => whnf))
      · have h : ¬ l.getD i default = m.getD i default := h
        exact (decide_eq_false fun e => h (by rw [e])).symm
      · have h : l.getD i default = m.getD i default := h
        refine ⟨i + 1, ⟨by omega, fun k hk => ?_⟩, (by show l.length - (i + 1) < l.length - i; omega), ?_⟩
        · rcases Nat.lt_or_ge k i with q | q
          · exact he k q
          · have : k = i := by omega
            subst this; exact h
        · exact ff
    · have h : ¬ (i : Int) < l.length := of_decide_eq_false h
      conv => whnf
      repeat' (first | (refine st ?_; conv => whnf) | (refine ⟨fun h => ?_, fun h => ?_⟩ <;> (try simp only [af] at h) <;> conv => whnf) | ((first | refine wf ?_ | refine aA ?_ | refine nn ?_ | fail); conv => whnf))
      exact (decide_eq_true ((qa default l m).2 ⟨hlm, fun k hk => he k (by omega)⟩)).symm
end Go.Proofs.YtijddijloelacaaGreat
set_option linter.unusedSimpArgs false
set_option linter.unusedSectionVars false
set_option linter.unusedVariables false
namespace Go.Proofs.YtijddijloelacaaGreat
open Go.Proofs.YtijddijloelacaaGreat.Am Go.Sort Go.Proofs Go.Lib Go.NetL
variable [Inhabited bY]
theorem runF_at {S : List Sp} {i k : Nat} (hk : k < (yT S i).length) : (yT S i).getD k default = UF (S.getD i default) (FS (pf S) i) (gA (pf S)) k := by
  have gn : k < (FS (pf S) i).length - 1 := by rw [← yU]; exact hk
  show (qb _ _ _ _).getD k default = _
  unfold qb
  rw [List.getD_eq_getElem?_getD, List.getElem?_map, List.getElem?_range gn]; rfl
end Go.Proofs.YtijddijloelacaaGreat
set_option linter.unusedSimpArgs false
set_option linter.unusedSectionVars false
set_option linter.unusedVariables false
namespace Go.Proofs.YtijddijloelacaaGreat
open Go.Proofs.YtijddijloelacaaGreat.Am Go.Sort Go.Proofs Go.Lib Go.NetL
variable [Inhabited bY]
/-! ### The theorem of pieces: plain laws -/
/-- What is known of the edge of a key behind some runs. -/
def EmP (l : List Rn) (k : Int × Int) : Option Ed → Prop
  | none => ∀ r ∈ l, (r.lo, r.hi) ≠ k
  | some e => (∀ r ∈ l, (r.lo, r.hi) = k → e.w ≤ r.w ∧ ((r.fw || !r.ow) = true → e.f = true) ∧ ((!r.fw || !r.ow) = true → e.k = true)) ∧ ∃ r, r ∈ l ∧ (r.lo, r.hi) = k ∧ e.w = r.w
theorem em_step (l : List Rn) (M : FO) (r : Rn) (h : ∀ k, EmP l k (M k)) : ∀ k, EmP (l ++ [r]) k (NetL.stM M r k) := by
  intro k
  unfold NetL.stM
  have hk := h k
  by_cases c : k = (r.lo, r.hi)
  · rw [if_pos c]
    cases hM : M k with
    | none =>
      rw [hM] at hk
      refine ⟨fun x hx hxk => ?_, r, by simp, c.symm, rfl⟩
      rcases List.mem_append.1 hx with hx | hx
      · exact absurd hxk (hk x hx)
      · rw [List.mem_singleton] at hx; subst hx
        exact ⟨Int.le_refl _, fun q => q, fun q => q⟩
    | some e =>
      rw [hM] at hk
      obtain ⟨a, x0, b1, b2, b3⟩ := hk
      refine ⟨fun x hx hxk => ?_, ?_⟩
      · show (if r.w < e.w then r.w else e.w) ≤ x.w ∧ ((x.fw || !x.ow) = true → (e.f || r.fw || !r.ow) = true) ∧ ((!x.fw || !x.ow) = true → (e.k || !r.fw || !r.ow) = true)
        rcases List.mem_append.1 hx with hx | hx
        · obtain ⟨p, q, s⟩ := a x hx hxk
          exact ⟨by split <;> omega, fun t => by rw [q t]; rfl, fun t => by rw [s t]; rfl⟩
        · rw [List.mem_singleton] at hx; subst hx
          exact ⟨by split <;> omega, fun t => by rw [Bool.or_assoc, t, Bool.or_true], fun t => by rw [Bool.or_assoc, t, Bool.or_true]⟩
      · by_cases w : r.w < e.w
        · exact ⟨r, by simp, c.symm, by show (if r.w < e.w then r.w else e.w) = _; rw [if_pos w]⟩
        · exact ⟨x0, List.mem_append_left _ b1, b2, by show (if r.w < e.w then r.w else e.w) = _; rw [if_neg w]; exact b3⟩
  · rw [if_neg c]
    cases hM : M k with
    | none =>
      rw [hM] at hk
      intro x hx
      rcases List.mem_append.1 hx with hx | hx
      · exact hk x hx
      · rw [List.mem_singleton] at hx; subst hx; exact fun q => c q.symm
    | some e =>
      rw [hM] at hk
      obtain ⟨a, x0, b1, b2⟩ := hk
      refine ⟨fun x hx hxk => ?_, x0, List.mem_append_left _ b1, b2⟩
      rcases List.mem_append.1 hx with hx | hx
      · exact a x hx hxk
      · rw [List.mem_singleton] at hx; subst hx; exact absurd hxk.symm c
theorem em_all (l : List Rn) : ∀ k, EmP l k (EM l k) := by
  have key : ∀ (rs l : List Rn) (M : FO), (∀ k, EmP l k (M k)) → ∀ k, EmP (l ++ rs) k (rs.foldl NetL.stM M k) := fun rs => by
    induction rs with
    | nil => intro l M h k; rw [List.append_nil]; exact h k
    | cons r rs ih =>
      intro l M h k
      have := ih (l ++ [r]) (NetL.stM M r) (em_step l M r h) k
      rw [List.append_assoc] at this
      exact this
  exact key l [] _ fun k r hr => by cases hr
end Go.Proofs.YtijddijloelacaaGreat
set_option linter.unusedSimpArgs false
set_option linter.unusedSectionVars false
set_option linter.unusedVariables false
namespace Go.Proofs.YtijddijloelacaaGreat
open Go.Proofs.YtijddijloelacaaGreat.Am Go.Sort Go.Proofs Go.Lib Go.NetL
variable [Inhabited bY]
variable {G : aG}
/-! ### Edges written in place; the document's Edge on a value -/
theorem atR {P : Program} {Q : Exit → List A → List aq → Prop} {s : List A} {m : List aq} (id : Nat) {l : Array Oper} {d : Bool} (h : WA P G (.region id l d) Q s m) : WA P G (.region id l d) Q s m := h
end Go.Proofs.YtijddijloelacaaGreat
set_option linter.unusedSimpArgs false
set_option linter.unusedSectionVars false
set_option linter.unusedVariables false
namespace Go.Proofs.YtijddijloelacaaGreat
open Go.Proofs.YtijddijloelacaaGreat.Am Go.Sort Go.Proofs Go.Lib Go.NetL
variable [Inhabited bY]
variable {G : aG}
/-! ### Lattices: a row of points -/
def rowPts (f : Nat → Pt) (n : Nat) : List Pt := (List.range n).map f
def roadR (id : Int) (f : Nat → Pt) (n : Nat) (W : Int) : Rd := ⟨id, rowPts f n, List.replicate (n - 1) W, false⟩
theorem rowPts_len (f : Nat → Pt) (n : Nat) : (rowPts f n).length = n := by simp [rowPts]
theorem rowPts_at (f : Nat → Pt) {n j : Nat} (h : j < n) : (rowPts f n).getD j default = f j := by
  rw [List.getD_eq_getElem?_getD, List.getElem?_eq_getElem (by rw [rowPts_len]; exact h)]
  simp [rowPts]
theorem at1_c (y i : Int) : aa Tryz.prog G 54 [.int .i64 i, .bref [.int .i64 y] 0] (.agg (kY ⟨i, y⟩)) := by
  refine aa.aj ak Tryz.func54 rfl rfl _ rfl ?_
  conv => whnf
  repeat' (first | (refine st ?_; conv => whnf) | (refine ⟨fun h => ?_, fun h => ?_⟩ <;> (try simp only [af] at h) <;> conv => whnf) | ((first | refine wf ?_ | refine aA ?_ | refine nn ?_ | fail); conv => whnf))
theorem at2_c (x i : Int) : aa Tryz.prog G 55 [.int .i64 i, .bref [.int .i64 x] 0] (.agg (kY ⟨x, i⟩)) := by
  refine aa.aj ak Tryz.func55 rfl rfl _ rfl ?_
  conv => whnf
  repeat' (first | (refine st ?_; conv => whnf) | (refine ⟨fun h => ?_, fun h => ?_⟩ <;> (try simp only [af] at h) <;> conv => whnf) | ((first | refine wf ?_ | refine aA ?_ | refine nn ?_ | fail); conv => whnf))
set_option maxRecDepth 100000 in
set_option maxHeartbeats 1000000 in
theorem row_c (id W : Int) (n : Nat) (hn : 2 ≤ n ∧ n ≤ 100) (g : Nat) (y : Int) (f : Nat → Pt) (hf : ∀ i : Nat, aa Tryz.prog G g [.int .i64 (i : Int), .bref [.int .i64 y] 0] (.agg (kY (f i)))) :
    aa Tryz.prog G 53 [.int .i64 id, .int .i64 (n : Int), .int .i64 W, .fn g [.bref [.int .i64 y] 0]] (.agg (kv (roadR id f n W))) := by
  have h0 := hf 0
  refine aa.aj ak Tryz.func53 rfl rfl _ rfl ?_
  unfold kY at h0
  conv => whnf
  repeat' (first | ((exfalso; omega)) | (refine st ?_; conv => whnf) | (refine ⟨fun h => ?_, fun h => ?_⟩ <;> (try simp only [af] at h) <;> conv => whnf) | (refine .inl ?_; (conv => whnf); refine ⟨_, h0, ?_⟩; conv => whnf) | ((first | refine wf ?_ | refine aA ?_ | refine nn ?_ | fail); conv => whnf))
  refine Dj 2 2 3 1 rfl rfl ?_
  conv => whnf
  refine al (fun i : Nat => i + 1 ≤ n) (fun i => [(10, .int .i64 ((i : Int) + 1)), (14, .ae), (15, .ae)]) (fun i => [.box 31 [.int .i64 0, .aR, .aR, .bool false], .row 33 2 (i + 1) fun j => kY (f j), .box 31 [.int .i64 id, .own 1, .own 3, .bool false], .row 3 1 i fun _ => [.int .i64 W]]) (fun i => n - i) 0 (by omega) ?_ ?_
  · conv => whnf
    repeat (first | exact fa | ((first | refine fb ?_ | (refine And.intro ?_ ?_; rotate_left)); conv => whnf))
    all_goals first
      | (refine .inl fun i hi => ?_; (have : i = 0 := by omega); subst this; rfl)
      | exact .inl fun i hi => absurd hi (Nat.not_lt_zero _)
     
  · intro i hi
    have hi : i + 1 ≤ n := hi
    have QT := hf (i + 1)
    unfold kY at QT
    rcases Nat.lt_or_ge (i + 1) n with dE | dE
    · conv => whnf
      repeat' (first | ((exfalso; omega)) | ((refine atR 4 ?_; refine mq (id := 4) 7 [0, 5, 2, 3] rfl rfl ?_; (conv => whnf); refine st ?_; conv => whnf)) | (refine st ?_; conv => whnf) | (refine ⟨fun h => ?_, fun h => ?_⟩ <;> (try simp only [af] at h) <;> conv => whnf) | (refine .inl ?_; (conv => whnf); refine ⟨_, QT, ?_⟩; conv => whnf) | ((first | refine wf ?_ | refine aA ?_ | refine nn ?_ | fail); conv => whnf))
      refine ⟨i + 1, dE, (by show n - (i + 1) < n - i; omega), ?_⟩
      conv => whnf
      repeat (first | exact fa | ((first | refine fb ?_ | (refine And.intro ?_ ?_; rotate_left)); conv => whnf))
      all_goals first | exact .inl fun j hj => Pp (fun j => kY (f j)) (i + 1) _ rfl j hj | exact .inl fun j hj => Pp (fun _ => [.int .i64 W]) i _ rfl j hj
    · have e : n = i + 1 := by omega
      subst e
      conv => whnf
      repeat' (first | ((exfalso; omega)) | (refine st ?_; conv => whnf) | (refine ⟨fun h => ?_, fun h => ?_⟩ <;> (try simp only [af] at h) <;> conv => whnf) | ((first | refine wf ?_ | refine aA ?_ | refine nn ?_ | fail); conv => whnf))
      refine ⟨(rowPts_len f (i + 1)).symm, ?_⟩
      conv => whnf
      refine ⟨.inl fun j hj => by show kY (f j) = kY ((rowPts f (i + 1)).getD j default); rw [rowPts_at f hj], ?_⟩
      conv => whnf
      refine ⟨by show i = (List.replicate (i + 1 - 1) W).length; rw [List.length_replicate]; omega, ?_⟩
      conv => whnf
      refine ⟨.inl fun j hj => by show [A.int .i64 W] = [A.int .i64 ((List.replicate (i + 1 - 1) W).getD j 0)]; rw [List.getD_eq_getElem?_getD, List.getElem?_replicate, if_pos (by omega)]; rfl, ?_⟩
      conv => whnf
      first | done | rfl
end Go.Proofs.YtijddijloelacaaGreat
set_option linter.unusedSimpArgs false
set_option linter.unusedSectionVars false
set_option linter.unusedVariables false
namespace Go.Proofs.YtijddijloelacaaGreat
open Go.Proofs.YtijddijloelacaaGreat.Am Go.Sort Go.Proofs Go.Lib Go.NetL
variable [Inhabited bY]
variable {G : aG}
/-! ### Lattices: the program's -/
def hL (w : Nat) (W : Int) (y : Nat) : Rd := roadR ((y : Int) + 1) (fun i => ⟨(i : Int), (y : Int)⟩) w W
def vLat (h : Nat) (W : Int) (x : Nat) : Rd := roadR (((h + x : Nat) : Int) + 1) (fun i => ⟨(x : Int), (i : Int)⟩) h W
def latAt (w h : Nat) (W : Int) (j : Nat) : Rd := if j < h then hL w W j else vLat h W (j - h)
def latL (w h : Nat) (W : Int) : List Rd := (List.range (h + w)).map (latAt w h W)
theorem lat_len (w h : Nat) (W : Int) : (latL w h W).length = h + w := by simp [latL]
theorem lat_at {w h : Nat} {W : Int} {j : Nat} (hj : j < h + w) : (latL w h W).getD j default = latAt w h W j := by
  rw [List.getD_eq_getElem?_getD, List.getElem?_eq_getElem (by rw [lat_len]; exact hj)]
  simp [latL]
set_option maxRecDepth 100000 in
set_option maxHeartbeats 1000000 in
theorem lat_ok (w b : Nat) (W : Int) (hw : 2 ≤ w ∧ w ≤ 15) (hh : 2 ≤ b ∧ b ≤ 15) (hW : 0 ≤ W ∧ W ≤ 2147483648) :
    aa Tryz.prog G 16 [.int .i64 (w : Int), .int .i64 (b : Int), .int .i64 W] (.tup [sP (latL w b W), .int .i64 0]) := by
  refine aa.aj ak Tryz.func16 rfl rfl _ rfl ?_
  conv => whnf
  repeat' (first | ((exfalso; omega)) | (refine st ?_; conv => whnf) | (refine ⟨fun h => ?_, fun h => ?_⟩ <;> (try simp only [af] at h) <;> conv => whnf) | ((first | refine wf ?_ | refine aA ?_ | refine nn ?_ | fail); conv => whnf))
  refine gw 8 31 4 rfl ?_
  conv => whnf
  refine al (fun i : Nat => i ≤ b) (fun i => [(26, .int .i64 (i : Int)), (8, .own 0)]) (fun i => [.row 31 4 i fun j => kv (hL w W j)]) (fun i => b - i) 0 (Nat.zero_le _) ?_ ?_
  · conv => whnf
    repeat (first | exact fa | ((first | refine fb ?_ | (refine And.intro ?_ ?_; rotate_left)); conv => whnf))
  · intro i hi
    have hi : i ≤ b := hi
    rcases Nat.lt_or_ge i b with dE | dE
    · have q := row_c (G := G) ((i : Int) + 1) W w ⟨hw.1, by omega⟩ 54 (i : Int) (fun j => ⟨(j : Int), (i : Int)⟩) (fun j => at1_c (i : Int) (j : Int))
      conv => whnf
      repeat' (first | ((exfalso; omega)) | (refine st ?_; conv => whnf) | (refine ⟨fun h => ?_, fun h => ?_⟩ <;> (try simp only [af] at h) <;> conv => whnf) | (refine .inr (.inr (.inl ?_)); (conv => whnf); refine ⟨_, q, ?_⟩; conv => whnf) | ((first | refine wf ?_ | refine aA ?_ | refine nn ?_ | fail); conv => whnf))
      refine ⟨i + 1, dE, (by show b - (i + 1) < b - i; omega), ?_⟩
      conv => whnf
      repeat (first | exact fa | ((first | refine fb ?_ | (refine And.intro ?_ ?_; rotate_left)); conv => whnf))
      all_goals first | exact .inl fun j hj => Pp (fun j => kv (hL w W j)) i _ rfl j hj
    · have e : i = b := by omega
      subst e
      conv => whnf
      repeat' (first | ((exfalso; omega)) | (refine st ?_; conv => whnf) | (refine ⟨fun h => ?_, fun h => ?_⟩ <;> (try simp only [af] at h) <;> conv => whnf) | ((first | refine wf ?_ | refine aA ?_ | refine nn ?_ | fail); conv => whnf))
      refine al (fun k : Nat => k ≤ w) (fun k => [(41, .int .i64 (k : Int)), (8, .own 0)]) (fun k => [.row 31 4 (i + k) fun j => kv (latAt w i W j)]) (fun k => w - k) 0 (Nat.zero_le _) ?_ ?_
      · conv => whnf
        repeat (first | exact fa | ((first | refine fb ?_ | (refine And.intro ?_ ?_; rotate_left)); conv => whnf))
        all_goals first | exact .inl fun j hj => by show kv (hL w W j) = kv (latAt w i W j); unfold latAt; rw [if_pos hj]
      · intro k hk
        have hk : k ≤ w := hk
        rcases Nat.lt_or_ge k w with pN | pN
        · have q := row_c (G := G) (((i + k : Nat) : Int) + 1) W i ⟨hh.1, by omega⟩ 55 (k : Int) (fun j => ⟨(k : Int), (j : Int)⟩) (fun j => at2_c (k : Int) (j : Int))
          have e2 : kv (roadR (((i + k : Nat) : Int) + 1) (fun j => ⟨(k : Int), (j : Int)⟩) i W) = kv (latAt w i W (i + k)) := by
            unfold latAt; rw [if_neg (by omega), Nat.add_sub_cancel_left]; rfl
          conv => whnf
          repeat' (first | ((exfalso; omega)) | (refine st ?_; conv => whnf) | (refine ⟨fun h => ?_, fun h => ?_⟩ <;> (try simp only [af] at h) <;> conv => whnf) | (refine .inr (.inr (.inl ?_)); (conv => whnf); refine ⟨_, q, ?_⟩; conv => whnf) | ((first | refine wf ?_ | refine aA ?_ | refine nn ?_ | fail); conv => whnf))
          refine ⟨k + 1, pN, (by show w - (k + 1) < w - k; omega), ?_⟩
          conv => whnf
          repeat (first | exact fa | ((first | refine fb ?_ | (refine And.intro ?_ ?_; rotate_left)); conv => whnf))
          all_goals first | exact .inl fun j hj => Pp (fun j => kv (latAt w i W j)) (i + k) _ e2 j hj
        · have e : k = w := by omega
          subst e
          conv => whnf
          repeat' (first | ((exfalso; omega)) | (refine st ?_; conv => whnf) | (refine ⟨fun h => ?_, fun h => ?_⟩ <;> (try simp only [af] at h) <;> conv => whnf) | ((first | refine wf ?_ | refine aA ?_ | refine nn ?_ | fail); conv => whnf))
          repeat (first | exact fa | ((first | refine fb ?_ | (refine And.intro ?_ ?_; rotate_left)); conv => whnf))
          all_goals first | exact (lat_len k i W).symm | exact .inl fun j hj => by show _ = kv ((latL k i W).getD j default); rw [lat_at hj]
set_option maxRecDepth 100000 in
set_option maxHeartbeats 1000000 in
theorem lat_bad (w b W : Int) : (¬ ((2 ≤ w ∧ w ≤ 15) ∧ 2 ≤ b ∧ b ≤ 15) → aa Tryz.prog G 16 [.int .i64 w, .int .i64 b, .int .i64 W] (.tup [.aR, .int .i64 1])) ∧
    ((2 ≤ w ∧ w ≤ 15) ∧ 2 ≤ b ∧ b ≤ 15 → ¬ (0 ≤ W ∧ W ≤ 2147483648) → aa Tryz.prog G 16 [.int .i64 w, .int .i64 b, .int .i64 W] (.tup [.aR, .int .i64 10])) := by
  constructor
  · intro hq
    refine aa.aj ak Tryz.func16 rfl rfl _ rfl ?_
    conv => whnf
    repeat' (first | ((exfalso; omega)) | (refine st ?_; conv => whnf) | (refine ⟨fun h => ?_, fun h => ?_⟩ <;> (try simp only [af] at h) <;> conv => whnf) | ((first | refine wf ?_ | refine aA ?_ | refine nn ?_ | fail); conv => whnf))
  · intro hq hW
    refine aa.aj ak Tryz.func16 rfl rfl _ rfl ?_
    conv => whnf
    repeat' (first | ((exfalso; omega)) | (refine st ?_; conv => whnf) | (refine ⟨fun h => ?_, fun h => ?_⟩ <;> (try simp only [af] at h) <;> conv => whnf) | ((first | refine wf ?_ | refine aA ?_ | refine nn ?_ | fail); conv => whnf))
end Go.Proofs.YtijddijloelacaaGreat
set_option linter.unusedSimpArgs false
set_option linter.unusedSectionVars false
set_option linter.unusedVariables false
namespace Go.Proofs.YtijddijloelacaaGreat
open Go.Proofs.YtijddijloelacaaGreat.Am Go.Sort Go.Proofs Go.Lib Go.NetL
variable [Inhabited bY]
variable {G : aG}
/-! ### Lattices: the document's -/
theorem fit_rd (r : Rd) : fL (jZ.lW 4 0 (kv r) (kv r)) := by
  unfold kv xT rK
  conv => whnf
  repeat (first | exact fa | ((first | refine fb ?_ | (refine And.intro ?_ ?_; rotate_left)); conv => whnf))
  all_goals first | exact .inl fun _ _ => rfl
theorem fit_road (id W : Int) (n : Nat) (f : Nat → Pt) : fL (jZ.lW 4 0 [.int .i64 id, .sl n 2 (fun j => kY (f j)), .sl (n - 1) 1 (fun _ => [.int .i64 W]), .bool false] (kv (roadR id f n W))) := by
  refine ⟨rfl, ?_⟩
  conv => whnf
  refine ⟨(rowPts_len f n).symm, ?_⟩
  conv => whnf
  refine ⟨.inl fun j hj => by show kY (f j) = kY ((rowPts f n).getD j default); rw [rowPts_at f hj], ?_⟩
  conv => whnf
  refine ⟨by show n - 1 = (List.replicate (n - 1) W).length; rw [List.length_replicate], ?_⟩
  conv => whnf
  refine ⟨.inl fun j hj => by show [A.int .i64 W] = [A.int .i64 ((List.replicate (n - 1) W).getD j 0)]; rw [List.getD_eq_getElem?_getD, List.getElem?_replicate, if_pos (by omega)]; rfl, ?_⟩
  conv => whnf
  first | done | rfl
theorem cat_fit (m : Nat) (R : Nat → Rd) (row : Nat → List A) (h0 : fL (jZ.lW 4 0 (row 0) (kv (R m)))) : ∀ i, i < m + 1 → fL (jZ.lW 4 0 (bN m (fun j => kv (R j)) row i) (kv (R i))) := by
  intro i hi
  unfold bN
  split
  · exact fit_rd _
  · rename_i q
    have q : ¬ i < m := fun h' => by rw [show Nat.blt i m = true from Nat.ble_eq_true_of_le h'] at q; cases q
    obtain rfl : i = m := by omega
    rw [Nat.sub_self]; exact h0
set_option maxRecDepth 100000 in
set_option maxHeartbeats 4000000 in
theorem rlat_ok (w b : Nat) (W : Int) (hw : 2 ≤ w ∧ w ≤ 15) (hh : 2 ≤ b ∧ b ≤ 15) :
    aa Tryz.prog G 18 [.int .i64 (w : Int), .int .i64 (b : Int), .int .i64 W] (sP (latL w b W)) := by
  refine aa.aj ak Tryz.func18 rfl rfl _ rfl ?_
  conv => whnf
  repeat' (first | ((exfalso; omega)) | (refine st ?_; conv => whnf) | (refine ⟨fun h => ?_, fun h => ?_⟩ <;> (try simp only [af] at h) <;> conv => whnf) | ((first | refine wf ?_ | refine aA ?_ | refine nn ?_ | fail); conv => whnf))
  refine al (fun m : Nat => m ≤ b + w) (fun m => [(8, .int .i64 ((m : Int) + 1)), (7, .own 0), (13, .ae)]) (fun m => [.row 31 4 m fun j => kv (latAt w b W j)]) (fun m => b + w - m) 0 (Nat.zero_le _) ?_ ?_
  · conv => whnf
    repeat (first | exact fa | ((first | refine fb ?_ | (refine And.intro ?_ ?_; rotate_left)); conv => whnf))
    all_goals first | exact .inl fun i hi => absurd hi (Nat.not_lt_zero _)
  · intro m hm
    have hm : m ≤ b + w := hm
    rcases Nat.lt_or_ge m (b + w) with vB | vB
    · rcases Nat.lt_or_ge m b with DJ | DJ
      · have e2 : latAt w b W m = roadR ((m : Int) + 1) (fun i => ⟨(i : Int), (m : Int)⟩) w W := by unfold latAt; rw [if_pos DJ]; rfl
        conv => whnf
        repeat' (first | ((exfalso; omega)) | (refine st ?_; conv => whnf) | (refine ⟨fun h => ?_, fun h => ?_⟩ <;> (try simp only [af] at h) <;> conv => whnf) | ((first | refine wf ?_ | refine aA ?_ | refine nn ?_ | fail); conv => whnf))
        refine Dj 1 1 33 2 rfl rfl ?_
        conv => whnf
        refine Dj 1 2 3 1 rfl rfl ?_
        conv => whnf
        refine al (fun k : Nat => k ≤ w) (fun k => [(11, .int .i64 (k : Int)), (12, .ae)]) (fun k => [.row 31 4 m (fun j => kv (latAt w b W j)), .box 31 [.int .i64 ((m : Int) + 1), .own 2, .own 3, .bool false], .row 33 2 k (fun j => kY ⟨(j : Int), (m : Int)⟩), .row 3 1 (k - 1) fun _ => [.int .i64 W]]) (fun k => w - k) 0 (Nat.zero_le _) ?_ ?_
        · conv => whnf
          repeat (first | exact fa | ((first | refine fb ?_ | (refine And.intro ?_ ?_; rotate_left)); conv => whnf))
          all_goals first | exact .inl fun i hi => absurd hi (Nat.not_lt_zero _)
        · intro k hk
          have hk : k ≤ w := hk
          rcases Nat.lt_or_ge k w with pN | pN
          · conv => whnf
            repeat' (first | ((exfalso; omega)) | (refine st ?_; conv => whnf) | (refine ⟨fun h => ?_, fun h => ?_⟩ <;> (try simp only [af] at h) <;> conv => whnf) | ((first | refine wf ?_ | refine aA ?_ | refine nn ?_ | fail); conv => whnf))
            all_goals
              refine ⟨k + 1, pN, (by show w - (k + 1) < w - k; omega), ?_⟩
              conv => whnf
              repeat (first | exact fa | ((first | refine fb ?_ | (refine And.intro ?_ ?_; rotate_left)); conv => whnf))
              all_goals first
                | exact .inl fun j hj => Pp (fun j => kY ⟨(j : Int), (m : Int)⟩) k _ (by show [_, _] = [A.int .i64 _, A.int .i64 _]; rw [show (m : Int) + 1 - 1 = m by omega]) j hj
                | exact .inl fun j hj => Pp (fun _ => [.int .i64 W]) (k - 1) _ rfl j hj
                | exact .inl fun j hj => rfl
                | omega
               
          · have e : k = w := by omega
            rw [e]
            conv => whnf
            repeat' (first | ((exfalso; omega)) | ((refine atR 18 ?_; refine Tz (id := 18) 4 [2, 3] rfl ?_; (conv => whnf); refine st ?_; conv => whnf)) | (refine st ?_; conv => whnf) | (refine ⟨fun h => ?_, fun h => ?_⟩ <;> (try simp only [af] at h) <;> conv => whnf) | ((first | refine wf ?_ | refine aA ?_ | refine nn ?_ | fail); conv => whnf))
            refine ⟨m + 1, vB, (by show b + w - (m + 1) < b + w - m; omega), ?_⟩
            conv => whnf
            repeat (first | exact fa | ((first | refine fb ?_ | (refine And.intro ?_ ?_; rotate_left)); conv => whnf))
            all_goals first | exact .inr (cat_fit m (latAt w b W) _ (by rw [e2]; exact fit_road _ _ _ _))
      · have e2 : latAt w b W m = roadR ((m : Int) + 1) (fun i => ⟨((m - b : Nat) : Int), (i : Int)⟩) b W := by
          unfold latAt; rw [if_neg (by omega)]; unfold vLat; rw [show b + (m - b) = m by omega]
        conv => whnf
        repeat' (first | ((exfalso; omega)) | (refine st ?_; conv => whnf) | (refine ⟨fun h => ?_, fun h => ?_⟩ <;> (try simp only [af] at h) <;> conv => whnf) | ((first | refine wf ?_ | refine aA ?_ | refine nn ?_ | fail); conv => whnf))
        refine Dj 1 1 33 2 rfl rfl ?_
        conv => whnf
        refine Dj 1 2 3 1 rfl rfl ?_
        conv => whnf
        refine al (fun k : Nat => k ≤ b) (fun k => [(11, .int .i64 (k : Int)), (12, .ae)]) (fun k => [.row 31 4 m (fun j => kv (latAt w b W j)), .box 31 [.int .i64 ((m : Int) + 1), .own 2, .own 3, .bool false], .row 33 2 k (fun j => kY ⟨((m - b : Nat) : Int), (j : Int)⟩), .row 3 1 (k - 1) fun _ => [.int .i64 W]]) (fun k => b - k) 0 (Nat.zero_le _) ?_ ?_
        · conv => whnf
          repeat (first | exact fa | ((first | refine fb ?_ | (refine And.intro ?_ ?_; rotate_left)); conv => whnf))
          all_goals first | exact .inl fun i hi => absurd hi (Nat.not_lt_zero _)
        · intro k hk
          have hk : k ≤ b := hk
          rcases Nat.lt_or_ge k b with pN | pN
          · conv => whnf
            repeat' (first | ((exfalso; omega)) | (refine st ?_; conv => whnf) | (refine ⟨fun h => ?_, fun h => ?_⟩ <;> (try simp only [af] at h) <;> conv => whnf) | ((first | refine wf ?_ | refine aA ?_ | refine nn ?_ | fail); conv => whnf))
            all_goals
              refine ⟨k + 1, pN, (by show b - (k + 1) < b - k; omega), ?_⟩
              conv => whnf
              repeat (first | exact fa | ((first | refine fb ?_ | (refine And.intro ?_ ?_; rotate_left)); conv => whnf))
              all_goals first
                | exact .inl fun j hj => Pp (fun j => kY ⟨((m - b : Nat) : Int), (j : Int)⟩) k _ (by show [_, _] = [A.int .i64 _, A.int .i64 _]; rw [show (m : Int) + 1 - b - 1 = ((m - b : Nat) : Int) by omega]) j hj
                | exact .inl fun j hj => Pp (fun _ => [.int .i64 W]) (k - 1) _ rfl j hj
                | exact .inl fun j hj => rfl
                | omega
               
          · have e : k = b := by omega
            rw [e]
            conv => whnf
            repeat' (first | ((exfalso; omega)) | ((refine atR 18 ?_; refine Tz (id := 18) 4 [2, 3] rfl ?_; (conv => whnf); refine st ?_; conv => whnf)) | (refine st ?_; conv => whnf) | (refine ⟨fun h => ?_, fun h => ?_⟩ <;> (try simp only [af] at h) <;> conv => whnf) | ((first | refine wf ?_ | refine aA ?_ | refine nn ?_ | fail); conv => whnf))
            refine ⟨m + 1, vB, (by show b + w - (m + 1) < b + w - m; omega), ?_⟩
            conv => whnf
            repeat (first | exact fa | ((first | refine fb ?_ | (refine And.intro ?_ ?_; rotate_left)); conv => whnf))
            all_goals first | exact .inr (cat_fit m (latAt w b W) _ (by rw [e2]; exact fit_road _ _ _ _))
    · have e : m = b + w := by omega
      subst e
      conv => whnf
      repeat' (first | ((exfalso; omega)) | (refine st ?_; conv => whnf) | (refine ⟨fun h => ?_, fun h => ?_⟩ <;> (try simp only [af] at h) <;> conv => whnf) | ((first | refine wf ?_ | refine aA ?_ | refine nn ?_ | fail); conv => whnf))
      repeat (first | exact fa | ((first | refine fb ?_ | (refine And.intro ?_ ?_; rotate_left)); conv => whnf))
      all_goals first | exact (lat_len w b W).symm | exact .inl fun j hj => by show _ = kv ((latL w b W).getD j default); rw [lat_at hj]
end Go.Proofs.YtijddijloelacaaGreat
set_option linter.unusedSimpArgs false
set_option linter.unusedSectionVars false
set_option linter.unusedVariables false
namespace Go.Proofs.YtijddijloelacaaGreat
open Go.Proofs.YtijddijloelacaaGreat.Am Go.Sort Go.Proofs Go.Lib Go.NetL
variable [Inhabited bY]
/-! ### Lattices: plain laws (nothing but the weights hangs on the weight) -/
theorem em_some {l : List Rn} {k : Int × Int} : (EM l k).isSome = true ↔ ∃ r ∈ l, (r.lo, r.hi) = k := by
  have h := em_all l k
  constructor
  · intro hs
    cases hM : EM l k with
    | none => rw [hM] at hs; cases hs
    | some e =>
      rw [hM] at h
      obtain ⟨_, r, h1, h2, _⟩ := h
      exact ⟨r, h1, h2⟩
  · rintro ⟨r, h1, h2⟩
    cases hM : EM l k with
    | none => rw [hM] at h; exact absurd h2 (h r h1)
    | some e => rfl
theorem edges_len {S S' : List Sp} (h : ∀ k : Int × Int, (∃ r ∈ iJ S, (r.lo, r.hi) = k) ↔ ∃ r ∈ iJ S', (r.lo, r.hi) = k) : (fV S).length = (fV S').length := by
  have hm : ∀ a b : Int, (⟨a, b⟩ : Pr) ∈ ja S ↔ (⟨a, b⟩ : Pr) ∈ ja S' := fun a b => by
    rw [← pg, ← pg, em_some, em_some]; exact h (a, b)
  have hp : List.Perm ((ja S).map kP) ((ja S').map kP) := by
    rw [List.perm_ext_iff_of_nodup (IU S) (IU S')]
    intro x
    rw [List.mem_map, List.mem_map]
    constructor
    · rintro ⟨⟨a, b⟩, h1, h2⟩; exact ⟨⟨a, b⟩, (hm a b).1 h1, h2⟩
    · rintro ⟨⟨a, b⟩, h1, h2⟩; exact ⟨⟨a, b⟩, (hm a b).2 h1, h2⟩
  have := hp.length_eq
  rw [List.length_map, List.length_map, EX, EX] at this
  exact this
theorem runs_same {S S' : List Sp} (hl : pf S = pf S') {k : Int × Int} (h : ∃ r ∈ iJ S, (r.lo, r.hi) = k) : ∃ r ∈ iJ S', (r.lo, r.hi) = k := by
  have hn : S'.length = S.length := by have := congrArg List.length hl; rw [List.length_map, List.length_map] at this; exact this.symm
  obtain ⟨r, hr, hk⟩ := h
  obtain ⟨i, hi, hr⟩ := IT.1 hr
  obtain ⟨j, hj, rfl⟩ := List.getElem_of_mem hr
  have bW : j < (yT S' i).length := by rw [yU] at hj ⊢; rw [← hl]; exact hj
  refine ⟨(yT S' i)[j], IT.2 ⟨i, by omega, List.getElem_mem bW⟩, ?_⟩
  rw [← hk]
  have e1 := runF_at hj
  have e2 := runF_at bW
  rw [Bq hj] at e1
  rw [Bq bW] at e2
  rw [e1, e2]
  unfold UF Rn.lo Rn.hi
  rw [hl]
theorem edges_same {S S' : List Sp} (hl : pf S = pf S') : (fV S).length = (fV S').length := edges_len fun _ => ⟨runs_same hl, runs_same hl.symm⟩
/-- Roads that are alike but for their weights. -/
def REq (r r' : Rd) : Prop := r.id = r'.id ∧ r.gY = r'.gY ∧ r.ws.length = r'.ws.length
theorem spK_same {r r' : Rd} (h : REq r r') : ∀ k, (Ih r k).map (·.s) = (Ih r' k).map (·.s) := fun k => by
  unfold Ih
  rw [List.map_map, List.map_map]
  refine List.map_congr_left fun i _ => ?_
  show (⟨r.gY.getD i default, r.gY.getD (i + 1) default⟩ : Sg) = ⟨r'.gY.getD i default, r'.gY.getD (i + 1) default⟩
  rw [h.2.1]
theorem sps_same {l l' : List Rd} (h : ∀ i, REq (l.getD i default) (l'.getD i default)) : ∀ k, (o9 l k).map (·.s) = (o9 l' k).map (·.s)
  | 0 => rfl
  | k + 1 => by
    simp only [o9, List.map_append]
    rw [sps_same h k, spK_same (h k), (h k).2.2]
theorem lat_eq (w b : Nat) (W : Int) (i : Nat) : REq ((latL w b W).getD i default) ((latL w b 0).getD i default) := by
  rcases Nat.lt_or_ge i (b + w) with q | q
  · rw [lat_at q, lat_at q]
    unfold latAt
    split
    · exact ⟨rfl, rfl, by show (List.replicate (w - 1) W).length = (List.replicate (w - 1) 0).length; simp⟩
    · exact ⟨rfl, rfl, by show (List.replicate (b - 1) W).length = (List.replicate (b - 1) 0).length; simp⟩
  · rw [List.getD_eq_getElem?_getD, List.getD_eq_getElem?_getD, List.getElem?_eq_none (by rw [lat_len]; exact q), List.getElem?_eq_none (by rw [lat_len]; exact q)]
    exact ⟨rfl, rfl, rfl⟩
theorem lat_sps (w b : Nat) (W : Int) : pf (Ii (latL w b W)) = pf (Ii (latL w b 0)) := by
  show (o9 (latL w b W) (latL w b W).length).map (·.s) = (o9 (latL w b 0) (latL w b 0).length).map (·.s)
  rw [lat_len, lat_len]
  exact sps_same (lat_eq w b W) _
theorem badws_rep {W : Int} (h : 0 ≤ W ∧ W ≤ 2147483648) (n : Nat) : ¬ uQ (List.replicate n W) := by
  rintro ⟨i, hi, hb⟩
  rw [List.length_replicate] at hi
  rw [List.getD_eq_getElem?_getD, List.getElem?_replicate, if_pos hi] at hb
  have hb : W < 0 ∨ 2147483648 < W := hb
  omega
theorem chk_road {W : Int} (h : 0 ≤ W ∧ W ≤ 2147483648) (id : Int) (f : Nat → Pt) (n : Nat) : eM (roadR id f n W) = eM (roadR id f n 0) := by
  have e : mX (roadR id f n W) = mX (roadR id f n 0) := by
    unfold mX roadR
    simp only [List.length_replicate]
  unfold eM
  rw [if_neg (show ¬ uQ (roadR id f n W).ws from badws_rep h _), if_neg (show ¬ uQ (roadR id f n 0).ws from badws_rep (by decide) _)]
  by_cases hs : mX (roadR id f n W)
  · rw [if_pos hs, if_pos (e.mp hs)]; rfl
  · rw [if_neg hs, if_neg fun q => hs (e.mpr q)]
theorem chk_lat {W : Int} (h : 0 ≤ W ∧ W ≤ 2147483648) (w b j : Nat) : eM (latAt w b W j) = eM (latAt w b 0 j) := by
  unfold latAt
  split
  · exact chk_road h _ _ _
  · exact chk_road h _ _ _
theorem fC_map {g g' : Nat → Rd} (h : ∀ j, eM (g j) = eM (g' j)) : ∀ L : List Nat, fC (L.map g) = fC (L.map g')
  | [] => rfl
  | j :: L => by
    simp only [List.map_cons, fC, h j, fC_map h L]
theorem lnN_same {l l' : List Rd} (h : ∀ i, REq (l.getD i default) (l'.getD i default)) : ∀ k, FL l k = FL l' k
  | 0 => rfl
  | k + 1 => by simp only [FL]; rw [lnN_same h k, (h k).2.2]
theorem dall_lat {W : Int} (h : 0 ≤ W ∧ W ≤ 2147483648) (w b : Nat) : jL (latL w b W) = jL (latL w b 0) := by
  have e1 : fC (latL w b W) = fC (latL w b 0) := fC_map (chk_lat h w b) _
  have e2 : yM (latL w b W) = yM (latL w b 0) := by
    unfold yM
    simp only [lat_len, (lat_eq w b W _).1]
  have e3 := lnN_same (lat_eq w b W) (b + w)
  unfold jL
  simp only [lat_len, e1, e2, e3]
theorem lat_all0 : ∀ w, w < 16 → ∀ b, b < 16 → 2 ≤ w → 2 ≤ b → w * b * 2 ≤ 400 + w + b → jL (latL w b 0) = 0 := of_decide_eq_true (by kernel_rfl)
end Go.Proofs.YtijddijloelacaaGreat
set_option linter.unusedSimpArgs false
set_option linter.unusedSectionVars false
set_option linter.unusedVariables false
namespace Go.Proofs.YtijddijloelacaaGreat
open Go.Proofs.YtijddijloelacaaGreat.Am Go.Sort Go.Proofs Go.Lib Go.NetL
variable [Inhabited bY]
/-! ### Lattices: their nets -/
def latT (w b : Nat) : Bool := !(Nat.ble 2 w && (Nat.ble 2 b && Nat.ble (w * b) 30)) || (Nat.ble (pf (Ii (latL w b 0))).length 50 && (Nat.beq (gA (pf (Ii (latL w b 0)))).length (w * b) && Nat.beq ((fV (Ii (latL w b 0))).length + w + b) (2 * w * b)))
set_option maxHeartbeats 400000000 in
theorem lat_n2 : ((List.range 16).all fun b => latT 2 b) = true := by kernel_rfl
set_option maxHeartbeats 400000000 in
theorem lat_n3 : ((List.range 16).all fun b => latT 3 b) = true := by kernel_rfl
set_option maxHeartbeats 400000000 in
theorem lat_n4 : ((List.range 16).all fun b => latT 4 b) = true := by kernel_rfl
set_option maxHeartbeats 400000000 in
theorem lat_n5 : ((List.range 16).all fun b => latT 5 b) = true := by kernel_rfl
set_option maxHeartbeats 400000000 in
theorem lat_n6 : ((List.range 16).all fun b => latT 6 b) = true := by kernel_rfl
set_option maxHeartbeats 400000000 in
theorem lat_n7 : ((List.range 16).all fun b => latT 7 b) = true := by kernel_rfl
set_option maxHeartbeats 400000000 in
theorem lat_n8 : ((List.range 16).all fun b => latT 8 b) = true := by kernel_rfl
set_option maxHeartbeats 400000000 in
theorem lat_n9 : ((List.range 16).all fun b => latT 9 b) = true := by kernel_rfl
set_option maxHeartbeats 400000000 in
theorem lat_n10 : ((List.range 16).all fun b => latT 10 b) = true := by kernel_rfl
set_option maxHeartbeats 400000000 in
theorem lat_n11 : ((List.range 16).all fun b => latT 11 b) = true := by kernel_rfl
set_option maxHeartbeats 400000000 in
theorem lat_n12 : ((List.range 16).all fun b => latT 12 b) = true := by kernel_rfl
set_option maxHeartbeats 400000000 in
theorem lat_n13 : ((List.range 16).all fun b => latT 13 b) = true := by kernel_rfl
set_option maxHeartbeats 400000000 in
theorem lat_n14 : ((List.range 16).all fun b => latT 14 b) = true := by kernel_rfl
set_option maxHeartbeats 400000000 in
theorem lat_n15 : ((List.range 16).all fun b => latT 15 b) = true := by kernel_rfl
theorem lat_net0 (w : Nat) (h1 : w < 16) (b : Nat) (h2 : b < 16) (h3 : 2 ≤ w) (h4 : 2 ≤ b) (h5 : w * b ≤ 30) : (pf (Ii (latL w b 0))).length ≤ 50 ∧ (gA (pf (Ii (latL w b 0)))).length = w * b ∧ (fV (Ii (latL w b 0))).length + w + b = 2 * w * b := by
  have h : ((List.range 16).all fun b => latT w b) = true := by
    rcases (show w = 2 ∨ w = 3 ∨ w = 4 ∨ w = 5 ∨ w = 6 ∨ w = 7 ∨ w = 8 ∨ w = 9 ∨ w = 10 ∨ w = 11 ∨ w = 12 ∨ w = 13 ∨ w = 14 ∨ w = 15 by omega) with rfl | rfl | rfl | rfl | rfl | rfl | rfl | rfl | rfl | rfl | rfl | rfl | rfl | rfl
    · exact lat_n2
    · exact lat_n3
    · exact lat_n4
    · exact lat_n5
    · exact lat_n6
    · exact lat_n7
    · exact lat_n8
    · exact lat_n9
    · exact lat_n10
    · exact lat_n11
    · exact lat_n12
    · exact lat_n13
    · exact lat_n14
    · exact lat_n15
  rw [List.all_eq_true] at h
  have h := h b (List.mem_range.2 h2)
  unfold latT at h
  rw [Nat.ble_eq_true_of_le h3, Nat.ble_eq_true_of_le h4, Nat.ble_eq_true_of_le h5] at h
  simp only [Bool.and_self, Bool.not_true, Bool.false_or, Bool.and_eq_true] at h
  exact ⟨Nat.le_of_ble_eq_true h.1, Nat.eq_of_beq_eq_true h.2.1, Nat.eq_of_beq_eq_true h.2.2⟩
theorem lat_net {w b : Nat} (hw : 2 ≤ w ∧ w ≤ 15) (hb : 2 ≤ b ∧ b ≤ 15) (h : w * b ≤ 30) (W : Int) :
    (Ii (latL w b W)).length ≤ 50 ∧ (gA (pf (Ii (latL w b W)))).length = w * b ∧ (fV (Ii (latL w b W))).length + w + b = 2 * w * b := by
  obtain ⟨h1, h2, h3⟩ := lat_net0 w (by omega) b (by omega) hw.1 hb.1 h
  rw [edges_same (lat_sps w b W), lat_sps w b W]
  refine ⟨?_, h2, h3⟩
  rw [← lat_sps w b W, List.length_map] at h1
  exact h1
theorem lat_lt {w b : Nat} (hw : w ≤ 15) (hb : b ≤ 15) (W : Int) : Lt (latL w b W) := ⟨by rw [lat_len]; omega, fun i hi => by
  rw [lat_len] at hi
  rw [lat_at hi]
  unfold latAt
  split
  · exact ⟨by show (rowPts _ w).length ≤ 110; rw [rowPts_len]; omega, by show (List.replicate (w - 1) W).length ≤ 110; rw [List.length_replicate]; omega⟩
  · exact ⟨by show (rowPts _ b).length ≤ 110; rw [rowPts_len]; omega, by show (List.replicate (b - 1) W).length ≤ 110; rw [List.length_replicate]; omega⟩⟩
end Go.Proofs.YtijddijloelacaaGreat
set_option linter.unusedSimpArgs false
set_option linter.unusedSectionVars false
set_option linter.unusedVariables false
namespace Go.Proofs.YtijddijloelacaaGreat
open Go.Proofs.YtijddijloelacaaGreat.Am Go.Sort Go.Proofs Go.Lib Go.NetL
variable [Inhabited bY]
variable {G : aG}
/-! ### Any lattice, and its net -/
set_option maxRecDepth 100000 in
set_option maxHeartbeats 4000000 in
theorem genLattices_w (a b : Nat) (W : Int) (hw : 2 ≤ a ∧ a ≤ 15) (hh : 2 ≤ b ∧ b ≤ 15) (hW : 0 ≤ W ∧ W ≤ 2147483648)
    (Pz : aa Tryz.prog G 14 [] (.sb true)) (e : Int) (hAll : aa Tryz.prog G 12 [sP (latL a b W)] (.int .i64 e)) (he : (a : Int) * (b : Int) * 2 - (a : Int) - (b : Int) ≤ 400 → e = 0)
    (UH : (a : Int) * (b : Int) ≤ 30 → ∃ N E n P, ((N : List RS).length : Int) = (a : Int) * (b : Int) ∧ ((E : List Ed).length : Int) = 2 * (a : Int) * (b : Int) - (a : Int) - (b : Int) ∧ aa Tryz.prog G 15 [sP (latL a b W)] (.tup [IH N E n P, .int .i64 0])) :
    aa Tryz.prog G 4 [.int .i64 (a : Int), .int .i64 (b : Int), .int .i64 W] (.sb true) := by
  have h1 := lat_ok (G := G) a b W hw hh hW
  have h2 := rlat_ok (G := G) a b W hw hh
  have h3 := sameL_c (G := G) (latL a b W) (latL a b W) (lat_lt hw.2 hh.2 W)
  rw [decide_eq_true rfl] at h3
  have AL : 0 ≤ (a : Int) * (b : Int) ∧ (a : Int) * (b : Int) ≤ 225 := by
    have h1 : a * b ≤ 15 * 15 := Nat.mul_le_mul hw.2 hh.2
    have h2 : ((a * b : Nat) : Int) = (a : Int) * (b : Int) := Int.natCast_mul a b
    omega
  have hab2 : 2 * (a : Int) * (b : Int) = 2 * ((a : Int) * (b : Int)) := Int.mul_assoc 2 a b
  rcases (show 30 < (a : Int) * (b : Int) ∨ (a : Int) * (b : Int) ≤ 30 by omega) with q | q
  · refine aa.aj ak Tryz.func4 rfl rfl _ rfl ?_
    conv => whnf
    repeat' (first | ((exfalso; omega)) | (exact absurd trivial h) | (exact absurd rfl h) | (exact Bool.noConfusion h) | (exact absurd (he (by omega)) h) | (exact absurd (he h) (by assumption)) | (refine st ?_; conv => whnf) | (refine ⟨fun h => ?_, fun h => ?_⟩ <;> (try simp only [af] at h) <;> conv => whnf) | (refine .inl ?_; (conv => whnf); (first | refine ⟨_, h1, ?_⟩ | refine ⟨_, h2, ?_⟩ | refine ⟨_, h3, ?_⟩ | refine ⟨_, hAll, ?_⟩ | refine ⟨_, Pz, ?_⟩); conv => whnf) | ((first | refine wf ?_ | refine aA ?_ | refine nn ?_ | fail); conv => whnf))
  · obtain ⟨N, E, n, P, e1, e2, hO⟩ := UH q
    unfold IH fK Sa at hO
    refine aa.aj ak Tryz.func4 rfl rfl _ rfl ?_
    conv => whnf
    repeat' (first | ((exfalso; omega)) | (exact absurd trivial h) | (exact absurd rfl h) | (exact Bool.noConfusion h) | (exact absurd (he (by omega)) h) | (exact absurd (he h) (by assumption)) | (exact absurd e1 h) | (exact absurd e2 h) | (refine st ?_; conv => whnf) | (refine ⟨fun h => ?_, fun h => ?_⟩ <;> (try simp only [af] at h) <;> conv => whnf) | (refine .inl ?_; (conv => whnf); (first | refine ⟨_, h1, ?_⟩ | refine ⟨_, h2, ?_⟩ | refine ⟨_, h3, ?_⟩ | refine ⟨_, hAll, ?_⟩ | refine ⟨_, hO, ?_⟩ | refine ⟨_, Pz, ?_⟩); conv => whnf) | ((first | refine wf ?_ | refine aA ?_ | refine nn ?_ | fail); conv => whnf))
set_option maxRecDepth 100000 in
set_option maxHeartbeats 4000000 in
theorem genLattices_c (dn : (default : bY).ns) (w h W : Int) : aa Tryz.prog G 4 [.int .i64 w, .int .i64 h, .int .i64 W] (.sb true) := by
  have Pz := Py (G := G)
  by_cases h1 : (2 ≤ w ∧ w ≤ 15) ∧ 2 ≤ h ∧ h ≤ 15
  · by_cases h2 : 0 ≤ W ∧ W ≤ 2147483648
    · obtain ⟨a, rfl⟩ : ∃ a : Nat, w = a := ⟨w.toNat, by omega⟩
      obtain ⟨b, rfl⟩ : ∃ b : Nat, h = b := ⟨h.toNat, by omega⟩
      have hw : 2 ≤ a ∧ a ≤ 15 := by omega
      have hh : 2 ≤ b ∧ b ≤ 15 := by omega
      have hm : ((a * b : Nat) : Int) = (a : Int) * (b : Int) := Int.natCast_mul a b
      have hAll := Ic (G := G) (latL a b W) (lat_lt hw.2 hh.2 W)
      refine genLattices_w a b W hw hh h2 Pz _ hAll (fun q => ?_) fun q => ?_
      · rw [dall_lat h2]
        exact lat_all0 a (by omega) b (by omega) hw.1 hh.1 (by omega)
      · obtain ⟨s1, s2, s3⟩ := lat_net hw hh (by omega) W
        have d0 : jL (latL a b W) = 0 := by
          rw [dall_lat h2]
          exact lat_all0 a (by omega) b (by omega) hw.1 hh.1 (by omega)
        have pQ : ((2 * a * b : Nat) : Int) = 2 * (a : Int) * (b : Int) := by rw [Int.natCast_mul, Int.natCast_mul]; rfl
        exact ⟨_, _, _, _, by rw [s2]; exact hm, by omega, I1 dn (latL a b W) (lat_lt hw.2 hh.2 W) d0 s1⟩
    · have q := (lat_bad (G := G) w h W).2 h1 h2
      refine aa.aj ak Tryz.func4 rfl rfl _ rfl ?_
      conv => whnf
      repeat' (first | ((exfalso; omega)) | (exact absurd trivial h) | (exact absurd rfl h) | (exact Bool.noConfusion h) | (refine st ?_; conv => whnf) | (refine ⟨fun h => ?_, fun h => ?_⟩ <;> (try simp only [af] at h) <;> conv => whnf) | (refine .inl ?_; (conv => whnf); (first | refine ⟨_, q, ?_⟩ | refine ⟨_, Pz, ?_⟩); conv => whnf) | ((first | refine wf ?_ | refine aA ?_ | refine nn ?_ | fail); conv => whnf))
  · have q := (lat_bad (G := G) w h W).1 h1
    refine aa.aj ak Tryz.func4 rfl rfl _ rfl ?_
    conv => whnf
    repeat' (first | ((exfalso; omega)) | (exact absurd trivial h) | (exact absurd rfl h) | (exact Bool.noConfusion h) | (refine st ?_; conv => whnf) | (refine ⟨fun h => ?_, fun h => ?_⟩ <;> (try simp only [af] at h) <;> conv => whnf) | (refine .inl ?_; (conv => whnf); (first | refine ⟨_, q, ?_⟩ | refine ⟨_, Pz, ?_⟩); conv => whnf) | ((first | refine wf ?_ | refine aA ?_ | refine nn ?_ | fail); conv => whnf))
end Go.Proofs.YtijddijloelacaaGreat
set_option linter.unusedSimpArgs false
namespace Go.Proofs.YtijddijloelacaaGreat
open Go.ChangeShapes Go.WideShapes Go.ChangeAt Go.RowKit
open Go.Proofs.YtijddijloelacaaGreat.Am
theorem args3 {im : Nat → Prop} {W : World} {x0 x1 x2 : A} {v0 v1 v2 : Value} (h0 : aw im W x0 v0) (h1 : aw im W x1 v1) (h2 : aw im W x2 v2) :
    ∀ j (_ : j < [x0, x1, x2].length) (_ : j < [v0, v1, v2].length), aw im W [x0, x1, x2][j] [v0, v1, v2][j] := by
  intro j h _
  match j with
  | 0 => exact h0
  | 1 => exact h1
  | 2 => exact h2
  | j + 3 => exact absurd h (by simp)
set_option maxRecDepth 100000 in
theorem genLattices_lifted (os : Os) (started : os.Started) (H : Type) (enc : TypeId × Value → H) :
    ReturnsInHanded {} Tryz.checked os 4 .any (Rows.genLatticesSpec.pre6 enc Tryz.prog Tryz.f4 Rows.genLatticesRow.domain false) (Rows.genLatticesSpec.post enc Tryz.prog Tryz.f4 false true false false) := by
  refine returnsInHanded_of_change (C := Tryz.checked) Tryz.own started (by kernel_rfl) Tryz.func4
    (ChangeSpec.witness6 (enc := enc) (C := Tryz.checked) false ⟨#[], #[.int .i64 0, .int .i64 0, .int .i64 0], []⟩ 8 (by kernel_rfl) (by kernel_rfl) (by kernel_rfl) (by kernel_rfl)) ?_
  intro W base args ds gs before QK hW W9 _
  have tX : ∀ (j : Nat) t v, Tryz.f4.params[j]? = some t → args[j]? = some v → Value.okWide Tryz.prog W .any base t v := QK
  have QL := hW
  obtain ⟨p, q, Xa, hV, rfl, YW, oK⟩ := hW
  have hA : DataW.TrodAll enc Tryz.prog W 0 (fun _ => true) true Tryz.f4.params.toList args.toList ds p := Xa
  rw [Tryz.params4] at hA tX
  obtain ⟨v0, v1, v2, d0, d1, d2, p0, p1, p2, rfl, rfl, rfl, h0, h1, h2⟩ := trodAll_three hA
  obtain ⟨rfl, rfl⟩ := trodVars_none hV
  have aI : ∀ x ∈ p0 ++ p1 ++ p2, x.block < W.heap.size := fun x hx => QL.lt x (by simpa using hx)
  obtain ⟨n, YX, r0⟩ := QI.cell (im := fun b => b < W.heap.size) h0 (xz (tX 0 3 v0 rfl rfl) (by kernel_rfl)) (fun x hx => aI x (by simp [hx]))
  obtain ⟨m, UL, r1⟩ := QI.cell (im := fun b => b < W.heap.size) h1 (xz (tX 1 3 v1 rfl rfl) (by kernel_rfl)) (fun x hx => aI x (by simp [hx]))
  obtain ⟨k, ok2, r2⟩ := QI.cell (im := fun b => b < W.heap.size) h2 (xz (tX 2 3 v2 rfl rfl) (by kernel_rfl)) (fun x hx => aI x (by simp [hx]))
  refine bg (Av (G := QH) (genLattices_c (show (default : bY).ns from trivial) n m k) (W := W) (vs := [v0, v1, v2]) (im := fun b => b < W.heap.size) (fun _ h => h) trivial rfl (args3 r0 r1 r2)) ?_
  rintro e W' ⟨rfl, hb⟩
  exact ⟨_, rfl, D3 Tryz.laidOut rfl (by kernel_rfl) Tryz.underlying4 (by kernel_rfl) rfl QL hb⟩
theorem andU_ {a b : Bool} (h : a = true) (k : b = true) : (a && b) = true := by rw [h, k]; rfl
theorem fnM_ : Tryz.prog.funcNamed Rows.genLatticesRow.func = some 4 := by kernel_rfl
set_option maxHeartbeats 40000000 in
theorem cloG_ : joinedFacts Tryz.prog 4 Tryz.f4 Rows.genLatticesSpec Rows.genLatticesRow = true := by
  unfold joinedFacts
  repeat' (with_reducible refine andU_ ?_ ?_)
  all_goals (as_aux_lemma => kernel_rfl)
theorem genLattices_holds : Rows.GenLatticesSaid :=
  OpenClaim.holds_of_wide 4 Tryz.f4 rfl rfl rfl rfl rfl rfl rfl ⟨rfl, rfl, rfl, rfl, rfl⟩ rfl rfl rfl rfl rfl fnM_ Tryz.func4 cloG_
    (of_decide_eq_true (by kernel_rfl)) (by unfold Func.isWrapper; first | (rw [if_pos (by decide +kernel)]; kernel_rfl) | (rw [if_neg (by decide +kernel)]; exact ⟨rfl, rfl⟩))
    (fun os started H enc _ => genLattices_lifted os started H enc)
#print axioms genLattices_holds
end Go.Proofs.YtijddijloelacaaGreat

/-
  Common points of two lines, sorted; the walk of meet.Of.
-/
import Derived.Test.YtcomiiakkhafpaaGreatMeet1
import Derived.Test.YtcomiiakkhafpaaGreatAm6
import Derived.Test.YtcomiiakkhafpaaGreatAm5
set_option linter.unusedSimpArgs false
set_option linter.unusedSectionVars false
namespace Go.Proofs.YtcomiiakkhafpaaGreat
open Go.Proofs.YtcomiiakkhafpaaGreat.Am
variable [Inhabited DRT]
variable {G : GInv}
def rowP (l : List Pt) : Nat → List A := fun i => [.int .i64 (l.getD i default).x, .int .i64 (l.getD i default).y]
def ptsA (l : List Pt) : A := .sl l.length 2 (rowP l)
def fstAt (p : Nat → Bool) : Nat → Nat → Int
 | 0, _ => -1
 | n + 1, i => if p i = true then (i : Int) else fstAt p n (i + 1)
theorem fstAt_step (p : Nat → Bool) {n i : Nat} (h : i < n) : fstAt p (n - i) i = if p i = true then (i : Int) else fstAt p (n - (i + 1)) (i + 1) := by
 rw [show n - i = (n - (i + 1)) + 1 by omega, fstAt]
theorem fstAt_nonneg (p : Nat → Bool) : ∀ (n i : Nat), 0 ≤ fstAt p n i ↔ ∃ j, i ≤ j ∧ j < i + n ∧ p j = true
 | 0, i => by simp [fstAt]; omega
 | n + 1, i => by
  rw [fstAt]
  split
  ·rename_i h; exact ⟨fun _ => ⟨i, by omega, by omega, h⟩, fun _ => by omega⟩
  ·rename_i h
   rw [fstAt_nonneg p n (i + 1)]
   constructor
   ·rintro ⟨j, h1, h2, h3⟩; exact ⟨j, by omega, by omega, h3⟩
   ·rintro ⟨j, h1, h2, h3⟩
    have : j ≠ i := fun e => h (by rw [← e]; exact h3)
    exact ⟨j, by omega, by omega, h3⟩
def eqAt (l : List Pt) (p : Pt) (i : Nat) : Bool := decide (p = l.getD i default)
theorem pt_eq (p q : Pt) : (p.x == q.x && (p.y == q.y && true)) = decide (p = q) := by
 rw [Bool.eq_iff_iff]; simp only [brsE]
 constructor
 ·rintro ⟨h1, h2⟩; cases p; cases q; simp_all
 ·rintro rfl; exact ⟨rfl, rfl⟩
set_option maxRecDepth 100000 in
theorem index_c (l : List Pt) (p : Pt) (hl : l.length ≤ 1000000) : ACalls Tryz.prog G 183 [ptsA l, .agg (ptA p)] (.int .i64 (fstAt (eqAt l p) l.length 0)) := by
 refine ACalls.of_WA ttok Tryz.func183 rfl rfl _ rfl ?_
 conv => whnf
 repeat' (first | refine sq ?_ | refine bk ?_ | ((first | refine rg ttok ?_ | refine dw ttok mixed ?_ | refine cd ?_ | refine sk ?_ | refine xt ?_ | refine rt ?_); conv => whnf) | (refine And.intro (fun h => ?_) (fun h => ?_) <;> (try simp only [brsA] at h) <;> conv => whnf) | ((first | refine wf ?_ | refine wp' ?_ | refine ai ?_ | refine And.intro rfl ?_ | refine an ?_); conv => whnf))
 refine WA_loopI (fun i : Nat => i ≤ l.length ∧ fstAt (eqAt l p) l.length 0 = fstAt (eqAt l p) (l.length - i) i) (fun i => [(8, .int .i64 (i : Int))]) (fun _ => [.box 43 (ptA p)]) (fun i => l.length - i) 0 ⟨by omega, rfl⟩ ?_ ?_
 ·conv => whnf
  repeat (first | exact fa | ((first | refine fb ?_ | (refine And.intro ?_ ?_; rotate_left)); conv => whnf))
 ·rintro i ⟨hi, he⟩
  conv => whnf
  repeat' (first | refine sq ?_ | refine bk ?_ | ((first | refine rg ttok ?_ | refine dw ttok mixed ?_ | refine cd ?_ | refine sk ?_ | refine xt ?_ | refine rt ?_); conv => whnf) | (refine And.intro (fun h => ?_) (fun h => ?_) <;> (try simp only [brsA] at h) <;> conv => whnf) | ((first | refine wf ?_ | refine wp' ?_ | refine ai ?_ | refine And.intro rfl ?_ | refine an ?_); conv => whnf))
  ·have h : eqAt l p i = true := (pt_eq _ _).symm.trans h
   rw [he, fstAt_step _ (show i < l.length by omega), if_pos h]
  ·have h : ¬ eqAt l p i = true := by rw [show eqAt l p i = false from (pt_eq _ _).symm.trans h]; simp
   refine ⟨i + 1, ⟨by omega, by rw [he, fstAt_step _ (show i < l.length by omega), if_neg h]⟩, (by show l.length - (i + 1) < l.length - i; omega), ?_⟩
   conv => whnf
   repeat (first | exact fa | ((first | refine fb ?_ | (refine And.intro ?_ ?_; rotate_left)); conv => whnf))
  ·rw [he, show l.length - i = 0 by omega]; rfl
theorem contains_c (l : List Pt) (p : Pt) (hl : l.length ≤ 1000000) : ACalls Tryz.prog G 149 [ptsA l, .agg (ptA p)] (.sb (decide (p ∈ l))) := by
 refine ACalls.of_WA ttok Tryz.func149 rfl rfl _ rfl ?_
 conv => whnf
 repeat' (first | refine sq ?_ | refine bk ?_ | ((first | refine rg ttok ?_ | refine dw ttok mixed ?_ | refine cd ?_ | refine sk ?_ | refine xt ?_ | refine rt ?_); conv => whnf) | (refine And.intro (fun h => ?_) (fun h => ?_) <;> (try simp only [brsA] at h) <;> conv => whnf) | ((first | refine Or.inl ?_ | skip); (conv => whnf); refine ⟨_, index_c l p hl, ?_⟩; conv => whnf) | ((first | refine wf ?_ | refine wp' ?_ | refine ai ?_ | refine And.intro rfl ?_ | refine an ?_); conv => whnf))
 all_goals refine line_fin ?_
 all_goals rw [decide_eq_true_iff]
 all_goals rw [fstAt_nonneg]
 all_goals
  constructor
  ·rintro ⟨j, _, h2, h3⟩
   have h3 : p = l.getD j default := of_decide_eq_true h3
   rw [h3, List.getD_eq_getElem?_getD, List.getElem?_eq_getElem (by omega)]
   exact List.getElem_mem _
  ·intro hm
   obtain ⟨j, hj, e⟩ := List.getElem_of_mem hm
   refine ⟨j, by omega, by omega, ?_⟩
   refine decide_eq_true ?_
   rw [List.getD_eq_getElem?_getD, List.getElem?_eq_getElem hj]; exact e.symm
/-- The four ends. -/
def endsL (s t : Sg) : List Pt := [s.a, s.b, t.a, t.b]
def BothP (s t : Sg) (p : Pt) : Prop := OnP s p ∧ OnP t p
instance (s t : Sg) (p : Pt) : Decidable (BothP s t p) := inferInstanceAs (Decidable (_ ∧ _))
def addP (s t : Sg) (out : List Pt) (p : Pt) : List Pt := if BothP s t p ∧ p ∉ out then out ++ [p] else out
def comK (s t : Sg) (k : Nat) : List Pt := ((endsL s t).take k).foldl (addP s t) []
theorem comK_succ (s t : Sg) (k : Nat) (h : k < 4) : comK s t (k + 1) = addP s t (comK s t k) ((endsL s t).getD k default) := by
 unfold comK
 rw [List.take_add_one, List.foldl_append]
 rcases k with _ | _ | _ | _ | k <;> first | rfl | omega
theorem comK_len (s t : Sg) : ∀ k, (comK s t k).length ≤ k
 | 0 => by simp [comK]
 | k + 1 => by
  by_cases h : k < 4
  ·rw [comK_succ s t k h]
   have := comK_len s t k
   unfold addP; split
   ·simp; omega
   ·omega
  ·have := comK_len s t k
   have e : comK s t (k + 1) = comK s t k := by
    unfold comK
    rw [List.take_of_length_le (by simp [endsL]; omega), List.take_of_length_le (by simp [endsL]; omega)]
   rw [e]; omega
theorem comK_on (s t : Sg) : ∀ k, ∀ p ∈ comK s t k, BothP s t p
 | 0, p, h => by simp [comK] at h
 | k + 1, p, h => by
  by_cases hk : k < 4
  ·rw [comK_succ s t k hk] at h
   unfold addP at h
   split at h
   ·rename_i hc
    rcases List.mem_append.1 h with h | h
    ·exact comK_on s t k p h
    ·simp at h; subst h; exact hc.1
   ·exact comK_on s t k p h
  ·have e : comK s t (k + 1) = comK s t k := by
    unfold comK
    rw [List.take_of_length_le (by simp [endsL]; omega), List.take_of_length_le (by simp [endsL]; omega)]
   rw [e] at h; exact comK_on s t k p h
/-- The points of a line, ordered along it. -/
abbrev OnT (s : Sg) := {p : Pt // OnP s p}
def keyT (s : Sg) (x : OnT s) : Int := dotF s.a s.b x.1
open Go.Sort Go.Proofs in
theorem swo_key {α : Type} (f : α → Int) : SWO (ltOf fun x y => cmpI (f x) (f y)) := by
 have key : ∀ x y, ltOf (fun x y => cmpI (f x) (f y)) x y = decide (f x < f y) := by
  intro x y
  unfold ltOf cmpI
  refine decide_eq_decide.2 ?_
  show (if f x < f y then (-1 : Int) else if f y < f x then 1 else 0) < 0 ↔ _
  split
  ·omega
  ·split <;> omega
 refine ⟨fun x => ?_, fun x y z h1 h2 => ?_, fun x y z h1 h2 => ?_⟩
 ·rw [key]; simp
 ·rw [key] at *; simp at *; omega
 ·rw [key] at *; simp at *; omega
end Go.Proofs.YtcomiiakkhafpaaGreat
namespace Go.Proofs.YtcomiiakkhafpaaGreat
open Go.Proofs.YtcomiiakkhafpaaGreat.Am Go.Sort Go.Proofs
variable [Inhabited DRT]
variable {G : GInv}
theorem onA {s : Sg} (h : LineS s) : OnP s s.a := by
 refine ⟨h, h.1, ?_, ?_, ?_⟩
 ·simp [crs]
 ·simp [dotP]
 ·simp only [dotP]
  have := sq_nonneg (s.b.x - s.a.x)
  have := sq_nonneg (s.b.y - s.a.y)
  simp; omega
def eT (s : Sg) (x : OnT s) : List Int := [x.1.x, x.1.y]
def cfT (s : Sg) (x y : OnT s) : Int := cmpI (keyT s x) (keyT s y)
theorem ord_eq (s : Sg) (x y : OnT s) : ordP s x.1 y.1 = cfT s x y := by unfold ordP; rw [if_pos ⟨x.2, y.2⟩]; rfl
theorem clo_c (s : Sg) (p q : Pt) : ACalls Tryz.prog G 151 [.agg (ptA p), .agg (ptA q), .bref (sgA s) 0] (.int .i64 (ordP s p q)) := by
 refine ACalls.of_WA ttok Tryz.func151 rfl rfl _ rfl ?_
 conv => whnf
 repeat' (first | refine sq ?_ | refine bk ?_ | ((first | refine rg ttok ?_ | refine dw ttok mixed ?_ | refine cd ?_ | refine sk ?_ | refine xt ?_ | refine rt ?_); conv => whnf) | (refine And.intro (fun h => ?_) (fun h => ?_) <;> (try simp only [brsA] at h) <;> conv => whnf) | ((first | refine Or.inl ?_ | skip); (conv => whnf); refine ⟨_, porder_c s p q, ?_⟩; conv => whnf) | ((first | refine wf ?_ | refine wp' ?_ | refine ai ?_ | refine And.intro rfl ?_ | refine an ?_ | fail); conv => whnf))
theorem sortPt_c (hns : ¬ (default : DRT).ns) (s : Sg) (hL : LineS s) (l : List (OnT s)) (hl : l.length ≤ 1000000) (h0 : 0 < l.length) :
  haveI : Inhabited (OnT s) := ⟨⟨s.a, onA hL⟩⟩
  MCalls Tryz.prog G 150 [.own 1, .fn 151 [.bref (sgA s) 0]] [.ghost [.own 1, .junk, .junk], .row 43 2 l.length (rowE (eT s) l)] (.tup []) [.ghost [.own 1, .junk, .junk], .row 43 2 l.length (rowE (eT s) (srt (cfT s) l))] := by
 letI : Inhabited (OnT s) := ⟨⟨s.a, onA hL⟩⟩
 exact MCalls.sortFunc hns (ρ := Tryz.laySortPt_ren) Tryz.laySortPt 2 (by omega) (fun w => by kernel_rfl) (fun w => by kernel_rfl) (eT s) (fun _ => rfl) (cfT s) (swo_key (keyT s)) 151 [.bref (sgA s) 0] rfl
  (fun x y => by have := clo_c (G := G) s x.1 y.1; rw [ord_eq] at this; exact this) ⟨_, _, Tryz.func150, rfl, rfl⟩ 43 l hl h0
def lT (s t : Sg) : List (OnT s) := (comK s t 4).pmap (fun p h => ⟨p, h⟩) (fun p hp => (comK_on s t 4 p hp).1)
theorem lT_map (s t : Sg) : (lT s t).map (·.1) = comK s t 4 := by
 unfold lT
 rw [List.map_pmap]
 simp
def comS (s t : Sg) (hL : LineS s) : List Pt := (@srt (OnT s) ⟨⟨s.a, onA hL⟩⟩ (cfT s) (lT s t)).map (·.1)
theorem comS_perm (s t : Sg) (hL : LineS s) : (comS s t hL).Perm (comK s t 4) := by
 unfold comS
 rw [← lT_map s t]
 exact List.Perm.map _ (@srt_facts _ (OnT s) ⟨⟨s.a, onA hL⟩⟩ (cfT s) (swo_key (keyT s)) (lT s t)).1
theorem getD_map_val {s : Sg} (l : List (OnT s)) (d : OnT s) (i : Nat) (h : i < l.length) : (l.map (·.1)).getD i default = (l.getD i d).1 := by
 simp [List.getD_eq_getElem?_getD, h]
theorem comS_sorted (s t : Sg) (hL : LineS s) (i j : Nat) (hij : i < j) (hj : j < (comS s t hL).length) : dotF s.a s.b ((comS s t hL).getD i default) ≤ dotF s.a s.b ((comS s t hL).getD j default) := by
 have hf := @srt_facts _ (OnT s) ⟨⟨s.a, onA hL⟩⟩ (cfT s) (swo_key (keyT s)) (lT s t)
 have hlen := @srt_len _ (OnT s) ⟨⟨s.a, onA hL⟩⟩ (cfT s) (swo_key (keyT s)) (lT s t)
 have hj' : j < (lT s t).length := by unfold comS at hj; rw [List.length_map, hlen] at hj; exact hj
 have := hf.2 i j hij hj'
 unfold comS
 rw [getD_map_val _ ⟨s.a, onA hL⟩ _ (by rw [hlen]; omega), getD_map_val _ ⟨s.a, onA hL⟩ _ (by rw [hlen]; omega)]
 unfold ltOf at this
 have := of_decide_eq_false this
 have h3 : ¬ cmpI (keyT s _) (keyT s _) < 0 := this
 unfold cmpI keyT at h3
 split at h3
 ·omega
 ·rename_i h4; exact Int.not_lt.1 h4
theorem row_fit1 (s t : Sg) (d : OnT s) : haveI : Inhabited (OnT s) := ⟨d⟩; ∀ i, i < (comK s t 4).length → rowP (comK s t 4) i = rowE (eT s) (lT s t) i := by
 intro i hi
 have e := lT_map s t
 have hl : (lT s t).length = (comK s t 4).length := by rw [← e]; simp
 have h2 := getD_map_val (lT s t) d i (by omega)
 rw [e] at h2
 unfold rowP rowE eT
 rw [h2]; rfl
theorem lT_len (s t : Sg) : (lT s t).length = (comK s t 4).length := by rw [← lT_map s t]; simp
theorem sort_fit (s t : Sg) (hL : LineS s) : haveI : Inhabited (OnT s) := ⟨⟨s.a, onA hL⟩⟩; fitS [A.own 1, .fn 151 [.bref (sgA s) 0]] [.ghost [.own 1, .junk, .junk], .row 43 2 (comK s t 4).length (rowP (comK s t 4))] [A.own 1, .fn 151 [.bref (sgA s) 0]] [.ghost [.own 1, .junk, .junk], .row 43 2 (lT s t).length (rowE (eT s) (lT s t))] := by
 conv => whnf
 repeat (first | exact fa | ((first | refine fb ?_ | (refine And.intro ?_ ?_; rotate_left)); conv => whnf))
 ·exact Or.inl fun i hi => row_fit1 s t ⟨s.a, onA hL⟩ i hi
 ·exact (lT_len s t).symm
theorem sortCom_c (hns : ¬ (default : DRT).ns) (s t : Sg) (hL : LineS s) (h0 : 0 < (comK s t 4).length) :
  haveI : Inhabited (OnT s) := ⟨⟨s.a, onA hL⟩⟩
  MCalls Tryz.prog G 150 [.own 1, .fn 151 [.bref (sgA s) 0]] [.ghost [.own 1, .junk, .junk], .row 43 2 (comK s t 4).length (rowP (comK s t 4))] (.tup []) [.ghost [.own 1, .junk, .junk], .row 43 2 (lT s t).length (rowE (eT s) (srt (cfT s) (lT s t)))] := by
 have hc := comK_len s t 4
 have hl := lT_len s t
 exact (sortPt_c hns s hL (lT s t) (by omega) (by omega)).fit rfl (sort_fit s t hL)
theorem rowCat_pt (l : List Pt) (p : Pt) (r : Nat → List A) (hr : r 0 = ptA p) (i : Nat) (hi : i < l.length + 1) : rowCat l.length (rowP l) r i = rowP (l ++ [p]) i := by
 unfold rowCat rowP
 split
 ·rename_i h
  have h : i < l.length := Nat.le_of_ble_eq_true h
  simp only [List.getD_eq_getElem?_getD, List.getElem?_append_left h]
 ·rename_i h
  have h : ¬ i < l.length := fun h' => by rw [show Nat.blt i l.length = true from Nat.ble_eq_true_of_le h'] at h; cases h
  have e : i = l.length := by omega
  subst e
  rw [Nat.sub_self, hr]
  simp [ptA, List.getD_eq_getElem?_getD]
set_option maxRecDepth 100000 in
set_option maxHeartbeats 4000000 in
theorem common_c (hns : ¬ (default : DRT).ns) (s t : Sg) (hL : LineS s) (h0 : 0 < (comK s t 4).length) : ACalls Tryz.prog G 113 [.agg (sgA s), .agg (sgA t)] (ptsA (comS s t hL)) := by
 refine ACalls.of_WA ttok Tryz.func113 rfl rfl _ rfl ?_
 conv => whnf
 repeat (first | refine sq ?_ | refine bk ?_ | ((first | refine rg ttok ?_ | refine dw ttok mixed ?_ | refine cd ?_ | refine sk ?_ | refine xt ?_ | refine rt ?_); conv => whnf))
 refine WA_nil 5 43 2 rfl ?_
 conv => whnf
 refine WA_loopI (fun k : Nat => k ≤ 4) (fun k => [(18, .int .i64 (k : Int)), (5, .own 3)]) (fun k => [.box 45 (sgA s), .box 45 (sgA t), .row 43 2 4 (rowP (endsL s t)), .row 43 2 (comK s t k).length (rowP (comK s t k))]) (fun k => 4 - k) 0 (by omega) ?_ ?_
 ·conv => whnf
  repeat (first | exact fa | ((first | refine fb ?_ | (refine And.intro ?_ ?_; rotate_left)); conv => whnf))
  all_goals (refine Or.inl fun i hi => ?_; rcases i with _ | _ | _ | _ | i <;> first | rfl | omega)
 ·intro k hk
  have hcl := comK_len s t k
  have hcc := contains_c (G := G) (comK s t k) ((endsL s t).getD k default) (by omega)
  have ho1 := on_c (G := G) s ((endsL s t).getD k default)
  have ho2 := on_c (G := G) t ((endsL s t).getD k default)
  have e1 : k < 4 → comK s t (k + 1) = addP s t (comK s t k) ((endsL s t).getD k default) := comK_succ s t k
  conv => whnf
  repeat (first | refine sq ?_ | refine bk ?_ | ((first | refine rg ttok ?_ | refine dw ttok mixed ?_ | refine cd ?_ | refine sk ?_ | refine xt ?_ | refine rt ?_); conv => whnf))
  refine ⟨fun h => ?_, fun h => ?_⟩
  ·have h := of_decide_eq_true h
   have hk4 : k < 4 := by omega
   have e1 := e1 hk4
   conv => whnf
   repeat' (first | refine sq ?_ | refine bk ?_ | ((first | refine rg ttok ?_ | refine dw ttok mixed ?_ | refine cd ?_ | refine sk ?_ | refine xt ?_ | refine rt ?_); conv => whnf) | (refine And.intro (fun h => ?_) (fun h => ?_) <;> (try simp only [brsA] at h) <;> conv => whnf) | ((first | refine Or.inl ?_ | skip); (conv => whnf); (first | refine ⟨_, ho1, ?_⟩ | refine ⟨_, ho2, ?_⟩ | refine ⟨_, hcc, ?_⟩); conv => whnf) | ((first | refine wf ?_ | refine wp' ?_ | refine ai ?_ | refine And.intro rfl ?_ | refine an ?_ | fail); conv => whnf))
   ·have e2 : comK s t (k + 1) = comK s t k ++ [(endsL s t).getD k default] := by
     rw [e1]; unfold addP; rw [if_pos ⟨⟨by assumption, by assumption⟩, by assumption⟩]
    refine ⟨k + 1, (by show k + 1 ≤ 4; omega), (by show 4 - (k + 1) < 4 - k; omega), ?_⟩
    conv => whnf
    repeat (first | exact fa | ((first | refine fb ?_ | (refine And.intro ?_ ?_; rotate_left)); conv => whnf))
    ·refine Or.inl fun i hi => ?_
     rw [e2]
     exact rowCat_pt (comK s t k) ((endsL s t).getD k default) _ rfl i hi
    ·rw [e2]; simp
   all_goals
    have e2 : comK s t (k + 1) = comK s t k := by
     rw [e1]; unfold addP
     rw [if_neg]
     rintro ⟨⟨q1, q2⟩, q3⟩
     contradiction
    refine ⟨k + 1, (by show k + 1 ≤ 4; omega), (by show 4 - (k + 1) < 4 - k; omega), ?_⟩
    conv => whnf
    repeat (first | exact fa | ((first | refine fb ?_ | (refine And.intro ?_ ?_; rotate_left)); conv => whnf))
    all_goals first | (rw [e2]; done) | (rw [e2]; exact Or.inl fun _ _ => rfl)
  ·have h := of_decide_eq_false h
   have hk4 : k = 4 := by omega
   subst hk4
   conv => whnf
   iterate 2 (first | refine sq ?_ | refine bk ?_ | ((first | refine rg ttok ?_ | refine dw ttok mixed ?_ | refine cd ?_ | refine sk ?_ | refine xt ?_ | refine rt ?_); conv => whnf))
   refine WA_freeze 0 ?_
   conv => whnf
   repeat' (first | refine sq ?_ | refine bk ?_ | ((first | refine rg ttok ?_ | refine dw ttok mixed ?_ | refine cd ?_ | refine sk ?_ | refine xt ?_ | refine rt ?_); conv => whnf) | (refine And.intro (fun h => ?_) (fun h => ?_) <;> (try simp only [brsA] at h) <;> conv => whnf) | (refine Or.inr (Or.inl ?_); (conv => whnf); refine ⟨_, _, sortCom_c hns s t hL h0, ?_⟩; conv => whnf) | ((first | refine wf ?_ | refine wp' ?_ | refine ai ?_ | refine And.intro rfl ?_ | refine an ?_ | fail); conv => whnf))
   have hsl := @srt_len _ (OnT s) ⟨⟨s.a, onA hL⟩⟩ (cfT s) (swo_key (keyT s)) (lT s t)
   refine ⟨by unfold comS; rw [List.length_map, hsl], Or.inl fun i hi => ?_⟩
   unfold rowE rowP comS
   rw [getD_map_val _ ⟨s.a, onA hL⟩ i (by rw [hsl]; exact hi)]
   rfl
end Go.Proofs.YtcomiiakkhafpaaGreat
namespace Go.Proofs.YtcomiiakkhafpaaGreat
open Go.Proofs.YtcomiiakkhafpaaGreat.Am Go.Sort Go.Proofs
variable [Inhabited DRT]
variable {G : GInv}
structure Mt where
 k : Int
 n : Int
 m : Int
 d : Int
 p : Pt
 q : Pt
 deriving DecidableEq
def mtA (x : Mt) : List A := [.int .i64 x.k, .int .i64 x.n, .int .i64 x.m, .int .i64 x.d, .int .i64 x.p.x, .int .i64 x.p.y, .int .i64 x.q.x, .int .i64 x.q.y]
def mt0 : Mt := ⟨0, 0, 0, 0, ⟨0, 0⟩, ⟨0, 0⟩⟩
def partF (s : Sg) (p : Pt) : Int := if p = s.a then 0 else 1
theorem part_c (s : Sg) (p : Pt) : ACalls Tryz.prog G 114 [.agg (sgA s), .agg (ptA p)] (.int .i64 (partF s p)) := by
 refine ACalls.of_WA ttok Tryz.func114 rfl rfl _ rfl ?_
 conv => whnf
 repeat' (first | refine sq ?_ | refine bk ?_ | ((first | refine rg ttok ?_ | refine dw ttok mixed ?_ | refine cd ?_ | refine sk ?_ | refine xt ?_ | refine rt ?_); conv => whnf) | (refine And.intro (fun h => ?_) (fun h => ?_) <;> (try simp only [brsA] at h) <;> conv => whnf) | ((first | refine wf ?_ | refine wp' ?_ | refine ai ?_ | refine And.intro rfl ?_ | refine an ?_ | fail); conv => whnf))
 ·have h : (p.x == s.a.x && (p.y == s.a.y && true)) = true := h
  rw [pt_eq] at h
  unfold partF; rw [if_pos (of_decide_eq_true h)]
 ·have h : (p.x == s.a.x && (p.y == s.a.y && true)) = false := h
  rw [pt_eq] at h
  unfold partF; rw [if_neg (of_decide_eq_false h)]
def overL (s t : Sg) (L : List Pt) : Mt := if L.length = 1 then ⟨1, partF s (L.getD 0 default), partF t (L.getD 0 default), 1, ⟨0, 0⟩, ⟨0, 0⟩⟩ else ⟨2, 0, 0, 0, L.getD 0 default, L.getD (L.length - 1) default⟩
set_option maxRecDepth 100000 in
set_option maxHeartbeats 2000000 in
theorem over_c (hns : ¬ (default : DRT).ns) (s t : Sg) (hL : LineS s) (h0 : 0 < (comK s t 4).length) : ACalls Tryz.prog G 66 [.agg (sgA s), .agg (sgA t)] (.agg (mtA (overL s t (comS s t hL)))) := by
 have hlen : (comS s t hL).length = (comK s t 4).length := (comS_perm s t hL).length_eq
 have h4 := comK_len s t 4
 refine ACalls.of_WA ttok Tryz.func66 rfl rfl _ rfl ?_
 conv => whnf
 repeat' (first | refine sq ?_ | refine bk ?_ | ((first | refine rg ttok ?_ | refine dw ttok mixed ?_ | refine cd ?_ | refine sk ?_ | refine xt ?_ | refine rt ?_); conv => whnf) | (refine And.intro (fun h => ?_) (fun h => ?_) <;> (try simp only [brsA] at h) <;> conv => whnf) | ((first | refine Or.inl ?_ | skip); (conv => whnf); (first | refine ⟨_, common_c hns s t hL h0, ?_⟩ | refine ⟨_, part_c s ((comS s t hL).getD 0 default), ?_⟩ | refine ⟨_, part_c t ((comS s t hL).getD 0 default), ?_⟩); conv => whnf) | ((first | refine wf ?_ | refine wp' ?_ | refine ai ?_ | refine And.intro rfl ?_ | refine an ?_ | fail); conv => whnf))
 all_goals first | (exfalso; omega) | skip
 ·have e : overL s t (comS s t hL) = ⟨1, partF s ((comS s t hL).getD 0 default), partF t ((comS s t hL).getD 0 default), 1, ⟨0, 0⟩, ⟨0, 0⟩⟩ := by
   unfold overL; rw [if_pos (by omega)]
  rw [e]
  repeat (first | exact fa | ((first | refine fb ?_ | (refine And.intro ?_ ?_; rotate_left)); conv => whnf))
 ·have e : overL s t (comS s t hL) = ⟨2, 0, 0, 0, (comS s t hL).getD 0 default, (comS s t hL).getD ((comS s t hL).length - 1) default⟩ := by
   unfold overL; rw [if_neg (by omega)]
  have e2 : (((comS s t hL).length : Int) - 1).toNat = (comS s t hL).length - 1 := by omega
  rw [e, e2]
  repeat (first | exact fa | ((first | refine fb ?_ | (refine And.intro ?_ ?_; rotate_left)); conv => whnf))
def crossM (s t : Sg) : Mt :=
 if crs t.a t.b s.a - crs t.a t.b s.b < 0 then ⟨1, -(crs t.a t.b s.a), crs s.a s.b t.a, -(crs t.a t.b s.a - crs t.a t.b s.b), ⟨0, 0⟩, ⟨0, 0⟩⟩
 else ⟨1, crs t.a t.b s.a, -(crs s.a s.b t.a), crs t.a t.b s.a - crs t.a t.b s.b, ⟨0, 0⟩, ⟨0, 0⟩⟩
set_option maxRecDepth 100000 in
set_option maxHeartbeats 2000000 in
theorem of_cross (s t : Sg) (hT : TouchP s t) (hA : ¬ AlongP s t) : ACalls Tryz.prog G 23 [.agg (sgA s), .agg (sgA t)] (.agg (mtA (crossM s t))) := by
 have h1 : All3 t.a t.b s.a := All3_line hT.2.1 hT.1.1
 have h2 : All3 s.a s.b t.a := All3_line hT.1 hT.2.1.1
 have h3 : All3 t.a t.b s.b := All3_line hT.2.1 hT.1.2.1
 have c1 := cross_c (G := G) t.a t.b s.a
 have c2 := cross_c (G := G) s.a s.b t.a
 have c3 := cross_c (G := G) t.a t.b s.b
 rw [crsF_eq h1] at c1; rw [crsF_eq h2] at c2; rw [crsF_eq h3] at c3
 have b1 := crs_bd h1; have b2 := crs_bd h2; have b3 := crs_bd h3
 have ct := touch_c (G := G) s t
 rw [decide_eq_true hT] at ct
 have ca := along_c (G := G) s t
 rw [decide_eq_false hA] at ca
 refine ACalls.of_WA ttok Tryz.func23 rfl rfl _ rfl ?_
 conv => whnf
 repeat' (first | refine sq ?_ | refine bk ?_ | ((first | refine rg ttok ?_ | refine dw ttok mixed ?_ | refine cd ?_ | refine sk ?_ | refine xt ?_ | refine rt ?_); conv => whnf) | (refine And.intro (fun h => ?_) (fun h => ?_) <;> (try simp only [brsA] at h) <;> conv => whnf) | ((first | refine Or.inl ?_ | skip); (conv => whnf); (first | refine ⟨_, ct, ?_⟩ | refine ⟨_, ca, ?_⟩ | refine ⟨_, c1, ?_⟩ | refine ⟨_, c2, ?_⟩ | refine ⟨_, c3, ?_⟩); conv => whnf) | ((first | refine wf ?_ | refine wp' ?_ | refine ai ?_ | refine And.intro rfl ?_ | refine an ?_ | fail); conv => whnf))
 all_goals first | exact Bool.noConfusion h | skip
 ·have e : crossM s t = ⟨1, -(crs t.a t.b s.a), crs s.a s.b t.a, -(crs t.a t.b s.a - crs t.a t.b s.b), ⟨0, 0⟩, ⟨0, 0⟩⟩ := by unfold crossM; rw [if_pos h]
  rw [e]
  repeat (first | exact fa | ((first | refine fb ?_ | (refine And.intro ?_ ?_; rotate_left)); conv => whnf))
  all_goals first | rfl | (dsimp only; omega)
 ·have e : crossM s t = ⟨1, crs t.a t.b s.a, -(crs s.a s.b t.a), crs t.a t.b s.a - crs t.a t.b s.b, ⟨0, 0⟩, ⟨0, 0⟩⟩ := by unfold crossM; rw [if_neg h]
  rw [e]
  repeat (first | exact fa | ((first | refine fb ?_ | (refine And.intro ?_ ?_; rotate_left)); conv => whnf))
  all_goals first | rfl | (dsimp only; omega)
set_option maxRecDepth 100000 in
set_option maxHeartbeats 2000000 in
theorem of_over (hns : ¬ (default : DRT).ns) (s t : Sg) (hT : TouchP s t) (hA : AlongP s t) (h0 : 0 < (comK s t 4).length) : ACalls Tryz.prog G 23 [.agg (sgA s), .agg (sgA t)] (.agg (mtA (overL s t (comS s t hT.1)))) := by
 have ct := touch_c (G := G) s t
 rw [decide_eq_true hT] at ct
 have ca := along_c (G := G) s t
 rw [decide_eq_true hA] at ca
 refine ACalls.of_WA ttok Tryz.func23 rfl rfl _ rfl ?_
 conv => whnf
 repeat' (first | refine sq ?_ | refine bk ?_ | ((first | refine rg ttok ?_ | refine dw ttok mixed ?_ | refine cd ?_ | refine sk ?_ | refine xt ?_ | refine rt ?_); conv => whnf) | (refine And.intro (fun h => ?_) (fun h => ?_) <;> (try simp only [brsA] at h) <;> conv => whnf) | ((first | refine Or.inl ?_ | skip); (conv => whnf); (first | refine ⟨_, ct, ?_⟩ | refine ⟨_, ca, ?_⟩ | refine ⟨_, over_c hns s t hT.1 h0, ?_⟩); conv => whnf) | ((first | refine wf ?_ | refine wp' ?_ | refine ai ?_ | refine And.intro rfl ?_ | refine an ?_ | fail); conv => whnf))
 all_goals first | exact Bool.noConfusion h | skip
 all_goals repeat (first | exact fa | ((first | refine fb ?_ | (refine And.intro ?_ ?_; rotate_left)); conv => whnf))
set_option maxRecDepth 100000 in
set_option maxHeartbeats 2000000 in
theorem of_none (s t : Sg) (hT : ¬ TouchP s t) : ACalls Tryz.prog G 23 [.agg (sgA s), .agg (sgA t)] (.agg (mtA mt0)) := by
 have ct := touch_c (G := G) s t
 rw [decide_eq_false hT] at ct
 refine ACalls.of_WA ttok Tryz.func23 rfl rfl _ rfl ?_
 conv => whnf
 repeat' (first | refine sq ?_ | refine bk ?_ | ((first | refine rg ttok ?_ | refine dw ttok mixed ?_ | refine cd ?_ | refine sk ?_ | refine xt ?_ | refine rt ?_); conv => whnf) | (refine And.intro (fun h => ?_) (fun h => ?_) <;> (try simp only [brsA] at h) <;> conv => whnf) | ((first | refine Or.inl ?_ | skip); (conv => whnf); refine ⟨_, ct, ?_⟩; conv => whnf) | ((first | refine wf ?_ | refine wp' ?_ | refine ai ?_ | refine And.intro rfl ?_ | refine an ?_ | fail); conv => whnf))
 all_goals first | exact Bool.noConfusion h | skip
 all_goals repeat (first | exact fa | ((first | refine fb ?_ | (refine And.intro ?_ ?_; rotate_left)); conv => whnf))
end Go.Proofs.YtcomiiakkhafpaaGreat
namespace Go.Proofs.YtcomiiakkhafpaaGreat
open Go.Proofs.YtcomiiakkhafpaaGreat.Am Go.Sort Go.Proofs
variable [Inhabited DRT]
variable {G : GInv}
/-! ### The reference's meeting -/
def rN (s t : Sg) : Int := (t.a.x - s.a.x) * (t.b.y - t.a.y) - (t.a.y - s.a.y) * (t.b.x - t.a.x)
def rM (s t : Sg) : Int := (t.a.x - s.a.x) * (s.b.y - s.a.y) - (t.a.y - s.a.y) * (s.b.x - s.a.x)
def rD (s t : Sg) : Int := (s.b.x - s.a.x) * (t.b.y - t.a.y) - (s.b.y - s.a.y) * (t.b.x - t.a.x)
def refCross (s t : Sg) : Mt := if rD s t < 0 then ⟨1, -(rN s t), -(rM s t), -(rD s t), ⟨0, 0⟩, ⟨0, 0⟩⟩ else ⟨1, rN s t, rM s t, rD s t, ⟨0, 0⟩, ⟨0, 0⟩⟩
structure Fl where
 sm : Bool
 f : Pt
 l : Pt
def stepFl (s t : Sg) (x : Fl) (p : Pt) : Fl :=
 if BothP s t p then ⟨true, if x.sm = false ∨ dotF s.a s.b p < dotF s.a s.b x.f then p else x.f, if x.sm = false ∨ dotF s.a s.b x.l < dotF s.a s.b p then p else x.l⟩ else x
def flK (s t : Sg) (k : Nat) : Fl := ((endsL s t).take k).foldl (stepFl s t) ⟨false, ⟨0, 0⟩, ⟨0, 0⟩⟩
theorem flK_succ (s t : Sg) (k : Nat) (h : k < 4) : flK s t (k + 1) = stepFl s t (flK s t k) ((endsL s t).getD k default) := by
 unfold flK
 rw [List.take_add_one, List.foldl_append]
 rcases k with _ | _ | _ | _ | k <;> first | rfl | omega
theorem st_no (s t : Sg) (x : Fl) (p : Pt) (h : ¬ OnP s p ∨ ¬ OnP t p) : stepFl s t x p = x := by
 unfold stepFl; exact if_neg (fun q => h.elim (fun h => h q.1) (fun h => h q.2))
theorem st_new (s t : Sg) (x : Fl) (p : Pt) (h1 : OnP s p) (h2 : OnP t p) (h : x.sm = false) : stepFl s t x p = ⟨true, p, p⟩ := by
 unfold stepFl; rw [if_pos (show BothP s t p from ⟨h1, h2⟩), if_pos (Or.inl h), if_pos (Or.inl h)]
theorem st_tt (s t : Sg) (x : Fl) (p : Pt) (h1 : OnP s p) (h2 : OnP t p) (h3 : dotF s.a s.b p < dotF s.a s.b x.f) (h4 : dotF s.a s.b x.l < dotF s.a s.b p) : stepFl s t x p = ⟨true, p, p⟩ := by
 unfold stepFl; rw [if_pos (show BothP s t p from ⟨h1, h2⟩), if_pos (Or.inr h3), if_pos (Or.inr h4)]
theorem st_tf (s t : Sg) (x : Fl) (p : Pt) (h1 : OnP s p) (h2 : OnP t p) (h : x.sm = true) (h3 : dotF s.a s.b p < dotF s.a s.b x.f) (h4 : ¬ dotF s.a s.b x.l < dotF s.a s.b p) : stepFl s t x p = ⟨true, p, x.l⟩ := by
 unfold stepFl; rw [if_pos (show BothP s t p from ⟨h1, h2⟩), if_pos (Or.inr h3), if_neg (by rw [h]; simp; omega)]
theorem st_ft (s t : Sg) (x : Fl) (p : Pt) (h1 : OnP s p) (h2 : OnP t p) (h : x.sm = true) (h3 : ¬ dotF s.a s.b p < dotF s.a s.b x.f) (h4 : dotF s.a s.b x.l < dotF s.a s.b p) : stepFl s t x p = ⟨true, x.f, p⟩ := by
 unfold stepFl; rw [if_pos (show BothP s t p from ⟨h1, h2⟩), if_neg (by rw [h]; simp; omega), if_pos (Or.inr h4)]
theorem st_ff (s t : Sg) (x : Fl) (p : Pt) (h1 : OnP s p) (h2 : OnP t p) (h : x.sm = true) (h3 : ¬ dotF s.a s.b p < dotF s.a s.b x.f) (h4 : ¬ dotF s.a s.b x.l < dotF s.a s.b p) : stepFl s t x p = ⟨true, x.f, x.l⟩ := by
 unfold stepFl; rw [if_pos (show BothP s t p from ⟨h1, h2⟩), if_neg (by rw [h]; simp; omega), if_neg (by rw [h]; simp; omega)]
def refOver (s t : Sg) : Mt :=
 if (flK s t 4).f ≠ (flK s t 4).l then ⟨2, 0, 0, 0, (flK s t 4).f, (flK s t 4).l⟩
 else ⟨1, if (flK s t 4).f = s.b then 1 else 0, if (flK s t 4).f = t.b then 1 else 0, 1, ⟨0, 0⟩, ⟨0, 0⟩⟩
theorem peq (a b : Pt) : (a.x == b.x && (a.y == b.y && true)) = decide (a = b) := by
 obtain ⟨a1, a2⟩ := a
 obtain ⟨b1, b2⟩ := b
 rw [Bool.eq_iff_iff]
 simp
theorem ro2 {s t : Sg} {X : Fl} (hX : X = flK s t 4) (h : (X.f.x == X.l.x && (X.f.y == X.l.y && true)) = false) : refOver s t = ⟨2, 0, 0, 0, X.f, X.l⟩ := by
 rw [peq] at h
 unfold refOver
 rw [← hX, if_pos (of_decide_eq_false h)]
theorem ro1 {s t : Sg} {X : Fl} (hX : X = flK s t 4) (h : (X.f.x == X.l.x && (X.f.y == X.l.y && true)) = true) {b1 b2 : Bool} (h1 : (X.f.x == s.b.x && (X.f.y == s.b.y && true)) = b1) (h2 : (X.f.x == t.b.x && (X.f.y == t.b.y && true)) = b2) : refOver s t = ⟨1, cond b1 1 0, cond b2 1 0, 1, ⟨0, 0⟩, ⟨0, 0⟩⟩ := by
 rw [peq] at h h1 h2
 unfold refOver
 rw [← hX, if_neg (fun q => q (of_decide_eq_true h))]
 subst h1 h2
 by_cases e1 : X.f = s.b <;> by_cases e2 : X.f = t.b <;> simp [e1, e2]
theorem rbd {s t : Sg} (hs : LineS s) (ht : LineS t) :
  ((-1152921504606846976 ≤ (t.a.x - s.a.x) * (t.b.y - t.a.y) ∧ (t.a.x - s.a.x) * (t.b.y - t.a.y) ≤ 1152921504606846976) ∧ (-1152921504606846976 ≤ (t.a.y - s.a.y) * (t.b.x - t.a.x) ∧ (t.a.y - s.a.y) * (t.b.x - t.a.x) ≤ 1152921504606846976)) ∧
  ((-1152921504606846976 ≤ (t.a.x - s.a.x) * (s.b.y - s.a.y) ∧ (t.a.x - s.a.x) * (s.b.y - s.a.y) ≤ 1152921504606846976) ∧ (-1152921504606846976 ≤ (t.a.y - s.a.y) * (s.b.x - s.a.x) ∧ (t.a.y - s.a.y) * (s.b.x - s.a.x) ≤ 1152921504606846976)) ∧
  ((-1152921504606846976 ≤ (s.b.x - s.a.x) * (t.b.y - t.a.y) ∧ (s.b.x - s.a.x) * (t.b.y - t.a.y) ≤ 1152921504606846976) ∧ (-1152921504606846976 ≤ (s.b.y - s.a.y) * (t.b.x - t.a.x) ∧ (s.b.y - s.a.y) * (t.b.x - t.a.x) ≤ 1152921504606846976)) := by
 obtain ⟨⟨⟨a1, a2⟩, a3, a4⟩, ⟨⟨b1, b2⟩, b3, b4⟩, _⟩ := hs
 obtain ⟨⟨⟨c1, c2⟩, c3, c4⟩, ⟨⟨d1, d2⟩, d3, d4⟩, _⟩ := ht
 refine ⟨⟨?_, ?_⟩, ⟨?_, ?_⟩, ?_, ?_⟩ <;> exact mul30 (by omega) (by omega) (by omega) (by omega)
theorem toBc {P : Program} {f : FuncId} {args : List A} {b : Bool} (h : ACalls P G f args (.sb b)) : ACalls P G f args (.bool b) := by
 refine ⟨h.1, fun im w vs h1 h2 h3 h4 => ?_⟩
 refine Calls_mono (h.2 im w vs h1 h2 h3 h4) ?_
 rintro e w' ⟨v, e1, e2, e3⟩
 refine ⟨v, e1, ?_, e3⟩
 cases e2; exact .bool b
set_option maxRecDepth 100000 in
set_option maxHeartbeats 4000000 in
theorem rof_none (s t : Sg) (hT : ¬ TouchP s t) : ACalls Tryz.prog G 81 [.agg (sgA s), .agg (sgA t)] (.agg (mtA mt0)) := by
 have ct := toBc (rtouch_c (G := G) s t)
 rw [decide_eq_false hT] at ct
 refine ACalls.of_WA ttok Tryz.func81 rfl rfl _ rfl ?_
 conv => whnf
 repeat' (first | refine sq ?_ | refine bk ?_ | ((first | refine rg ttok ?_ | refine dw ttok mixed ?_ | refine cd ?_ | refine sk ?_ | refine xt ?_ | refine rt ?_); conv => whnf) | (refine And.intro (fun h => ?_) (fun h => ?_) <;> (try simp only [brsA] at h) <;> conv => whnf) | ((first | refine Or.inl ?_ | skip); (conv => whnf); refine ⟨_, ct, ?_⟩; conv => whnf) | ((first | refine wf ?_ | refine wp' ?_ | refine ai ?_ | refine And.intro rfl ?_ | refine an ?_ | fail); conv => whnf))
 repeat (first | exact fa | ((first | refine fb ?_ | (refine And.intro ?_ ?_; rotate_left)); conv => whnf))
set_option maxRecDepth 100000 in
set_option maxHeartbeats 4000000 in
theorem rof_cross (s t : Sg) (hT : TouchP s t) (hd : rD s t ≠ 0) : ACalls Tryz.prog G 81 [.agg (sgA s), .agg (sgA t)] (.agg (mtA (refCross s t))) := by
 have ct := toBc (rtouch_c (G := G) s t)
 rw [decide_eq_true hT] at ct
 obtain ⟨⟨b1, b2⟩, ⟨b3, b4⟩, b5, b6⟩ := rbd hT.1 hT.2.1
 obtain ⟨⟨⟨a1, a2⟩, a3, a4⟩, ⟨⟨a5, a6⟩, a7, a8⟩, _⟩ := hT.1
 obtain ⟨⟨⟨c1, c2⟩, c3, c4⟩, ⟨⟨c5, c6⟩, c7, c8⟩, _⟩ := hT.2.1
 have hd' : ¬ (s.b.x - s.a.x) * (t.b.y - t.a.y) - (s.b.y - s.a.y) * (t.b.x - t.a.x) = 0 := hd
 refine ACalls.of_WA ttok Tryz.func81 rfl rfl _ rfl ?_
 conv => whnf
 repeat' (first | refine sq ?_ | refine bk ?_ | ((first | refine rg ttok ?_ | refine dw ttok mixed ?_ | refine cd ?_ | refine sk ?_ | refine xt ?_ | refine rt ?_); conv => whnf) | (refine And.intro (fun h => ?_) (fun h => ?_) <;> (try simp only [brsA] at h) <;> conv => whnf) | ((first | refine Or.inl ?_ | skip); (conv => whnf); refine ⟨_, ct, ?_⟩; conv => whnf) | ((first | refine wf ?_ | refine wp' ?_ | refine ai ?_ | refine And.intro rfl ?_ | refine an ?_ | fail); conv => whnf))
 all_goals first | (exfalso; contradiction) | skip
 ·have e : refCross s t = ⟨1, -(rN s t), -(rM s t), -(rD s t), ⟨0, 0⟩, ⟨0, 0⟩⟩ := by unfold refCross; exact if_pos h
  rw [e]
  repeat (first | exact fa | ((first | refine fb ?_ | (refine And.intro ?_ ?_; rotate_left)); conv => whnf))
 ·have e : refCross s t = ⟨1, rN s t, rM s t, rD s t, ⟨0, 0⟩, ⟨0, 0⟩⟩ := by unfold refCross; exact if_neg h
  rw [e]
  repeat (first | exact fa | ((first | refine fb ?_ | (refine And.intro ?_ ?_; rotate_left)); conv => whnf))
set_option maxRecDepth 100000 in
set_option maxHeartbeats 8000000 in
theorem rof_over (s t : Sg) (hT : TouchP s t) (hd : rD s t = 0) : ACalls Tryz.prog G 81 [.agg (sgA s), .agg (sgA t)] (.agg (mtA (refOver s t))) := by
 have ct := toBc (rtouch_c (G := G) s t)
 rw [decide_eq_true hT] at ct
 obtain ⟨⟨b1, b2⟩, ⟨b3, b4⟩, b5, b6⟩ := rbd hT.1 hT.2.1
 obtain ⟨⟨⟨a1, a2⟩, a3, a4⟩, ⟨⟨a5, a6⟩, a7, a8⟩, _⟩ := hT.1
 obtain ⟨⟨⟨c1, c2⟩, c3, c4⟩, ⟨⟨c5, c6⟩, c7, c8⟩, _⟩ := hT.2.1
 have hd' : (s.b.x - s.a.x) * (t.b.y - t.a.y) - (s.b.y - s.a.y) * (t.b.x - t.a.x) = 0 := hd
 refine ACalls.of_WA ttok Tryz.func81 rfl rfl _ rfl ?_
 conv => whnf
 repeat' (first | refine sq ?_ | refine bk ?_ | ((first | refine rg ttok ?_ | refine dw ttok mixed ?_ | refine cd ?_ | refine sk ?_ | refine xt ?_ | refine rt ?_); conv => whnf) | (refine And.intro (fun h => ?_) (fun h => ?_) <;> (try simp only [brsA] at h) <;> conv => whnf) | ((first | refine Or.inl ?_ | skip); (conv => whnf); refine ⟨_, ct, ?_⟩; conv => whnf) | ((first | refine wf ?_ | refine wp' ?_ | refine ai ?_ | refine And.intro rfl ?_ | refine an ?_ | fail); conv => whnf))
 all_goals first | (exfalso; omega) | skip
 refine WA_loopI (fun k : Nat => k ≤ 4) (fun k => [(115, .int .i64 (k : Int)), (16, .sb (flK s t k).sm)]) (fun k => [.box 45 (sgA s), .box 45 (sgA t), .box 53 (mtA mt0), .box 43 (ptA (flK s t k).f), .box 43 (ptA (flK s t k).l), .row 43 2 4 (rowP (endsL s t))]) (fun k => 4 - k) 0 (by omega) ?_ ?_
 ·conv => whnf
  repeat (first | exact fa | ((first | refine fb ?_ | (refine And.intro ?_ ?_; rotate_left)); conv => whnf))
  all_goals (refine Or.inl fun i hi => ?_; rcases i with _ | _ | _ | _ | i <;> first | rfl | omega)
 ·intro k hk
  have ho1 := ron_c (G := G) s ((endsL s t).getD k default)
  have ho2 := ron_c (G := G) t ((endsL s t).getD k default)
  have hd1 := rdot_c (G := G) s.a s.b ((endsL s t).getD k default)
  have hd2 := rdot_c (G := G) s.a s.b (flK s t k).f
  have hd3 := rdot_c (G := G) s.a s.b (flK s t k).l
  have e1 : k < 4 → flK s t (k + 1) = stepFl s t (flK s t k) ((endsL s t).getD k default) := flK_succ s t k
  obtain ⟨X, hX⟩ : ∃ X, X = flK s t k := ⟨_, rfl⟩
  obtain ⟨Y, hY⟩ : ∃ Y, Y = flK s t (k + 1) := ⟨_, rfl⟩
  rw [← hX] at hd2 hd3 ⊢
  rw [← hX, ← hY] at e1
  conv => whnf
  repeat (first | refine sq ?_ | refine bk ?_ | ((first | refine rg ttok ?_ | refine dw ttok mixed ?_ | refine cd ?_ | refine sk ?_ | refine xt ?_ | refine rt ?_); conv => whnf))
  refine ⟨fun h => ?_, fun h => ?_⟩
  ·have h := of_decide_eq_true h
   have hk4 : k < 4 := by omega
   have e1 := e1 hk4
   conv => whnf
   repeat' (first | refine sq ?_ | refine bk ?_ | ((first | refine rg ttok ?_ | refine dw ttok mixed ?_ | refine cd ?_ | refine sk ?_ | refine xt ?_ | refine rt ?_); conv => whnf) | (refine And.intro (fun h => ?_) (fun h => ?_) <;> (try simp only [brsA] at h) <;> conv => whnf) | ((first | refine Or.inl ?_ | skip); (conv => whnf); (first | refine ⟨_, ho1, ?_⟩ | refine ⟨_, ho2, ?_⟩ | refine ⟨_, hd1, ?_⟩ | refine ⟨_, hd2, ?_⟩ | refine ⟨_, hd3, ?_⟩); conv => whnf) | ((first | refine wf ?_ | refine wp' ?_ | refine ai ?_ | refine And.intro rfl ?_ | refine an ?_ | fail); conv => whnf))
   all_goals first
    | (exfalso; have q1 : X.sm = true := by assumption
       have q2 : X.sm = false := by assumption
       rw [q1] at q2; exact Bool.noConfusion q2)
    | skip
   all_goals refine ⟨k + 1, (by show k + 1 ≤ 4; omega), (by show 4 - (k + 1) < 4 - k; omega), ?_⟩
   all_goals (try simp only [])
   all_goals rw [← hY]
   all_goals first
    | rw [e1.trans (st_new _ _ _ _ (by assumption) (by assumption) (by assumption))]
    | rw [e1.trans (st_tt _ _ _ _ (by assumption) (by assumption) (by assumption) (by assumption))]
    | rw [e1.trans (st_tf _ _ _ _ (by assumption) (by assumption) (by assumption) (by assumption) (by assumption))]
    | rw [e1.trans (st_ft _ _ _ _ (by assumption) (by assumption) (by assumption) (by assumption) (by assumption))]
    | rw [e1.trans (st_ff _ _ _ _ (by assumption) (by assumption) (by assumption) (by assumption) (by assumption))]
    | rw [e1.trans (st_no _ _ _ _ (Or.inl (by assumption)))]
    | rw [e1.trans (st_no _ _ _ _ (Or.inr (by assumption)))]
   all_goals
    conv => whnf
    repeat (first | exact fa | ((first | refine fb ?_ | (refine And.intro ?_ ?_; rotate_left)); conv => whnf))
  ·have h := of_decide_eq_false h
   have hk4 : k = 4 := by omega
   subst hk4
   conv => whnf
   repeat' (first | refine sq ?_ | refine bk ?_ | ((first | refine rg ttok ?_ | refine dw ttok mixed ?_ | refine cd ?_ | refine sk ?_ | refine xt ?_ | refine rt ?_); conv => whnf) | (refine And.intro (fun h => ?_) (fun h => ?_) <;> (try simp only [brsA] at h) <;> conv => whnf) | ((first | refine Or.inl ?_ | skip); (conv => whnf); refine ⟨_, ho1, ?_⟩; conv => whnf) | ((first | refine wf ?_ | refine wp' ?_ | refine ai ?_ | refine And.intro rfl ?_ | refine an ?_ | fail); conv => whnf))
   ·rw [ro2 hX (by assumption)]
    repeat (first | exact fa | ((first | refine fb ?_ | (refine And.intro ?_ ?_; rotate_left)); conv => whnf))
   all_goals
    rw [ro1 hX (by assumption) (by assumption) (by assumption)]
    repeat (first | exact fa | ((first | refine fb ?_ | (refine And.intro ?_ ?_; rotate_left)); conv => whnf))
end Go.Proofs.YtcomiiakkhafpaaGreat

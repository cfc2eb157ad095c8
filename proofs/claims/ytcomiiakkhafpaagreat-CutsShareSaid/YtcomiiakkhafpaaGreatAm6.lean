/-
  THE ENGINE, part 6: sorting, and striking out what stands twice.
-/
import Derived.Test.YtcomiiakkhafpaaGreatAm5
import Derived.Shelf.SlSortCmp.WholeK
import Derived.Shelf.SlLaysE
import Derived.Shelf.SlicesE.Kit
import Derived.Shelf.SlicesE.Equal
import Derived.Shelf.SlicesQ.Load
import Derived.Shelf.SlicesQ.Reverse
import Derived.Shelf.GgSortFunc.RowK
import Derived.Shelf.RegionOpenPlain
import Derived.WalkKit
import Derived.Deep.LoopGhost
import Derived.Deep.Draws
import Derived.Lib.Walk
import Derived.Sort.WalkB12
import Derived.Lib.SliceRun
import Derived.Lib.SlicesCompact
import Derived.Test.YtcomiiakkhafpaaGreatAm1
import Derived.Ground.SlsfProg
import Derived.Test.YtcomiiakkhafpaaGreatProg
set_option linter.unusedSectionVars false
namespace Go.Proofs.YtcomiiakkhafpaaGreat.Am
variable [Inhabited DRT]
open Go.RowKit (Below)
open Go.Proofs Go.Shelf Go.Sort Go.Lib

/-! ### slices.SortFunc on a row of ours whose cells are numbers -/
section
variable {α : Type} [Inhabited α]
/-- The sorted row (the library's own order of equals). -/
def srt (cf : α → α → Int) (l : List α) : List α := (pdq (ltOf cf) l.toArray 0 l.toArray.size (Go.Lib.bitLen l.toArray.size) true true).toList
theorem srt_facts (cf : α → α → Int) (hO : SWO (ltOf cf)) (l : List α) : (srt cf l).Perm l ∧ ∀ i j, i < j → j < l.length → ltOf cf ((srt cf l).getD j default) ((srt cf l).getD i default) = false := by
 obtain ⟨⟨h1, h2, h3⟩, h4⟩ := pdq_sorts (ltOf cf) hO l.toArray 0 l.toArray.size (Go.Lib.bitLen l.toArray.size) true true (Nat.zero_le _) (Nat.le_refl _) (Or.inl rfl)
 constructor
 ·have e1 : ∀ d : Array α, (d.extract 0 d.size).toList = d.toList := fun d => by simp
  rw [e1] at h3
  have : ∀ d : Array α, d.size = l.toArray.size → d.extract 0 l.toArray.size = d := fun d h => by rw [← h]; simp
  rw [this _ h1] at h3
  exact h3
 ·intro i j hij hj
  have := h4 i j (Nat.zero_le _) hij (by simpa using hj)
  have g : ∀ t, (srt cf l).getD t default = (pdq (ltOf cf) l.toArray 0 l.toArray.size (Go.Lib.bitLen l.toArray.size) true true)[t]! := by
   intro t
   unfold srt
   rw [List.getD_eq_getElem?_getD]
   simp [Array.getElem!_eq_getD, Array.getD_eq_getD_getElem?]
  rw [g, g]; exact this
theorem srt_len (cf : α → α → Int) (hO : SWO (ltOf cf)) (l : List α) : (srt cf l).length = l.length := (srt_facts cf hO l).1.length_eq
def rowE (e : α → List Int) (l : List α) : Nat → List A := fun i => (e (l.getD i default)).map fun n => .int .i64 n
def encE (e : α → List Int) (x : α) : List Value := (e x).map fun n => .int .i64 n
end

theorem bw_grow (hns : ¬ (default : DRT).ns) {w w' : World} (h : Bw w.heap.size w w') : ∃ q os', w' = grow (w.drewN q) os' := by
 refine ⟨w'.drawn - w.drawn, w'.heap.extract w.heap.size w'.heap.size, ?_⟩
 obtain ⟨heap, tape, drawn, os, output⟩ := w
 obtain ⟨heap', tape', drawn', os', output'⟩ := w'
 obtain ⟨h1, h2, h3, h4, h5, h6⟩ := h
 simp only at h1 h2 h3 h4 h5 h6
 have h6 := h6.resolve_left hns
 subst h1; subst h2; subst h3
 have e : heap' = heap ++ heap'.extract heap.size heap'.size := by
  apply Array.ext_getElem?
  intro k
  rw [Array.getElem?_append]
  split
  ·rename_i hk; exact h5 k hk
  ·rename_i hk
   rw [Array.getElem?_extract]
   by_cases hk2 : k < heap'.size
   ·rw [if_pos (by omega)]; congr 1; omega
   ·rw [Array.getElem?_eq_none (by omega)]
    split
    ·rw [Array.getElem?_eq_none (by omega)]
    ·rfl
 simp only [grow, World.drewN, World.mk.injEq, and_true, true_and]
 exact ⟨e, by omega⟩

section
variable {P : Program} {ρ : Go.Shelf.Ren} {G : GInv} {α : Type} [Inhabited α]

theorem MCalls.sortFunc (hns : ¬ (default : DRT).ns) (L : SlLaysF0.n6 P ρ) (k : Nat) (k0 : 0 < k) (aE : ∀ w, (isAgg (ρ.t 24)).run P w = .ok true w) (zE : ∀ w, (Go.sizeOf (ρ.t 24)).run P w = .ok k w)
  (e : α → List Int) (hk : ∀ x, (e x).length = k) (cf : α → α → Int) (hO : SWO (ltOf cf)) (g : FuncId) (caps : List A) (hcap : caps.any (hasOwn 4) = false)
  (hc : ∀ x y, ACalls P G g ([.agg ((e x).map fun n => .int .i64 n), .agg ((e y).map fun n => .int .i64 n)] ++ caps) (.int .i64 (cf x y)))
  (hfn : ∃ fn cd, P.funcs[ρ.f 6]? = some fn ∧ fn.body = some cd ∧ (fn.name == "runtime.NumGoroutine") = false) (ty : TypeId) (l : List α) (hl : l.length ≤ 1000000) (hne : 0 < l.length) :
  MCalls P G (ρ.f 6) [.own 1, .fn g caps] [.ghost [.own 1, .junk, .junk], .row ty k l.length (rowE e l)] (.tup []) [.ghost [.own 1, .junk, .junk], .row ty k l.length (rowE e (srt cf l))] := by
 refine ⟨hfn, ?_⟩
 intro im w vs gs ids hG hs
 have hvl : vs.length = 2 := by have := hs.len; simpa using this
 obtain ⟨v0, v1, rfl⟩ : ∃ v0 v1, vs = [v0, v1] := by
  match vs, hvl with
  | [a, b], _ => exact ⟨a, b, rfl⟩
 have r0 : Rel ids _ w (.own 1) v0 := hs.slots 0 (by simp) (by simp)
 have r1 : Rel ids _ w (.fn g caps) v1 := hs.slots 1 (by simp) (by simp)
 have hml : ids.length = 2 := by have := hs.mlen; simpa using this
 have hB1 := hs.blks 1 (by simp) (by omega)
 simp only [List.getElem_cons_succ, List.getElem_cons_zero] at hB1
 obtain ⟨p, cap, hid, hcap1, hcap2, rfl⟩ : ∃ p cap, ids[1]? = some (.lv p) ∧ (p.n ≤ cap ∧ cap ≤ maxLen) ∧ cap * p.sz = p.k ∧ v0 = .slice (some ⟨p.blk, 0, none⟩) p.n cap := by
  rcases hs.own_at r0 (by simp) with ⟨h1, _⟩ | h
  ·rw [List.getElem?_eq_getElem (by omega)] at h1
   rw [Option.some.inj h1] at hB1
   have : l.length = 0 := hB1
   omega
  ·exact h
 have hid1 : ids[1]'(by omega) = .lv p := by rw [List.getElem?_eq_getElem (by omega)] at hid; exact Option.some.inj hid
 rw [hid1] at hB1
 obtain ⟨g1, g2, cur, g3, g4, g5, g6, g7⟩ := hB1
 obtain ⟨us, rfl, hul, hur⟩ := r1.fn_inv
 rw [g2]
 have hpf := hs.freshX p (List.mem_of_getElem? hid) p.blk (.inl rfl)
 have hmu : muOf ids p.blk := ⟨p, List.mem_of_getElem? hid, .inl rfl⟩
 have hek : ∀ x, (encE e x).length = k := fun x => by simp [encE, hk]
 have he1 : ∀ x, ∀ v ∈ encE e x, v.oneCell' = true := fun x v hv => by
  simp only [encE, List.mem_map] at hv; obtain ⟨n, _, rfl⟩ := hv; rfl
 have hcur : ∀ t, t < l.length * k → cur[t]? = some ((encE e (l.getD (t / k) default)).getD (t % k) undef) := by
  intro t ht
  obtain ⟨q1, q2, q3⟩ := divmod ht rfl rfl
  have hlt : t < cur.size := by omega
  have hrl : (rowE e l (t / k)).length = k := g6 _ q1
  have := (g7 (t / k) (t % k) q1 (by rw [hrl]; exact q2) (by rw [q3]; exact hlt)).1
  simp only [q3] at this
  have hke : t % k < (e (l.getD (t / k) default)).length := by rw [hk]; exact q2
  have e1 : (rowE e l (t / k))[t % k]'(by rw [hrl]; exact q2) = .int .i64 ((e (l.getD (t / k) default))[t % k]) := by simp only [rowE, List.getElem_map]
  rw [e1] at this
  have hv : cur[t] = .int .i64 ((e (l.getD (t / k) default))[t % k]) := by
   generalize cur[t] = vv at this
   cases this; rfl
  rw [Array.getElem?_eq_getElem hlt, hv]
  have hke2 : t % k < (encE e (l.getD (t / k) default)).length := by rw [hek]; exact q2
  rw [List.getD_eq_getElem?_getD (l := encE e (l.getD (t / k) default)), List.getElem?_eq_getElem hke2, Option.getD_some]
  simp only [encE, List.getElem_map]
 have hget : ∀ i, l.toArray[i]! = l.getD i default := fun i => by
  rw [List.getD_eq_getElem?_getD]; simp [Array.getElem!_eq_getD, Array.getD_eq_getD_getElem?]
 have hH : HoldsK (encE e) k w p.blk 0 l.toArray := by
  intro j hj
  rw [size_flatK] at hj
  have hj : j < l.length * k := by simpa using hj
  constructor
  ·rw [Nat.zero_add, cell_of_row w p.blk j cur ty (0, 0) g3, hcur j hj, id, get_flatK _ _ _ _ (by simpa using hj), hget]
   obtain ⟨q1, q2, q3⟩ := divmod hj rfl rfl
   have : j % k < (encE e (l.getD (j / k) default)).length := by rw [hek]; exact q2
   rw [List.getD_eq_getElem?_getD (l := encE e (l.getD (j / k) default)), List.getElem?_eq_getElem this, Option.getD_some, getElem!_pos (encE e (l.getD (j / k) default)) _ this]
  ·unfold World.frozen?
   simp only [g3]
   simp
 have hG0 := hG.1
 have hWold : ∀ (m : Nat) (dk : Array α) (os : Array Obj) (b : Nat), b < w.heap.size → b ≠ p.blk → (sortWorldK (encE e) k w p.blk 0 m dk os).heap[b]? = w.heap[b]? := by
  intro m dk os b hb hbp
  unfold sortWorldK
  rw [heap_grow_old _ _ (by show b < (putRowK (encE e) k (Go.Sort.ahead w m) p.blk 0 dk).heap.size; rw [size_putRowK]; exact hb)]
  show ((Go.Sort.ahead w m).heap.modify p.blk _)[b]? = _
  rw [Array.getElem?_modify, if_neg (fun h => hbp h.symm)]; rfl
 have hcmp : CmpLays P g us.toArray (encE e) k cf p.blk 0 l.toArray.size w := by
  intro m os dk hdk x y
  have hsz := size_sortWorldK_c (encE e) k w p.blk 0 m dk os
  have := (hc x y).2 (imOf ⟨w, im, muOf ids, gs⟩ ids w) (sortWorldK (encE e) k w p.blk 0 m dk os) ([.agg (encE e x).toArray, .agg (encE e y).toArray] ++ us) (fun b hb => Nat.lt_of_lt_of_le (imOf_lt hs hb) hsz) ?_ (by simp [hul]) ?_
  ·refine Calls_mono (by simpa using this) ?_
   rintro e' w' ⟨v, rfl, hv, hb⟩
   cases hv
   exact ⟨rfl, bw_grow hns hb⟩
  ·refine G.st w _ hG0 hsz (fun b hb => hWold m dk os b (Nat.lt_of_lt_of_le hb (G.lt _ hG0)) ?_)
   intro e'; have := hG.2 p.blk hmu; omega
  ·have inum : ∀ (x : α) (im' : Nat → Prop) (W : World), RelI im' W (.agg ((e x).map fun n => .int .i64 n)) (.agg (encE e x).toArray) := by
    intro x im' W
    refine .agg _ _ (by simp [encE]) (fun v hv => he1 x v hv) (fun j h h' => ?_)
    simp only [encE, List.getElem_map]; exact .int _ _
   intro j h h'
   rcases j with _ | _ | j
   ·exact inum x _ _
   ·exact inum y _ _
   ·have hj : j < caps.length := by simpa using h
    have := hur j hj (by omega)
    have hown : hasOwn 4 caps[j] = false := by
     have := List.any_eq_false.1 hcap _ (List.getElem_mem hj)
     simpa using this
    have := hasOwn_rel (ids := ids) 4 _ _ hown this
    refine (this.mono (fun _ h => h) (fun b hb => hWold m dk os b (imOf_lt hs hb) ?_))
    intro e'
    subst e'
    rcases hb with hb | ⟨_, _, hb⟩
    ·exact hs.im0new hb hpf.1
    ·exact hb p (List.mem_of_getElem? hid) (.inl rfl)
 have eg : ∀ args w, (callFunc g args).run P w = .ok (.enter g args) w := by
  intro args w
  obtain ⟨fn, cd, h1, h2, h3⟩ := (hc default default).1
  have h4 : ¬ fn.name = "runtime.NumGoroutine" := by simpa using h3
  simp [callFunc, h1, h2, h4]
 have hmain := AnyQ.slices_SortFunc_eq L k aE zE (encE e) hek he1 cf hO g us.toArray p.blk 0 cap l.toArray w eg hcmp hH hpf.2 (by simp; omega)
 refine Calls_mono (by simpa using hmain) ?_
 rintro e' w' ⟨rfl, n, os, hw'⟩
 refine ⟨.tuple #[], ids, rfl, ?_⟩
 have hd' : (pdq (ltOf cf) l.toArray 0 l.toArray.size (Go.Lib.bitLen l.toArray.size) true true).size = l.length := by
  have := srt_len cf hO l
  unfold srt at this; simpa using this
 obtain ⟨d', hdd⟩ : ∃ d', d' = pdq (ltOf cf) l.toArray 0 l.toArray.size (Go.Lib.bitLen l.toArray.size) true true := ⟨_, rfl⟩
 have hsrt : ∀ i, (srt cf l).getD i default = d'[i]! := by
  intro i
  unfold srt
  rw [← hdd, List.getD_eq_getElem?_getD]
  simp [Array.getElem!_eq_getD, Array.getD_eq_getD_getElem?]
 have hw' : w' = sortWorldK (encE e) k w p.blk 0 n d' os := by rw [hw', hdd]; simp
 rw [← hdd] at hd'
 have hsz : w.heap.size ≤ w'.heap.size := by rw [hw']; exact size_sortWorldK_c (encE e) k w p.blk 0 n d' os
 have hoth : ∀ b, b < w.heap.size → b ≠ p.blk → w'.heap[b]? = w.heap[b]? := fun b h1 h2 => by rw [hw']; exact hWold n d' os b h1 h2
 have hown1 : w'.heap[p.blk]? = some (.cells (putCells id 0 (flatK (encE e) k d') cur) ty (0, 0)) := by
  rw [hw']
  unfold sortWorldK
  rw [heap_grow_old _ _ (by show p.blk < (putRowK (encE e) k (Go.Sort.ahead w n) p.blk 0 d').heap.size; rw [size_putRowK]; exact hpf.2)]
  show ((Go.Sort.ahead w n).heap.modify p.blk _)[p.blk]? = _
  rw [Array.getElem?_modify, if_pos rfl]
  show Option.map _ (w.heap[p.blk]?) = _
  rw [g3]; rfl
 have hbl : ∀ b, b < w.heap.size → (∀ (b' : Nat) (q : Id), ids[b']? = some (.lv q) → ¬ q.has b) → w'.heap[b]? = w.heap[b]? := fun b h1 h2 => hoth b h1 (fun e => h2 1 p hid (.inl e))
 have hown : ∀ q, IdE.lv q ∈ ids → ∀ x, q.has x → x < w'.heap.size ∧ (w.heap.size ≤ x ∨ ∃ (b : Nat) (p : Id), ids[b]? = some (.lv p) ∧ p.has x) := by
  intro q hq x hx
  obtain ⟨i, hi⟩ := List.getElem?_of_mem hq
  exact ⟨Nat.lt_of_lt_of_le (hs.freshX q hq x hx).2 hsz, .inr ⟨i, q, hi, hx⟩⟩
 have hdrw : drLe w.drawn w'.drawn := .of (by rw [hw']; exact Nat.le_add_right _ _)
 obtain ⟨hi1, hi2⟩ := hs.im_stays (w' := w') (ids' := ids) hsz hbl hown
 have hs2 : Sim ⟨w, im, muOf ids, gs⟩ [.junk, .junk] [.ghost [.own 1, .junk, .junk], .row ty k l.length (rowE e (srt cf l))] ⟨[.slice (some ⟨p.blk, 0, none⟩) p.n cap, .func (.func g) #[] us.toArray].toArray, []⟩ w' ids := by
  refine hs.goOn (hdr := hdrw) (by rw [hw']; rfl) (by rw [hw']; rfl) (by rw [hw']; rfl) hsz hbl hown (fun _ h => h) hs.distinctX rfl (by simpa using hml) ?_ ?_
  ·intro i h h'
   rcases i with _ | _ | i
   ·exact .imm (.junk _)
   ·exact .imm (.junk _)
   ·simp at h
    omega
  ·intro b h h'
   rcases b with _ | _ | b
   ·have hB0 := hs.blks 0 (by simp) (by omega)
    refine hB0.mono hi1 hi2 (fun _ _ h _ => h) ?_
    intro q hq x hx
    rw [hq] at hB0
    exact hB0.elim
   ·simp only [List.getElem_cons_succ, List.getElem_cons_zero, hid1]
    refine ⟨g1, g2, _, hown1, by simp [putCells, g4], g5, fun i _ => by simp [rowE, hk], ?_⟩
    intro i j hi hj hj'
    have hjk : j < k := by simpa [rowE, hk] using hj
    have hlt : i * k + j < l.length * k := by
     have := Nat.mul_le_mul_right k (show i + 1 ≤ l.length from hi)
     rw [Nat.add_mul] at this; omega
    have hfs : (flatK (encE e) k d').size = l.length * k := by rw [size_flatK, hd']
    have hv : (putCells id 0 (flatK (encE e) k d') cur)[i * k + j] = .int .i64 ((e ((srt cf l).getD i default))[j]'(by rw [hk]; exact hjk)) := by
     simp only [putCells, Array.getElem_mapIdx, hfs]
     rw [if_pos ⟨Nat.zero_le _, by omega⟩, Nat.sub_zero, id, get_flatK _ _ _ _ (by rw [hd']; exact hlt)]
     have e1 : (i * k + j) / k = i := by rw [Nat.mul_comm, Nat.mul_add_div k0, Nat.div_eq_of_lt hjk]; simp
     have e2 : (i * k + j) % k = j := by rw [Nat.mul_comm, Nat.mul_add_mod, Nat.mod_eq_of_lt hjk]
     rw [e1, e2, ← hsrt]
     have : j < (encE e ((srt cf l).getD i default)).length := by rw [hek]; exact hjk
     rw [getElem!_pos (encE e ((srt cf l).getD i default)) j this]
     simp only [encE, List.getElem_map]
    rw [hv]
    refine ⟨?_, rfl⟩
    simp only [rowE, List.getElem_map]
    exact .int _ _
   ·simp at h
    omega
 refine ⟨rfl, rfl, ?_, hs2.mlen, hs2.blks, hs2.distinctX, hs2.freshX, hs2.frame, hs2.im0lt, hs2.gho⟩
 intro i h h'
 rcases i with _ | i
 ·exact .imm (.tup [] [] rfl (fun _ h => by simp at h))
 ·simp at h
end
end Go.Proofs.YtcomiiakkhafpaaGreat.Am
namespace Go.Proofs.YtcomiiakkhafpaaGreat.Am
variable [Inhabited DRT]
open Go.RowKit (Below)
open Go.Proofs Go.Shelf Go.Sort Go.Lib
/-! ### slices.SortFunc on a row of ours whose cells are numbers of any kind, or truths -/
def flatA : A → Prop
 | .int _ _ => True
 | .sb _ => True
 | _ => False
def fvA : A → Value
 | .int k n => .int k n
 | .sb b => .bool b
 | _ => undef
theorem fv_one {a : A} (h : flatA a) : (fvA a).oneCell' = true := by cases a <;> first | rfl | exact absurd h id
theorem rel_fv {im : Nat → Prop} {w : World} {a : A} (h : flatA a) : RelI im w a (fvA a) := by
 cases a <;> first | exact .int _ _ | exact .sb _ | exact absurd h id
theorem fv_rel {im : Nat → Prop} {w : World} {a : A} {v : Value} (h : flatA a) (r : RelI im w a v) : v = fvA a := by
 cases r <;> first | rfl | exact absurd h id
section
variable {P : Program} {ρ : Go.Shelf.Ren} {G : GInv} {α : Type} [Inhabited α]
def rowF (e : α → List A) (l : List α) : Nat → List A := fun i => e (l.getD i default)
def encF (e : α → List A) (x : α) : List Value := (e x).map fvA
theorem MCalls.sortFuncF (hns : ¬ (default : DRT).ns) (L : SlLaysF0.n6 P ρ) (k : Nat) (k0 : 0 < k) (aE : ∀ w, (isAgg (ρ.t 24)).run P w = .ok true w) (zE : ∀ w, (Go.sizeOf (ρ.t 24)).run P w = .ok k w)
  (e : α → List A) (hfl : ∀ x, ∀ a ∈ e x, flatA a) (hk : ∀ x, (e x).length = k) (cf : α → α → Int) (hO : SWO (ltOf cf)) (g : FuncId) (caps : List A) (hcap : caps.any (hasOwn 4) = false)
  (hc : ∀ x y, ACalls P G g ([.agg (e x), .agg (e y)] ++ caps) (.int .i64 (cf x y)))
  (hfn : ∃ fn cd, P.funcs[ρ.f 6]? = some fn ∧ fn.body = some cd ∧ (fn.name == "runtime.NumGoroutine") = false) (ty : TypeId) (l : List α) (hl : l.length ≤ 1000000) (hne : 0 < l.length) :
  MCalls P G (ρ.f 6) [.own 1, .fn g caps] [.ghost [.own 1, .junk, .junk], .row ty k l.length (rowF e l)] (.tup []) [.ghost [.own 1, .junk, .junk], .row ty k l.length (rowF e (srt cf l))] := by
 refine ⟨hfn, ?_⟩
 intro im w vs gs ids hG hs
 have hvl : vs.length = 2 := by have := hs.len; simpa using this
 obtain ⟨v0, v1, rfl⟩ : ∃ v0 v1, vs = [v0, v1] := by
  match vs, hvl with
  | [a, b], _ => exact ⟨a, b, rfl⟩
 have r0 : Rel ids _ w (.own 1) v0 := hs.slots 0 (by simp) (by simp)
 have r1 : Rel ids _ w (.fn g caps) v1 := hs.slots 1 (by simp) (by simp)
 have hml : ids.length = 2 := by have := hs.mlen; simpa using this
 have hB1 := hs.blks 1 (by simp) (by omega)
 simp only [List.getElem_cons_succ, List.getElem_cons_zero] at hB1
 obtain ⟨p, cap, hid, hcap1, hcap2, rfl⟩ : ∃ p cap, ids[1]? = some (.lv p) ∧ (p.n ≤ cap ∧ cap ≤ maxLen) ∧ cap * p.sz = p.k ∧ v0 = .slice (some ⟨p.blk, 0, none⟩) p.n cap := by
  rcases hs.own_at r0 (by simp) with ⟨h1, _⟩ | h
  ·rw [List.getElem?_eq_getElem (by omega)] at h1
   rw [Option.some.inj h1] at hB1
   have : l.length = 0 := hB1
   omega
  ·exact h
 have hid1 : ids[1]'(by omega) = .lv p := by rw [List.getElem?_eq_getElem (by omega)] at hid; exact Option.some.inj hid
 rw [hid1] at hB1
 obtain ⟨g1, g2, cur, g3, g4, g5, g6, g7⟩ := hB1
 obtain ⟨us, rfl, hul, hur⟩ := r1.fn_inv
 rw [g2]
 have hpf := hs.freshX p (List.mem_of_getElem? hid) p.blk (.inl rfl)
 have hmu : muOf ids p.blk := ⟨p, List.mem_of_getElem? hid, .inl rfl⟩
 have hek : ∀ x, (encF e x).length = k := fun x => by simp [encF, hk]
 have he1 : ∀ x, ∀ v ∈ encF e x, v.oneCell' = true := fun x v hv => by
  simp only [encF, List.mem_map] at hv; obtain ⟨n, hn, rfl⟩ := hv; exact fv_one (hfl x n hn)
 have hcur : ∀ t, t < l.length * k → cur[t]? = some ((encF e (l.getD (t / k) default)).getD (t % k) undef) := by
  intro t ht
  obtain ⟨q1, q2, q3⟩ := divmod ht rfl rfl
  have hlt : t < cur.size := by omega
  have hrl : (rowF e l (t / k)).length = k := g6 _ q1
  have := (g7 (t / k) (t % k) q1 (by rw [hrl]; exact q2) (by rw [q3]; exact hlt)).1
  simp only [q3] at this
  have hke : t % k < (e (l.getD (t / k) default)).length := by rw [hk]; exact q2
  have e1 : (rowF e l (t / k))[t % k]'(by rw [hrl]; exact q2) = (e (l.getD (t / k) default))[t % k] := rfl
  rw [e1] at this
  have hv : cur[t] = fvA ((e (l.getD (t / k) default))[t % k]) := fv_rel (hfl _ _ (List.getElem_mem hke)) this
  rw [Array.getElem?_eq_getElem hlt, hv]
  have hke2 : t % k < (encF e (l.getD (t / k) default)).length := by rw [hek]; exact q2
  rw [List.getD_eq_getElem?_getD (l := encF e (l.getD (t / k) default)), List.getElem?_eq_getElem hke2, Option.getD_some]
  simp only [encF, List.getElem_map]
 have hget : ∀ i, l.toArray[i]! = l.getD i default := fun i => by
  rw [List.getD_eq_getElem?_getD]; simp [Array.getElem!_eq_getD, Array.getD_eq_getD_getElem?]
 have hH : HoldsK (encF e) k w p.blk 0 l.toArray := by
  intro j hj
  rw [size_flatK] at hj
  have hj : j < l.length * k := by simpa using hj
  constructor
  ·rw [Nat.zero_add, cell_of_row w p.blk j cur ty (0, 0) g3, hcur j hj, id, get_flatK _ _ _ _ (by simpa using hj), hget]
   obtain ⟨q1, q2, q3⟩ := divmod hj rfl rfl
   have : j % k < (encF e (l.getD (j / k) default)).length := by rw [hek]; exact q2
   rw [List.getD_eq_getElem?_getD (l := encF e (l.getD (j / k) default)), List.getElem?_eq_getElem this, Option.getD_some, getElem!_pos (encF e (l.getD (j / k) default)) _ this]
  ·unfold World.frozen?
   simp only [g3]
   simp
 have hG0 := hG.1
 have hWold : ∀ (m : Nat) (dk : Array α) (os : Array Obj) (b : Nat), b < w.heap.size → b ≠ p.blk → (sortWorldK (encF e) k w p.blk 0 m dk os).heap[b]? = w.heap[b]? := by
  intro m dk os b hb hbp
  unfold sortWorldK
  rw [heap_grow_old _ _ (by show b < (putRowK (encF e) k (Go.Sort.ahead w m) p.blk 0 dk).heap.size; rw [size_putRowK]; exact hb)]
  show ((Go.Sort.ahead w m).heap.modify p.blk _)[b]? = _
  rw [Array.getElem?_modify, if_neg (fun h => hbp h.symm)]; rfl
 have hcmp : CmpLays P g us.toArray (encF e) k cf p.blk 0 l.toArray.size w := by
  intro m os dk hdk x y
  have hsz := size_sortWorldK_c (encF e) k w p.blk 0 m dk os
  have := (hc x y).2 (imOf ⟨w, im, muOf ids, gs⟩ ids w) (sortWorldK (encF e) k w p.blk 0 m dk os) ([.agg (encF e x).toArray, .agg (encF e y).toArray] ++ us) (fun b hb => Nat.lt_of_lt_of_le (imOf_lt hs hb) hsz) ?_ (by simp [hul]) ?_
  ·refine Calls_mono (by simpa using this) ?_
   rintro e' w' ⟨v, rfl, hv, hb⟩
   cases hv
   exact ⟨rfl, bw_grow hns hb⟩
  ·refine G.st w _ hG0 hsz (fun b hb => hWold m dk os b (Nat.lt_of_lt_of_le hb (G.lt _ hG0)) ?_)
   intro e'; have := hG.2 p.blk hmu; omega
  ·have inum : ∀ (x : α) (im' : Nat → Prop) (W : World), RelI im' W (.agg (e x)) (.agg (encF e x).toArray) := by
    intro x im' W
    refine .agg _ _ (by simp [encF]) (fun v hv => he1 x v hv) (fun j h h' => ?_)
    simp only [encF, List.getElem_map]; exact rel_fv (hfl x _ (List.getElem_mem _))
   intro j h h'
   rcases j with _ | _ | j
   ·exact inum x _ _
   ·exact inum y _ _
   ·have hj : j < caps.length := by simpa using h
    have := hur j hj (by omega)
    have hown : hasOwn 4 caps[j] = false := by
     have := List.any_eq_false.1 hcap _ (List.getElem_mem hj)
     simpa using this
    have := hasOwn_rel (ids := ids) 4 _ _ hown this
    refine (this.mono (fun _ h => h) (fun b hb => hWold m dk os b (imOf_lt hs hb) ?_))
    intro e'
    subst e'
    rcases hb with hb | ⟨_, _, hb⟩
    ·exact hs.im0new hb hpf.1
    ·exact hb p (List.mem_of_getElem? hid) (.inl rfl)
 have eg : ∀ args w, (callFunc g args).run P w = .ok (.enter g args) w := by
  intro args w
  obtain ⟨fn, cd, h1, h2, h3⟩ := (hc default default).1
  have h4 : ¬ fn.name = "runtime.NumGoroutine" := by simpa using h3
  simp [callFunc, h1, h2, h4]
 have hmain := AnyQ.slices_SortFunc_eq L k aE zE (encF e) hek he1 cf hO g us.toArray p.blk 0 cap l.toArray w eg hcmp hH hpf.2 (by simp; omega)
 refine Calls_mono (by simpa using hmain) ?_
 rintro e' w' ⟨rfl, n, os, hw'⟩
 refine ⟨.tuple #[], ids, rfl, ?_⟩
 have hd' : (pdq (ltOf cf) l.toArray 0 l.toArray.size (Go.Lib.bitLen l.toArray.size) true true).size = l.length := by
  have := srt_len cf hO l
  unfold srt at this; simpa using this
 obtain ⟨d', hdd⟩ : ∃ d', d' = pdq (ltOf cf) l.toArray 0 l.toArray.size (Go.Lib.bitLen l.toArray.size) true true := ⟨_, rfl⟩
 have hsrt : ∀ i, (srt cf l).getD i default = d'[i]! := by
  intro i
  unfold srt
  rw [← hdd, List.getD_eq_getElem?_getD]
  simp [Array.getElem!_eq_getD, Array.getD_eq_getD_getElem?]
 have hw' : w' = sortWorldK (encF e) k w p.blk 0 n d' os := by rw [hw', hdd]; simp
 rw [← hdd] at hd'
 have hsz : w.heap.size ≤ w'.heap.size := by rw [hw']; exact size_sortWorldK_c (encF e) k w p.blk 0 n d' os
 have hoth : ∀ b, b < w.heap.size → b ≠ p.blk → w'.heap[b]? = w.heap[b]? := fun b h1 h2 => by rw [hw']; exact hWold n d' os b h1 h2
 have hown1 : w'.heap[p.blk]? = some (.cells (putCells id 0 (flatK (encF e) k d') cur) ty (0, 0)) := by
  rw [hw']
  unfold sortWorldK
  rw [heap_grow_old _ _ (by show p.blk < (putRowK (encF e) k (Go.Sort.ahead w n) p.blk 0 d').heap.size; rw [size_putRowK]; exact hpf.2)]
  show ((Go.Sort.ahead w n).heap.modify p.blk _)[p.blk]? = _
  rw [Array.getElem?_modify, if_pos rfl]
  show Option.map _ (w.heap[p.blk]?) = _
  rw [g3]; rfl
 have hbl : ∀ b, b < w.heap.size → (∀ (b' : Nat) (q : Id), ids[b']? = some (.lv q) → ¬ q.has b) → w'.heap[b]? = w.heap[b]? := fun b h1 h2 => hoth b h1 (fun e => h2 1 p hid (.inl e))
 have hown : ∀ q, IdE.lv q ∈ ids → ∀ x, q.has x → x < w'.heap.size ∧ (w.heap.size ≤ x ∨ ∃ (b : Nat) (p : Id), ids[b]? = some (.lv p) ∧ p.has x) := by
  intro q hq x hx
  obtain ⟨i, hi⟩ := List.getElem?_of_mem hq
  exact ⟨Nat.lt_of_lt_of_le (hs.freshX q hq x hx).2 hsz, .inr ⟨i, q, hi, hx⟩⟩
 have hdrw : drLe w.drawn w'.drawn := .of (by rw [hw']; exact Nat.le_add_right _ _)
 obtain ⟨hi1, hi2⟩ := hs.im_stays (w' := w') (ids' := ids) hsz hbl hown
 have hs2 : Sim ⟨w, im, muOf ids, gs⟩ [.junk, .junk] [.ghost [.own 1, .junk, .junk], .row ty k l.length (rowF e (srt cf l))] ⟨[.slice (some ⟨p.blk, 0, none⟩) p.n cap, .func (.func g) #[] us.toArray].toArray, []⟩ w' ids := by
  refine hs.goOn (hdr := hdrw) (by rw [hw']; rfl) (by rw [hw']; rfl) (by rw [hw']; rfl) hsz hbl hown (fun _ h => h) hs.distinctX rfl (by simpa using hml) ?_ ?_
  ·intro i h h'
   rcases i with _ | _ | i
   ·exact .imm (.junk _)
   ·exact .imm (.junk _)
   ·simp at h
    omega
  ·intro b h h'
   rcases b with _ | _ | b
   ·have hB0 := hs.blks 0 (by simp) (by omega)
    refine hB0.mono hi1 hi2 (fun _ _ h _ => h) ?_
    intro q hq x hx
    rw [hq] at hB0
    exact hB0.elim
   ·simp only [List.getElem_cons_succ, List.getElem_cons_zero, hid1]
    refine ⟨g1, g2, _, hown1, by simp [putCells, g4], g5, fun i _ => by simp [rowF, hk], ?_⟩
    intro i j hi hj hj'
    have hjk : j < k := by simpa [rowF, hk] using hj
    have hlt : i * k + j < l.length * k := by
     have := Nat.mul_le_mul_right k (show i + 1 ≤ l.length from hi)
     rw [Nat.add_mul] at this; omega
    have hfs : (flatK (encF e) k d').size = l.length * k := by rw [size_flatK, hd']
    have hv : (putCells id 0 (flatK (encF e) k d') cur)[i * k + j] = fvA ((e ((srt cf l).getD i default))[j]'(by rw [hk]; exact hjk)) := by
     simp only [putCells, Array.getElem_mapIdx, hfs]
     rw [if_pos ⟨Nat.zero_le _, by omega⟩, Nat.sub_zero, id, get_flatK _ _ _ _ (by rw [hd']; exact hlt)]
     have e1 : (i * k + j) / k = i := by rw [Nat.mul_comm, Nat.mul_add_div k0, Nat.div_eq_of_lt hjk]; simp
     have e2 : (i * k + j) % k = j := by rw [Nat.mul_comm, Nat.mul_add_mod, Nat.mod_eq_of_lt hjk]
     rw [e1, e2, ← hsrt]
     have : j < (encF e ((srt cf l).getD i default)).length := by rw [hek]; exact hjk
     rw [getElem!_pos (encF e ((srt cf l).getD i default)) j this]
     simp only [encF, List.getElem_map]
    rw [hv]
    refine ⟨?_, fv_one (hfl _ _ (List.getElem_mem _))⟩
    exact rel_fv (hfl _ _ (List.getElem_mem _))
   ·simp at h
    omega
 refine ⟨rfl, rfl, ?_, hs2.mlen, hs2.blks, hs2.distinctX, hs2.freshX, hs2.frame, hs2.im0lt, hs2.gho⟩
 intro i h h'
 rcases i with _ | i
 ·exact .imm (.tup [] [] rfl (fun _ h => by simp at h))
 ·simp at h
end
end Go.Proofs.YtcomiiakkhafpaaGreat.Am
set_option linter.unusedSimpArgs false
set_option linter.unusedVariables false
namespace Go.Proofs.YtcomiiakkhafpaaGreat.Am
open Go.Shelf Go.RowKit Go.Lib Go.Sort Go.Proofs
/-! ### slices.Compact on rows of k cells, by the library's own text -/
section
variable {P : Program}
theorem run_clear_k (w : World) (t e ty : TypeId) (z : Value) (ht : P.underlying t = some (.slice e)) (hv : ∀ w, (zeroValue e).run P w = .ok z w) (b o n c : Nat) (hn : 0 < n) (zs : List Value) (hz : (Builtin.zeroCells z.cells n).toList = zs) (h1 : ∀ v ∈ zs, v.oneCell' = true)
  (hc : ∀ j, j < zs.length → (w.cell? ⟨b, o + j, none⟩).isSome = true) (hf : ∀ j, j < zs.length → w.frozen? ⟨b, o + j, none⟩ = false) :
  (Builtin.clear_ #[t] ty #[.slice (some ⟨b, o, none⟩) n c]).run P w = .ok (.tuple #[]) (w.setCells b o zs) := by
 have hst := run_storeCells_cells (P := P) b o zs 0 w (by simpa using hc) (by simpa using hf) h1
 simp only [Nat.add_zero] at hst
 obtain ⟨m, rfl⟩ : ∃ m, n = m + 1 := ⟨n - 1, by omega⟩
 simp [Builtin.clear_, run_underlying ht, hv, hz, hst]
end
structure CompL (P : Program) (ρ : Go.Shelf.Ren) : Prop where
 mixed : P.follows .mixedOrders = true
 f43 : Bears P (ρ.f 43) (SlBodyN.n43 ρ)
 t0 : P.underlying (ρ.t 0) = some (TypeDesc.tuple #[])
 a0 : ∀ w, (isAgg (ρ.t 0)).run P w = .ok false w
 z0 : ∀ w, (Go.sizeOf (ρ.t 0)).run P w = .ok 1 w
 v0 : ∀ w, (zeroValue (ρ.t 0)).run P w = .ok (Value.tuple #[]) w
 t3 : P.underlying (ρ.t 3) = some (TypeDesc.int IntKind.i64)
 a3 : ∀ w, (isAgg (ρ.t 3)).run P w = .ok false w
 z3 : ∀ w, (Go.sizeOf (ρ.t 3)).run P w = .ok 1 w
 v3 : ∀ w, (zeroValue (ρ.t 3)).run P w = .ok (Value.int IntKind.i64 0) w
 t4 : P.underlying (ρ.t 4) = some (TypeDesc.bool)
 a4 : ∀ w, (isAgg (ρ.t 4)).run P w = .ok false w
 z4 : ∀ w, (Go.sizeOf (ρ.t 4)).run P w = .ok 1 w
 v4 : ∀ w, (zeroValue (ρ.t 4)).run P w = .ok (Value.bool false) w
 t22 : P.underlying (ρ.t 22) = some (TypeDesc.slice (ρ.t 23))
 a22 : ∀ w, (isAgg (ρ.t 22)).run P w = .ok false w
 z22 : ∀ w, (Go.sizeOf (ρ.t 22)).run P w = .ok 1 w
 v22 : ∀ w, (zeroValue (ρ.t 22)).run P w = .ok (Value.slice none 0 0) w
section
variable {α : Type} [Inhabited α]
theorem setMany_app : ∀ (u v : List Value) (F : Array Value) (s : Nat), Go.Sort.setMany F s (u ++ v) = Go.Sort.setMany (Go.Sort.setMany F s u) (s + u.length) v
 | [], v, F, s => rfl
 | x :: u, v, F, s => by
  rw [List.cons_append, Go.Sort.setMany, Go.Sort.setMany, setMany_app u v]
  congr 1
  simp; omega
theorem setMany_one (enc : α → List Value) (k : Nat) (hk : ∀ x, (enc x).length = k) (d : Array α) (i : Nat) (x : α) (hi : i < d.size) : Go.Sort.setMany (flatK enc k d) (i * k) (enc x) = flatK enc k (d.setIfInBounds i x) := by
 refine ext_get! (by simp) fun t ht => ?_
 have ht' : t < d.size * k := by simpa using ht
 have k0 : 0 < k := by
  rcases Nat.eq_zero_or_pos k with h | h
  ·subst h; simp at ht'
  ·exact h
 rw [get_setMany _ _ _ t (by simpa using ht'), get_flatK _ _ _ t ht', get_flatK _ _ _ t (by simpa using ht'), hk]
 by_cases a : t / k = i
 ·rw [if_pos ((blk_iff k i t k0).2 a)]
  have e : (d.setIfInBounds i x)[t / k]! = x := by rw [a]; simp [hi]
  rw [e, show t - i * k = t % k by subst a; rw [Nat.mod_eq_sub_div_mul]]
 ·rw [if_neg (fun h => a ((blk_iff k i t k0).1 h))]
  have e : (d.setIfInBounds i x)[t / k]! = d[t / k]! := by
   simp only [Array.getElem!_eq_getD, Array.getD_eq_getD_getElem?, Array.getElem?_setIfInBounds]
   rw [if_neg (fun h => a h.symm)]
  rw [e]
theorem setMany_lay (enc : α → List Value) (k : Nat) (hk : ∀ x, (enc x).length = k) : ∀ (xs : List α) (d : Array α) (i : Nat), i + xs.length ≤ d.size → Go.Sort.setMany (flatK enc k d) (i * k) (xs.flatMap enc) = flatK enc k (lay d i xs)
 | [], d, i, _ => rfl
 | x :: xs, d, i, h => by
  have h : i + (xs.length + 1) ≤ d.size := h
  rw [List.flatMap_cons, setMany_app, setMany_one enc k hk d i x (by omega), hk, show i * k + k = (i + 1) * k by rw [Nat.add_mul, Nat.one_mul], setMany_lay enc k hk xs _ (i + 1) (by simp; omega), lay]
theorem flat_len (enc : α → List Value) (k : Nat) (hk : ∀ x, (enc x).length = k) : ∀ xs : List α, (xs.flatMap enc).length = xs.length * k
 | [] => by simp
 | x :: xs => by rw [List.flatMap_cons, List.length_append, hk, flat_len enc k hk xs, List.length_cons, Nat.add_mul]; omega
variable {P : Program} {ρ : Go.Shelf.Ren} [DecidableEq α]
set_option maxHeartbeats 8000000 in
set_option maxRecDepth 1000000 in
theorem compact_K (L : CompL P ρ) (k : Nat) (k0 : 0 < k) (aE : ∀ w, (isAgg (ρ.t 23)).run P w = .ok true w) (zE : ∀ w, (Go.sizeOf (ρ.t 23)).run P w = .ok k w) (enc : α → List Value) (hk : ∀ x, (enc x).length = k) (h1 : ∀ x, ∀ v ∈ enc x, v.oneCell' = true)
  (heq' : ∀ (x y : α) (w : World), Sem.run P (binOp .eql (ρ.t 23) (.agg (enc x).toArray) (.agg (enc y).toArray)) w = .ok (.bool (decide (x = y))) w)
  (hne' : ∀ (x y : α) (w : World), Sem.run P (binOp .neq (ρ.t 23) (.agg (enc x).toArray) (.agg (enc y).toArray)) w = .ok (.bool (!decide (x = y))) w)
  (hgd' : ∀ (op : BinOp) (a b : Operand) (x y : α) (w : World), Sem.run P (eqGuard op (ρ.t 23) a b (.agg (enc x).toArray) (.agg (enc y).toArray)) w = .ok () w)
  (zr : α) (zv : Value) (v23 : ∀ w, (zeroValue (ρ.t 23)).run P w = .ok zv w) (hz : ∀ n, (Builtin.zeroCells zv.cells n).toList = (List.replicate n zr).flatMap enc)
  (blk off cap : Nat) (d : Array α) (w : World) (hH : HoldsK enc k w blk off d) (hsz : d.size ≤ 4611686018427387904) (hcap : d.size ≤ cap) :
  Calls P (ρ.f 43) #[.slice (some ⟨blk, off, none⟩) d.size cap] w fun e w' => e = .returned (.slice (some ⟨blk, off, none⟩) (compactUpTo d d.size).length cap) ∧ ∃ q, w' = putRowK enc k (Sort.ahead w q) blk off (compactUpTo d d.size ++ List.replicate (d.size - (compactUpTo d d.size).length) zr).toArray := by
 have mixed := L.mixed; have t0 := L.t0; have a0 := L.a0; have z0 := L.z0; have v0 := L.v0; have t3 := L.t3; have a3 := L.a3; have z3 := L.z3; have v3 := L.v3; have t4 := L.t4; have a4 := L.a4; have z4 := L.z4; have v4 := L.v4; have t22 := L.t22; have a22 := L.a22; have z22 := L.z22; have v22 := L.v22
 have HKK : Hid (∀ x, (enc x).length = k) := hk
 have H11 : Hid (∀ x, ∀ v ∈ enc x, v.oneCell' = true) := h1
 have HZ : Hid (∀ n, (Builtin.zeroCells zv.cells n).toList = (List.replicate n zr).flatMap enc) := hz
 have same : ∀ q, (∀ j, j < d.size → keeps d j = true) → (compactUpTo d d.size).length = d.size ∧ w.drewN q = putRowK enc k (Sort.ahead w q) blk off (compactUpTo d d.size ++ List.replicate (d.size - (compactUpTo d d.size).length) zr).toArray := by
  intro q hall
  have e : compactUpTo d d.size = d.toList := by rw [compactUpTo_all d _ hall, range_map_get]
  rw [e]
  refine ⟨by simp, ?_⟩
  simp only [Array.length_toList, Nat.sub_self, List.replicate_zero, List.append_nil, Array.toArray_toList]
  exact (putRowK_self enc k (Sort.ahead w q) blk off d (holdsK_ahead enc k w q blk off d hH)).symm
 have HS : Aside (∀ q, (∀ j, j < d.size → keeps d j = true) → (compactUpTo d d.size).length = d.size ∧ w.drewN q = putRowK enc k (Sort.ahead w q) blk off (compactUpTo d d.size ++ List.replicate (d.size - (compactUpTo d d.size).length) zr).toArray) := same
 clear same hk h1 hz
 have bnd : Hid (∀ x n, x < n → x * k + k ≤ n * k) := fun x n hx => by
  have := Nat.mul_le_mul_right k (show x + 1 ≤ n from hx); rwa [Nat.add_mul, Nat.one_mul] at this
 by_cases h2 : d.size < 2
 ·have HH : Aside (HoldsK enc k w blk off d) := hH
  clear hH
  obtain ⟨_, _, FG⟩ := L.f43
  go_enter FG, SlBodyN.n43_ntmps ρ
  go_wp2
  go_ret
  obtain ⟨e1, e2⟩ := HS.out 0 (fun j hj => keeps_lt_one d j (by omega))
  exact ⟨by rw [e1]; rfl, 0, e2⟩
 ·obtain ⟨_, _, FG⟩ := L.f43
  go_enter FG, SlBodyN.n43_ntmps ρ
  have HH : Aside (HoldsK enc k w blk off d) := hH
  clear hH
  go_wp2
  go_loopg [3] d.size (fun g s3 wr => ∃ kk q : Nat, 1 ≤ kk ∧ kk ≤ d.size ∧ d.size - kk ≤ g ∧ s3 = .int .i64 kk ∧ wr = w.drewN q ∧ Aside (∀ j, j < kk → keeps d j = true))
  case atStart => exact ⟨1, 0, Nat.le_refl _, by omega, by omega, rfl, rfl, keeps_lt_one d⟩
  case round =>
   obtain ⟨kk, q, hk1, hkd, hg, rfl, rfl, A⟩ := hrel
   by_cases hlt : kk < d.size
   ·have g1 : ∀ m, Sem.run P (loadCellsFrom ⟨blk, off + kk * k, none⟩ 0 k #[]) ((w.drewN q).drewN m) = .ok (enc d[kk]!).toArray ((w.drewN q).drewN m) := fun m => run_loadCellsFrom_list P _ _ _ k (HKK.out _) (fun c v hv => by rw [World.cell?_drewN, World.cell?_drewN]; exact HoldsK.cells HH.out HKK.out hlt c v hv)
    have g2 : ∀ m, Sem.run P (loadCellsFrom ⟨blk, off + (kk - 1) * k, none⟩ 0 k #[]) ((w.drewN q).drewN m) = .ok (enc d[kk - 1]!).toArray ((w.drewN q).drewN m) := fun m => run_loadCellsFrom_list P _ _ _ k (HKK.out _) (fun c v hv => by rw [World.cell?_drewN, World.cell?_drewN]; exact HoldsK.cells HH.out HKK.out (by omega) c v hv)
    generalize hx : d[kk]! = x at g1
    generalize hy : d[kk - 1]! = y at g2
    generalize hwq : w.drewN q = wq at g1 g2 ⊢
    have B : Aside (d[kk]! = x ∧ d[kk - 1]! = y) := ⟨hx, hy⟩
    have BQ : Aside (w.drewN q = wq) := hwq
    clear hx hy hwq
    have hw1 : IntKind.i64.wrap ((kk : Int) - 1) = ((kk - 1 : Nat) : Int) := by rw [IntKind.wrap_i64]; omega
    have hb1 : kk - 1 < d.size := by omega
    by_cases hdup : x = y
    ·subst hdup
     go_wp2_with fail
     go_quiet_o (fail)
     go_wp2
     clear g1 g2 hw1 hb1
     go_loopg [3, 5] d.size (fun g s3 s5 wr => ∃ (jj k2 q2 : Nat) (dk : Array α), s3 = .int .i64 jj ∧ s5 = .int .i64 k2 ∧ 1 ≤ k2 ∧ kk + k2 ≤ d.size ∧ d.size - (kk + k2) ≤ g ∧ Aside (wr = putRowK enc k (Sort.ahead w q2) blk off dk) ∧ Aside (CompInv d (kk + k2) jj dk))
     case atStart => exact ⟨kk, 1, q + nq, d, rfl, rfl, Nat.le_refl _, by omega, by omega, (show Aside (wq.drewN nq = putRowK enc k (Sort.ahead w (q + nq)) blk off d) from (by rw [← BQ.out, World.drewN_drewN]; exact (putRowK_self enc k (Sort.ahead w (q + nq)) blk off d (holdsK_ahead enc k w (q + nq) blk off d HH.out)).symm)), (show Aside _ from CompInv.start A.out (keeps_neg (by omega) (by rw [B.out.1, B.out.2])))⟩
     case round =>
      obtain ⟨jj, k2, q2, dk, rfl, rfl, h21, hle, hg2, W2, I2⟩ := hrel
      have hkk := I2.out.lt
      have hds := I2.out.size
      have hHk : Aside (HoldsK enc k wr blk off dk) := (show HoldsK enc k wr blk off dk by rw [W2.out]; exact holdsK_putRowK enc k _ blk off d dk (holdsK_ahead enc k w q2 blk off d HH.out) hds)
      by_cases hlt2 : kk + k2 < d.size
      ·have e1 : off + kk * k + k2 * k = off + (kk + k2) * k := by rw [Nat.add_mul]; omega
       have e2 : off + kk * k + (k2 - 1) * k = off + (kk + k2 - 1) * k := by rw [show kk + k2 - 1 = kk + (k2 - 1) by omega, Nat.add_mul]; omega
       have e3 : d[kk + k2]! = dk[kk + k2]! := (I2.out.high (kk + k2) (by omega)).symm
       have e4 : d[kk + k2 - 1]! = dk[kk + k2 - 1]! := (I2.out.high (kk + k2 - 1) (by omega)).symm
       have g1 : ∀ m, Sem.run P (loadCellsFrom ⟨blk, off + kk * k + k2 * k, none⟩ 0 k #[]) (wr.drewN m) = .ok (enc d[kk + k2]!).toArray (wr.drewN m) := fun m => run_loadCellsFrom_list P _ _ _ k (HKK.out _) (fun c v hv => by
        rw [e3] at hv
        rw [World.cell?_drewN, e1]
        exact HoldsK.cells hHk.out HKK.out (by omega) c v hv)
       have g2 : ∀ m, Sem.run P (loadCellsFrom ⟨blk, off + kk * k + (k2 - 1) * k, none⟩ 0 k #[]) (wr.drewN m) = .ok (enc d[kk + k2 - 1]!).toArray (wr.drewN m) := fun m => run_loadCellsFrom_list P _ _ _ k (HKK.out _) (fun c v hv => by
        rw [e4] at hv
        rw [World.cell?_drewN, e2]
        exact HoldsK.cells hHk.out HKK.out (by omega) c v hv)
       clear e1 e2 e3 e4
       generalize hu : d[kk + k2]! = u at g1
       generalize hv : d[kk + k2 - 1]! = v at g2
       have C : Aside (d[kk + k2]! = u ∧ d[kk + k2 - 1]! = v) := ⟨hu, hv⟩
       clear hu hv
       have hw1 : IntKind.i64.wrap ((k2 : Int) - 1) = ((k2 - 1 : Nat) : Int) := by rw [IntKind.wrap_i64]; omega
       have hb1 : k2 - 1 < d.size - kk := by omega
       have hb2 : k2 < d.size - kk := by omega
       by_cases huv : u = v
       ·subst huv
        go_wp2_with fail
        go_quiet_o (fail)
        go_wp2
        go_roundg (d.size - (kk + (k2 + 1)))
        case measure => omega
        case rel => exact ⟨jj, k2 + 1, q2 + nq, dk, rfl, by go_num, by omega, by omega, Nat.le_refl _, (show Aside (wr.drewN nq = putRowK enc k (Sort.ahead w (q2 + nq)) blk off dk) from (by rw [W2.out, putRowK_drewN]; exact rfl)), (show Aside _ from I2.out.skip (keeps_neg (by omega) (by rw [C.out.1, C.out.2])))⟩
       ·have st : ∀ m, Sem.run P (storeCells ⟨blk, off + jj * k, none⟩ (enc u) 0) (wr.drewN m) = .ok () ((wr.drewN m).setCells blk (off + jj * k) (enc u)) := fun m =>
         stores_of_holds P (W := wr.drewN m) (F := flatK enc k dk) (by
          have : HoldsK enc k (wr.drewN m) blk off dk := by rw [W2.out, putRowK_drewN]; exact holdsK_putRowK enc k _ blk off d dk (holdsK_ahead enc k w _ blk off d HH.out) hds
          exact this) (jj * k) _ (by rw [HKK.out, size_flatK]; exact bnd.out jj dk.size (by omega)) (H11.out u)
        have hle2 : (enc u).length = k := HKK.out u
        have hjj : jj < d.size := by omega
        go_wp2_with fail
        go_quiet_o (fail)
        go_wp2
        go_roundg (d.size - (kk + (k2 + 1)))
        case measure => omega
        case rel => exact ⟨jj + 1, k2 + 1, q2 + nq, dk.setIfInBounds jj u, by go_num, by go_num, by omega, by omega, Nat.le_refl _, (show Aside ((wr.drewN nq).setCells blk (off + jj * k) (enc u) = putRowK enc k (Sort.ahead w (q2 + nq)) blk off (dk.setIfInBounds jj u)) from (by
         rw [W2.out, putRowK_drewN]
         unfold putRowK
         rw [setCells_putRow _ _ _ _ _ _ (by rw [HKK.out, size_flatK]; exact bnd.out jj dk.size (by omega)), setMany_one enc k HKK.out dk jj u (by omega)]; exact rfl)), (show Aside _ from (by have := I2.out.keep hlt2 (keeps_pos (by rw [C.out.1, C.out.2]; exact huv)); rwa [C.out.1] at this))⟩
      ·have hend : kk + k2 = d.size := by omega
       have hcl : ∀ ty, (Builtin.clear_ #[ρ.t 22] ty #[.slice (some ⟨blk, off + jj * k, none⟩) (d.size - jj) (cap - jj)]).run P wr = .ok (.tuple #[]) (wr.setCells blk (off + jj * k) ((List.replicate (d.size - jj) zr).flatMap enc)) := fun ty =>
        run_clear_k wr _ _ ty _ t22 v23 blk (off + jj * k) _ _ (by omega) _ (HZ.out _) (fun v hv => by
         obtain ⟨x, _, hx⟩ := List.mem_flatMap.1 hv
         exact H11.out x v hx)
         (fun j hj => by
          rw [flat_len enc k HKK.out, List.length_replicate] at hj
          have := hHk.out (jj * k + j) (by rw [size_flatK, hds]; have := Nat.mul_le_mul_right k (show jj ≤ d.size by omega); rw [Nat.sub_mul] at hj; omega)
          rw [Nat.add_assoc, this.1]; rfl)
         (fun j hj => by
          rw [flat_len enc k HKK.out, List.length_replicate] at hj
          have := hHk.out (jj * k + j) (by rw [size_flatK, hds]; have := Nat.mul_le_mul_right k (show jj ≤ d.size by omega); rw [Nat.sub_mul] at hj; omega)
          rw [Nat.add_assoc]; exact this.2)
       have hjj : jj ≤ d.size := by omega
       go_wp2
       go_ret
       have hI := I2.out
       rw [hend] at hI
       refine ⟨by rw [hI.len]; rfl, q2, ?_⟩
       rw [hI.len, ← hI.done zr, W2.out]
       unfold putRowK
       rw [setCells_putRow _ _ _ _ _ _ (by rw [flat_len enc k HKK.out, List.length_replicate, size_flatK, hds, ← Nat.add_mul, show jj + (d.size - jj) = d.size by omega]; exact Nat.le_refl _), setMany_lay enc k HKK.out _ dk jj (by rw [List.length_replicate]; omega)]
    ·go_wp2_with fail
     go_quiet_o (fail)
     go_wp2
     go_roundg (d.size - (kk + 1))
     case measure => omega
     case rel =>
      refine ⟨kk + 1, q + nq, by omega, by omega, Nat.le_refl _, by go_num, by rw [← BQ.out, World.drewN_drewN], (show Aside _ from fun j hj => ?_)⟩
      by_cases e : j = kk
      ·subst e
       exact keeps_pos (by rw [B.out.1, B.out.2]; exact hdup)
      ·exact A.out j (by omega)
   ·have : kk = d.size := by omega
    subst this
    go_wp2
    go_ret
    obtain ⟨e1, e2⟩ := HS.out q A.out
    exact ⟨by rw [e1]; rfl, q, e2⟩
end
end Go.Proofs.YtcomiiakkhafpaaGreat.Am
namespace Go.Proofs.YtcomiiakkhafpaaGreat.Am
variable [Inhabited DRT]
open Go.RowKit (Below)
open Go.Proofs Go.Shelf Go.Sort Go.Lib
section
variable {P : Program} {ρ : Go.Shelf.Ren} {G : GInv} {α : Type} [Inhabited α] [DecidableEq α]
/-- What is left of a list if of equal neighbours one stays. -/
def cmpL (l : List α) : List α := compactUpTo l.toArray l.length
theorem cmpL_len (l : List α) : (cmpL l).length ≤ l.length := by
 unfold cmpL compactUpTo
 rw [List.length_map]
 exact Nat.le_trans (List.length_filter_le _ _) (by simp)
theorem MCalls.compactF (L : CompL P ρ) (k : Nat) (k0 : 0 < k) (aE : ∀ w, (isAgg (ρ.t 23)).run P w = .ok true w) (zE : ∀ w, (Go.sizeOf (ρ.t 23)).run P w = .ok k w)
  (e : α → List A) (hfl : ∀ x, ∀ a ∈ e x, flatA a) (hk : ∀ x, (e x).length = k)
  (heq' : ∀ (x y : α) (w : World), Sem.run P (binOp .eql (ρ.t 23) (.agg (encF e x).toArray) (.agg (encF e y).toArray)) w = .ok (.bool (decide (x = y))) w)
  (hne' : ∀ (x y : α) (w : World), Sem.run P (binOp .neq (ρ.t 23) (.agg (encF e x).toArray) (.agg (encF e y).toArray)) w = .ok (.bool (!decide (x = y))) w)
  (hgd' : ∀ (op : BinOp) (a b : Operand) (x y : α) (w : World), Sem.run P (eqGuard op (ρ.t 23) a b (.agg (encF e x).toArray) (.agg (encF e y).toArray)) w = .ok () w)
  (zr : α) (zv : Value) (v23 : ∀ w, (zeroValue (ρ.t 23)).run P w = .ok zv w) (hz : ∀ n, (Builtin.zeroCells zv.cells n).toList = (List.replicate n zr).flatMap (encF e))
  (hfn : ∃ fn cd, P.funcs[ρ.f 43]? = some fn ∧ fn.body = some cd ∧ (fn.name == "runtime.NumGoroutine") = false) (ty : TypeId) (l : List α) (hl : l.length ≤ 1000000) (hne : 0 < l.length) :
  MCalls P G (ρ.f 43) [.own 1] [.ghost [.own 1, .junk], .row ty k l.length (rowF e l)] (.own 1) [.ghost [.junk, .junk], .row ty k (cmpL l).length (rowF e (cmpL l))] := by
 refine ⟨hfn, ?_⟩
 intro im w vs gs ids hG hs
 have hvl : vs.length = 1 := by have := hs.len; simpa using this
 obtain ⟨v0, rfl⟩ : ∃ v0, vs = [v0] := by
  match vs, hvl with
  | [a], _ => exact ⟨a, rfl⟩
 have r0 : Rel ids _ w (.own 1) v0 := hs.slots 0 (by simp) (by simp)
 have hml : ids.length = 2 := by have := hs.mlen; simpa using this
 have hB1 := hs.blks 1 (by simp) (by omega)
 simp only [List.getElem_cons_succ, List.getElem_cons_zero] at hB1
 obtain ⟨p, cap, hid, hcap1, hcap2, rfl⟩ : ∃ p cap, ids[1]? = some (.lv p) ∧ (p.n ≤ cap ∧ cap ≤ maxLen) ∧ cap * p.sz = p.k ∧ v0 = .slice (some ⟨p.blk, 0, none⟩) p.n cap := by
  rcases hs.own_at r0 (by simp) with ⟨h1, _⟩ | h
  ·rw [List.getElem?_eq_getElem (by omega)] at h1
   rw [Option.some.inj h1] at hB1
   have : l.length = 0 := hB1
   omega
  ·exact h
 have hid1 : ids[1]'(by omega) = .lv p := by rw [List.getElem?_eq_getElem (by omega)] at hid; exact Option.some.inj hid
 rw [hid1] at hB1
 obtain ⟨g1, g2, cur, g3, g4, g5, g6, g7⟩ := hB1
 rw [g2]
 have hpf := hs.freshX p (List.mem_of_getElem? hid) p.blk (.inl rfl)
 have hek : ∀ x, (encF e x).length = k := fun x => by simp [encF, hk]
 have he1 : ∀ x, ∀ v ∈ encF e x, v.oneCell' = true := fun x v hv => by
  simp only [encF, List.mem_map] at hv; obtain ⟨n, hn, rfl⟩ := hv; exact fv_one (hfl x n hn)
 have hcur : ∀ t, t < l.length * k → cur[t]? = some ((encF e (l.getD (t / k) default)).getD (t % k) undef) := by
  intro t ht
  obtain ⟨q1, q2, q3⟩ := divmod ht rfl rfl
  have hlt : t < cur.size := by omega
  have hrl : (rowF e l (t / k)).length = k := g6 _ q1
  have := (g7 (t / k) (t % k) q1 (by rw [hrl]; exact q2) (by rw [q3]; exact hlt)).1
  simp only [q3] at this
  have hke : t % k < (e (l.getD (t / k) default)).length := by rw [hk]; exact q2
  have e1 : (rowF e l (t / k))[t % k]'(by rw [hrl]; exact q2) = (e (l.getD (t / k) default))[t % k] := rfl
  rw [e1] at this
  have hv : cur[t] = fvA ((e (l.getD (t / k) default))[t % k]) := fv_rel (hfl _ _ (List.getElem_mem hke)) this
  rw [Array.getElem?_eq_getElem hlt, hv]
  have hke2 : t % k < (encF e (l.getD (t / k) default)).length := by rw [hek]; exact q2
  rw [List.getD_eq_getElem?_getD (l := encF e (l.getD (t / k) default)), List.getElem?_eq_getElem hke2, Option.getD_some]
  simp only [encF, List.getElem_map]
 have hget : ∀ (m : List α) (i : Nat), m.toArray[i]! = m.getD i default := fun m i => by
  rw [List.getD_eq_getElem?_getD]; simp [Array.getElem!_eq_getD, Array.getD_eq_getD_getElem?]
 have hH : HoldsK (encF e) k w p.blk 0 l.toArray := by
  intro j hj
  rw [size_flatK] at hj
  have hj : j < l.length * k := by simpa using hj
  constructor
  ·rw [Nat.zero_add, cell_of_row w p.blk j cur ty (0, 0) g3, hcur j hj, id, get_flatK _ _ _ _ (by simpa using hj), hget]
   obtain ⟨q1, q2, q3⟩ := divmod hj rfl rfl
   have : j % k < (encF e (l.getD (j / k) default)).length := by rw [hek]; exact q2
   rw [List.getD_eq_getElem?_getD (l := encF e (l.getD (j / k) default)), List.getElem?_eq_getElem this, Option.getD_some, getElem!_pos (encF e (l.getD (j / k) default)) _ this]
  ·unfold World.frozen?
   simp only [g3]
   simp
 have hmain := compact_K L k k0 aE zE (encF e) hek he1 heq' hne' hgd' zr zv v23 hz p.blk 0 cap l.toArray w hH (by simp; omega) (by simpa [g2] using hcap1.1)
 refine Calls_mono (by simpa using hmain) ?_
 rintro e' w' ⟨rfl, q, hw'⟩
 have em : compactUpTo l.toArray l.length = cmpL l := rfl
 rw [em] at hw' ⊢
 have hcl := cmpL_len l
 obtain ⟨dd, hdd⟩ : ∃ dd : List α, dd = cmpL l ++ List.replicate (l.length - (cmpL l).length) zr := ⟨_, rfl⟩
 have hw' : w' = putRowK (encF e) k (Go.Sort.ahead w q) p.blk 0 dd.toArray := by rw [hw', hdd] <;> simp
 have hddl : dd.length = l.length := by rw [hdd]; simp; omega
 have hgd : ∀ i, i < (cmpL l).length → dd.getD i default = (cmpL l).getD i default := fun i hi => by
  rw [hdd]; simp only [List.getD_eq_getElem?_getD]; rw [List.getElem?_append_left hi]
 have hsz : w'.heap.size = w.heap.size := by rw [hw', size_putRowK]; rfl
 have hoth : ∀ b, b < w.heap.size → b ≠ p.blk → w'.heap[b]? = w.heap[b]? := fun b hb hbp => by
  rw [hw']
  show ((Go.Sort.ahead w q).heap.modify p.blk _)[b]? = _
  rw [Array.getElem?_modify, if_neg (fun h => hbp h.symm)]; rfl
 obtain ⟨cu, hcu⟩ : ∃ cu, cu = putCells id 0 (flatK (encF e) k dd.toArray) cur := ⟨_, rfl⟩
 have hown1 : w'.heap[p.blk]? = some (.cells cu ty (0, 0)) := by
  rw [hw', hcu]
  show ((Go.Sort.ahead w q).heap.modify p.blk _)[p.blk]? = _
  rw [Array.getElem?_modify, if_pos rfl]
  show Option.map _ (w.heap[p.blk]?) = _
  rw [g3]; rfl
 have hcs : cu.size = cur.size := by rw [hcu]; simp [putCells]
 have hs' := hs.rebind (w' := w') 1 (.lv (mkId p.blk cu.size (cmpL l).length k)) (.row ty k (cmpL l).length (rowF e (cmpL l))) 4 (by simp) (by rw [hw']; rfl) (by rw [hw']; rfl) (by rw [hw']; rfl) (by omega)
  (fun b hb hp => hoth b hb (fun e => hp p hid (.inl e))) (fun _ h => by cases h)
  (fun p' h x' hx => by
   cases h
   have := mkId_has hx
   subst this
   exact ⟨by omega, .inr ⟨p, hid, .inl rfl⟩⟩)
  (fun _ => by
   refine ⟨rfl, rfl, cu, hown1, rfl, ?_, fun i _ => by simp [rowF, hk], ?_⟩
   ·show (cmpL l).length * k ≤ cu.size
    have := Nat.mul_le_mul_right k hcl
    omega
   ·intro i j hi hj hj'
    have hjk : j < k := by simpa [rowF, hk] using hj
    have hlt : i * k + j < l.length * k := by
     have := Nat.mul_le_mul_right k (show i + 1 ≤ l.length by omega)
     rw [Nat.add_mul] at this; omega
    have hfs : (flatK (encF e) k dd.toArray).size = l.length * k := by rw [size_flatK]; simp [hddl]
    have hv : cu[i * k + j] = fvA ((e ((cmpL l).getD i default))[j]'(by rw [hk]; exact hjk)) := by
     subst hcu
     simp only [putCells, Array.getElem_mapIdx, hfs]
     rw [if_pos ⟨Nat.zero_le _, by omega⟩, Nat.sub_zero, id, get_flatK _ _ _ _ (by simpa [hddl] using hlt)]
     have e1 : (i * k + j) / k = i := by rw [Nat.mul_comm, Nat.mul_add_div k0, Nat.div_eq_of_lt hjk]; simp
     have e2 : (i * k + j) % k = j := by rw [Nat.mul_comm, Nat.mul_add_mod, Nat.mod_eq_of_lt hjk]
     rw [e1, e2, hget, hgd i hi]
     have : j < (encF e ((cmpL l).getD i default)).length := by rw [hek]; exact hjk
     rw [getElem!_pos (encF e ((cmpL l).getD i default)) j this]
     simp only [encF, List.getElem_map]
    rw [hv]
    exact ⟨rel_fv (hfl _ _ (List.getElem_mem _)), fv_one (hfl _ _ (List.getElem_mem _))⟩) (.of (by rw [hw']; exact Nat.le_add_right _ _))
 refine ⟨_, _, rfl, ⟨rfl, rfl, ?_, hs'.mlen, hs'.blks, hs'.distinctX, hs'.freshX, hs'.frame, hs'.im0lt, hs'.gho⟩⟩
 intro j h h'
 match j, h with
 | 0, _ =>
  refine .own 1 cap (mkId p.blk cu.size (cmpL l).length k) ?_ ⟨?_, hcap1.2⟩ ?_
  ·rw [List.getElem?_set_self (by omega)]
  ·show (cmpL l).length ≤ cap
   have := hcap1.1; omega
  ·show cap * k = cu.size
   rw [hcs, g4, ← hcap2, g1]
end
end Go.Proofs.YtcomiiakkhafpaaGreat.Am
namespace Go.Proofs.YtcomiiakkhafpaaGreat.Am
open Go.Lib
/-! ### Lists in strict order: plain laws -/
section
variable {α : Type} [Inhabited α] [DecidableEq α] {R : α → α → Prop}
/-- What is sorted, each once. -/
theorem compact_strict (L : List α) (ht : ∀ x y z, R x y → R y z → R x z) (hs : ∀ i j, i < j → j < L.length → ¬ R (L.getD j default) (L.getD i default)) (hi : ∀ x ∈ L, ∀ y ∈ L, ¬ R x y → ¬ R y x → x = y) :
  ∀ m, m ≤ L.length → (compactUpTo L.toArray m).Pairwise R ∧ ∀ x, x ∈ compactUpTo L.toArray m ↔ ∃ i, i < m ∧ L.getD i default = x := by
 have hget : ∀ i : Nat, L.toArray[i]! = L.getD i default := fun i => by
  rw [List.getD_eq_getElem?_getD]; simp [Array.getElem!_eq_getD, Array.getD_eq_getD_getElem?]
 have hmem : ∀ i, i < L.length → L.getD i default ∈ L := fun i h => by
  rw [List.getD_eq_getElem?_getD, List.getElem?_eq_getElem h]; exact List.getElem_mem _
 intro m
 induction m with
 | zero => intro _; exact ⟨by simp [compactUpTo], fun x => by simp [compactUpTo]⟩
 | succ m ih =>
  intro hm
  obtain ⟨h1, h2⟩ := ih (by omega)
  rw [compactUpTo_succ]
  by_cases hk : keeps L.toArray m
  ·rw [if_pos hk, hget]
   refine ⟨List.pairwise_append.2 ⟨h1, by simp, fun x hx y hy => ?_⟩, fun x => ?_⟩
   ·obtain ⟨i, him, rfl⟩ := (h2 x).1 hx
    rw [List.mem_singleton.1 hy]
    refine Classical.byContradiction fun hn => ?_
    have e := hi _ (hmem i (by omega)) _ (hmem m (by omega)) hn (hs i m him (by omega))
    have hm0 : m ≠ 0 := by omega
    have hk' : L.getD m default ≠ L.getD (m - 1) default := by
     unfold keeps at hk
     rw [hget, hget] at hk
     simpa [hm0] using hk
    refine hk' ?_
    refine hi _ (hmem m (by omega)) _ (hmem (m - 1) (by omega)) (hs (m - 1) m (by omega) (by omega)) ?_
    intro hr
    rcases Nat.lt_or_ge i (m - 1) with h | h
    ·rw [← e] at hr; exact hs i (m - 1) h (by omega) hr
    ·have : i = m - 1 := by omega
     subst this; exact hn hr
   ·rw [List.mem_append, h2, List.mem_singleton]
    constructor
    ·rintro (⟨i, h, e⟩ | h)
     ·exact ⟨i, by omega, e⟩
     ·exact ⟨m, by omega, h.symm⟩
    ·rintro ⟨i, h, e⟩
     rcases Nat.lt_or_ge i m with h' | h'
     ·exact .inl ⟨i, h', e⟩
     ·have : i = m := by omega
      subst this; exact .inr e.symm
  ·rw [if_neg hk, List.append_nil]
   have hk' : m ≠ 0 ∧ L.getD m default = L.getD (m - 1) default := by
    unfold keeps at hk
    rw [hget, hget] at hk
    simpa using hk
   refine ⟨h1, fun x => ?_⟩
   rw [h2]
   constructor
   ·rintro ⟨i, h, e⟩; exact ⟨i, by omega, e⟩
   ·rintro ⟨i, h, e⟩
    rcases Nat.lt_or_ge i m with h' | h'
    ·exact ⟨i, h', e⟩
    ·have : i = m := by omega
     subst this; exact ⟨i - 1, by omega, by rw [← hk'.2]; exact e⟩
theorem strict_eq (hr : ∀ x, ¬ R x x) (ha : ∀ x y, R x y → R y x → False) : ∀ (l m : List α), l.Pairwise R → m.Pairwise R → (∀ x, x ∈ l ↔ x ∈ m) → l = m
 | [], [], _, _, _ => rfl
 | [], b :: m, _, _, h => by have := (h b).2 (List.mem_cons_self ..); cases this
 | a :: l, [], _, _, h => by have := (h a).1 (List.mem_cons_self ..); cases this
 | a :: l, b :: m, h1, h2, h => by
  have g1 := List.pairwise_cons.1 h1
  have g2 := List.pairwise_cons.1 h2
  have irr : ∀ p q, R p q → p ≠ q := fun p q h e => by subst e; exact hr _ h
  have e : a = b := by
   rcases List.mem_cons.1 ((h a).1 (List.mem_cons_self ..)) with e | ha'
   ·exact e
   ·rcases List.mem_cons.1 ((h b).2 (List.mem_cons_self ..)) with e | hb
    ·exact e.symm
    ·exact (ha _ _ (g2.1 a ha') (g1.1 b hb)).elim
  subst e
  rw [strict_eq hr ha l m g1.2 g2.2 fun x => ?_]
  constructor
  ·intro hx
   rcases List.mem_cons.1 ((h x).1 (List.mem_cons_of_mem _ hx)) with e | h'
   ·exact absurd e.symm (irr _ _ (g1.1 x hx))
   ·exact h'
  ·intro hx
   rcases List.mem_cons.1 ((h x).2 (List.mem_cons_of_mem _ hx)) with e | h'
   ·exact absurd e.symm (irr _ _ (g2.1 x hx))
   ·exact h'
variable [DecidableRel R]
/-- How far what is put in goes, of the first k. -/
def atK (R : α → α → Prop) [DecidableRel R] (l : List α) (c : α) : Nat → Nat
 | 0 => 0
 | k + 1 => if R (l.getD k default) c then k + 1 else atK R l c k
theorem atK_le (l : List α) (c : α) : ∀ k, atK R l c k ≤ k
 | 0 => Nat.le_refl _
 | k + 1 => by
  have := atK_le l c k
  unfold atK
  split <;> omega
theorem atK_ge (l : List α) (c : α) : ∀ k i, atK R l c k ≤ i → i < k → ¬ R (l.getD i default) c
 | 0, i, _, h => by omega
 | k + 1, i, h, hi => by
  unfold atK at h
  split at h
  ·omega
  ·rcases Nat.lt_or_ge i k with h' | h'
   ·exact atK_ge l c k i h h'
   ·have : i = k := by omega
    subst this; assumption
theorem atK_at (l : List α) (c : α) : ∀ k, 0 < atK R l c k → R (l.getD (atK R l c k - 1) default) c
 | 0, h => by simp [atK] at h
 | k + 1, h => by
  unfold atK at h ⊢
  split
  ·simpa using by assumption
  ·rename_i hn
   rw [if_neg hn] at h
   exact atK_at l c k h
def putL (R : α → α → Prop) [DecidableRel R] (l : List α) (c : α) : List α := if c ∈ l then l else l.take (atK R l c l.length) ++ c :: l.drop (atK R l c l.length)
theorem put_strict (ht : ∀ x y z, R x y → R y z → R x z) (l : List α) (c : α) (hl : l.Pairwise R) (hi : ∀ x ∈ l, ¬ R x c → ¬ R c x → x = c) :
  (putL R l c).Pairwise R ∧ ∀ x, x ∈ putL R l c ↔ x = c ∨ x ∈ l := by
 unfold putL
 by_cases hc : c ∈ l
 ·rw [if_pos hc]
  refine ⟨hl, fun x => ⟨.inr, ?_⟩⟩
  rintro (rfl | h)
  ·exact hc
  ·exact h
 ·rw [if_neg hc]
  have hle := atK_le (R := R) l c l.length
  have hge := atK_ge (R := R) l c l.length
  have hat := atK_at (R := R) l c l.length
  generalize atK R l c l.length = a at *
  have hp := List.pairwise_iff_getElem.1 hl
  have gd : ∀ i (h : i < l.length), l.getD i default = l[i] := fun i h => by rw [List.getD_eq_getElem?_getD, List.getElem?_eq_getElem h]; rfl
  have hlow : ∀ x ∈ l.take a, R x c := fun x hx => by
   obtain ⟨i, h, rfl⟩ := List.getElem_of_mem hx
   rw [List.length_take] at h
   rw [List.getElem_take]
   have h3 := hat (by omega)
   rw [gd (a - 1) (by omega)] at h3
   rcases Nat.lt_or_ge i (a - 1) with h4 | h4
   ·exact ht _ _ _ (hp i (a - 1) (by omega) (by omega) h4) h3
   ·have : i = a - 1 := by omega
    subst this; exact h3
  have hhigh : ∀ x ∈ l.drop a, R c x := fun x hx => by
   obtain ⟨i, h, rfl⟩ := List.getElem_of_mem hx
   rw [List.length_drop] at h
   rw [List.getElem_drop]
   have h3 := hge (a + i) (by omega) (by omega)
   rw [gd (a + i) (by omega)] at h3
   refine Classical.byContradiction fun hn => ?_
   have e := hi _ (List.getElem_mem (by omega : a + i < l.length)) h3 hn
   exact hc (by rw [← e]; exact List.getElem_mem _)
  have hsplit : l.take a ++ l.drop a = l := List.take_append_drop a l
  have hpa : (l.take a ++ l.drop a).Pairwise R := by rw [hsplit]; exact hl
  obtain ⟨p1, p2, p3⟩ := List.pairwise_append.1 hpa
  refine ⟨List.pairwise_append.2 ⟨p1, List.pairwise_cons.2 ⟨hhigh, p2⟩, fun x hx y hy => ?_⟩, fun x => ?_⟩
  ·rcases List.mem_cons.1 hy with rfl | hy
   ·exact hlow x hx
   ·exact p3 x hx y hy
  ·rw [List.mem_append, List.mem_cons]
   have hx : x ∈ l ↔ x ∈ l.take a ∨ x ∈ l.drop a := by rw [← List.mem_append, hsplit]
   rw [hx]
   constructor
   ·rintro (h | h | h)
    ·exact .inr (.inl h)
    ·exact .inl h
    ·exact .inr (.inr h)
   ·rintro (h | h | h)
    ·exact .inr (.inl h)
    ·exact .inl h
    ·exact .inr (.inr h)
end
end Go.Proofs.YtcomiiakkhafpaaGreat.Am
/-
  DERIVED: THE SHELF's CONTRACTS AT THIS DUMP, IN PLAIN WORDS (tools/lay-plain.mjs out of 'TrySortShelf.lean', which tools/lay-shelf.mjs wrote): THE SAME DECLARATIONS UNDER THE SAME NAMES: 'import', 'namespace', 'open', 'def', 'theorem' AND NOTHING ELSE: no command of the shelf's: FOR A HAND-IN. Each laying: the table of numbers ('.._ren') and one theorem, a field a fact of the dump's own or the kernel's comparison; each contract: ONE APPLICATION.
-/
namespace Go.Proofs
open Go.Shelf
def Tryz.laySortPt_ren : Go.Shelf.Ren := ⟨fun | 6 => 150 | 15 => 131 | 14 => 184 | 28 => 171 | 29 => 148 | 20 => 214 | 21 => 215 | 22 => 216 | 23 => 217 | 24 => 218 | 25 => 219 | 26 => 220 | 27 => 221 | 46 => 237 | 47 => 207 | 48 => 208 | 49 => 238 | 50 => 239 | 57 => 245 | n => n, fun | 22 => 146 | 24 => 43 | 25 => 103 | 3 => 3 | 39 => 167 | 0 => 0 | 53 => 201 | 55 => 28 | 4 => 4 | 46 => 194 | 45 => 193 | 50 => 198 | 5 => 5 | 9 => 9 | 66 => 225 | 70 => 229 | 76 => 245 | 77 => 61 | n => n, fun | n => n⟩
theorem Tryz.laySortPt : Go.Proofs.SlLaysF0.n6 Tryz.prog Tryz.laySortPt_ren := {
 mixed := by kernel_rfl
 f6 := ⟨Tryz.f150.name, by decide, Tryz.func150.trans (congrArg some (by kernel_rfl))⟩
 f14 := ⟨Tryz.f184.name, by decide, Tryz.func184.trans (congrArg some (by kernel_rfl))⟩
 f15 := Tryz.func131.trans (congrArg some (by kernel_rfl))
 f20 := ⟨Tryz.f214.name, by decide, Tryz.func214.trans (congrArg some (by kernel_rfl))⟩
 f21 := ⟨Tryz.f215.name, by decide, Tryz.func215.trans (congrArg some (by kernel_rfl))⟩
 f22 := ⟨Tryz.f216.name, by decide, Tryz.func216.trans (congrArg some (by kernel_rfl))⟩
 f23 := ⟨Tryz.f217.name, by decide, Tryz.func217.trans (congrArg some (by kernel_rfl))⟩
 f24 := ⟨Tryz.f218.name, by decide, Tryz.func218.trans (congrArg some (by kernel_rfl))⟩
 f25 := ⟨Tryz.f219.name, by decide, Tryz.func219.trans (congrArg some (by kernel_rfl))⟩
 f26 := ⟨Tryz.f220.name, by decide, Tryz.func220.trans (congrArg some (by kernel_rfl))⟩
 f27 := ⟨Tryz.f221.name, by decide, Tryz.func221.trans (congrArg some (by kernel_rfl))⟩
 f28 := Tryz.func171.trans (congrArg some (by kernel_rfl))
 f29 := Tryz.func148.trans (congrArg some (by kernel_rfl))
 f46 := ⟨Tryz.f237.name, by decide, Tryz.func237.trans (congrArg some (by kernel_rfl))⟩
 f47 := Tryz.func207.trans (congrArg some (by kernel_rfl))
 f48 := Tryz.func208.trans (congrArg some (by kernel_rfl))
 f49 := ⟨Tryz.f238.name, by decide, Tryz.func238.trans (congrArg some (by kernel_rfl))⟩
 f50 := ⟨Tryz.f239.name, by decide, Tryz.func239.trans (congrArg some (by kernel_rfl))⟩
 f57 := ⟨Tryz.f245.name, by decide, Tryz.func245.trans (congrArg some (by kernel_rfl))⟩
 t0 := Tryz.underlying0
 a0 := Tryz.isAgg0
 z0 := Tryz.sizeOf0
 v0 := Tryz.zeroValue0
 t3 := Tryz.underlying3
 a3 := Tryz.isAgg3
 z3 := Tryz.sizeOf3
 v3 := Tryz.zeroValue3
 t4 := Tryz.underlying4
 a4 := Tryz.isAgg4
 z4 := Tryz.sizeOf4
 v4 := Tryz.zeroValue4
 t5 := Tryz.underlying5
 a5 := Tryz.isAgg5
 z5 := Tryz.sizeOf5
 v5 := Tryz.zeroValue5
 t9 := Tryz.underlying9
 a9 := Tryz.isAgg9
 z9 := Tryz.sizeOf9
 v9 := Tryz.zeroValue9
 t22 := Tryz.underlying146
 a22 := Tryz.isAgg146
 z22 := Tryz.sizeOf146
 v22 := Tryz.zeroValue146
 t25 := Tryz.underlying103
 a25 := Tryz.isAgg103
 z25 := Tryz.sizeOf103
 v25 := Tryz.zeroValue103
 t39 := Tryz.underlying167
 a39 := Tryz.isAgg167
 z39 := Tryz.sizeOf167
 v39 := Tryz.zeroValue167
 t45 := Tryz.underlying193
 a45 := Tryz.isAgg193
 z45 := Tryz.sizeOf193
 v45 := Tryz.zeroValue193
 t46 := Tryz.underlying194
 a46 := Tryz.isAgg194
 z46 := Tryz.sizeOf194
 v46 := Tryz.zeroValue194
 t50 := Tryz.underlying198
 a50 := Tryz.isAgg198
 z50 := Tryz.sizeOf198
 v50 := Tryz.zeroValue198
 t53 := Tryz.underlying201
 a53 := Tryz.isAgg201
 z53 := Tryz.sizeOf201
 v53 := Tryz.zeroValue201
 t55 := Tryz.underlying28
 a55 := Tryz.isAgg28
 z55 := Tryz.sizeOf28
 v55 := Tryz.zeroValue28
 t66 := Tryz.underlying225
 a66 := Tryz.isAgg225
 z66 := Tryz.sizeOf225
 v66 := Tryz.zeroValue225
 t70 := Tryz.underlying229
 a70 := Tryz.isAgg229
 z70 := Tryz.sizeOf229
 v70 := Tryz.zeroValue229
 t76 := Tryz.underlying245
 a76 := Tryz.isAgg245
 z76 := Tryz.sizeOf245
 v76 := Tryz.zeroValue245
 t77 := Tryz.underlying61
 a77 := Tryz.isAgg61
 z77 := Tryz.sizeOf61
 v77 := Tryz.zeroValue61 }
end Go.Proofs
/-
  DERIVED: THE SHELF's CONTRACTS AT THIS DUMP, IN PLAIN WORDS (tools/lay-plain.mjs out of 'TrySortShelf.lean', which tools/lay-shelf.mjs wrote): THE SAME DECLARATIONS UNDER THE SAME NAMES: 'import', 'namespace', 'open', 'def', 'theorem' AND NOTHING ELSE: no command of the shelf's: FOR A HAND-IN. Each laying: the table of numbers ('.._ren') and one theorem, a field a fact of the dump's own or the kernel's comparison; each contract: ONE APPLICATION.
-/
namespace Go.Proofs
open Go.Shelf
def Tryz.laySortBox_ren : Go.Shelf.Ren := ⟨fun | 6 => 155 | 15 => 131 | 14 => 186 | 28 => 171 | 29 => 148 | 20 => 222 | 21 => 223 | 22 => 224 | 23 => 225 | 24 => 226 | 25 => 227 | 26 => 228 | 27 => 229 | 46 => 240 | 47 => 207 | 48 => 208 | 49 => 241 | 50 => 242 | 57 => 246 | n => n, fun | 22 => 153 | 24 => 156 | 25 => 186 | 3 => 3 | 39 => 167 | 0 => 0 | 53 => 201 | 55 => 28 | 4 => 4 | 46 => 194 | 45 => 193 | 50 => 198 | 5 => 5 | 9 => 9 | 66 => 225 | 70 => 229 | 76 => 245 | 77 => 61 | n => n, fun | n => n⟩
theorem Tryz.laySortBox : Go.Proofs.SlLaysF0.n6 Tryz.prog Tryz.laySortBox_ren := {
 mixed := by kernel_rfl
 f6 := ⟨Tryz.f155.name, by decide, Tryz.func155.trans (congrArg some (by kernel_rfl))⟩
 f14 := ⟨Tryz.f186.name, by decide, Tryz.func186.trans (congrArg some (by kernel_rfl))⟩
 f15 := Tryz.func131.trans (congrArg some (by kernel_rfl))
 f20 := ⟨Tryz.f222.name, by decide, Tryz.func222.trans (congrArg some (by kernel_rfl))⟩
 f21 := ⟨Tryz.f223.name, by decide, Tryz.func223.trans (congrArg some (by kernel_rfl))⟩
 f22 := ⟨Tryz.f224.name, by decide, Tryz.func224.trans (congrArg some (by kernel_rfl))⟩
 f23 := ⟨Tryz.f225.name, by decide, Tryz.func225.trans (congrArg some (by kernel_rfl))⟩
 f24 := ⟨Tryz.f226.name, by decide, Tryz.func226.trans (congrArg some (by kernel_rfl))⟩
 f25 := ⟨Tryz.f227.name, by decide, Tryz.func227.trans (congrArg some (by kernel_rfl))⟩
 f26 := ⟨Tryz.f228.name, by decide, Tryz.func228.trans (congrArg some (by kernel_rfl))⟩
 f27 := ⟨Tryz.f229.name, by decide, Tryz.func229.trans (congrArg some (by kernel_rfl))⟩
 f28 := Tryz.func171.trans (congrArg some (by kernel_rfl))
 f29 := Tryz.func148.trans (congrArg some (by kernel_rfl))
 f46 := ⟨Tryz.f240.name, by decide, Tryz.func240.trans (congrArg some (by kernel_rfl))⟩
 f47 := Tryz.func207.trans (congrArg some (by kernel_rfl))
 f48 := Tryz.func208.trans (congrArg some (by kernel_rfl))
 f49 := ⟨Tryz.f241.name, by decide, Tryz.func241.trans (congrArg some (by kernel_rfl))⟩
 f50 := ⟨Tryz.f242.name, by decide, Tryz.func242.trans (congrArg some (by kernel_rfl))⟩
 f57 := ⟨Tryz.f246.name, by decide, Tryz.func246.trans (congrArg some (by kernel_rfl))⟩
 t0 := Tryz.underlying0
 a0 := Tryz.isAgg0
 z0 := Tryz.sizeOf0
 v0 := Tryz.zeroValue0
 t3 := Tryz.underlying3
 a3 := Tryz.isAgg3
 z3 := Tryz.sizeOf3
 v3 := Tryz.zeroValue3
 t4 := Tryz.underlying4
 a4 := Tryz.isAgg4
 z4 := Tryz.sizeOf4
 v4 := Tryz.zeroValue4
 t5 := Tryz.underlying5
 a5 := Tryz.isAgg5
 z5 := Tryz.sizeOf5
 v5 := Tryz.zeroValue5
 t9 := Tryz.underlying9
 a9 := Tryz.isAgg9
 z9 := Tryz.sizeOf9
 v9 := Tryz.zeroValue9
 t22 := Tryz.underlying153
 a22 := Tryz.isAgg153
 z22 := Tryz.sizeOf153
 v22 := Tryz.zeroValue153
 t25 := Tryz.underlying186
 a25 := Tryz.isAgg186
 z25 := Tryz.sizeOf186
 v25 := Tryz.zeroValue186
 t39 := Tryz.underlying167
 a39 := Tryz.isAgg167
 z39 := Tryz.sizeOf167
 v39 := Tryz.zeroValue167
 t45 := Tryz.underlying193
 a45 := Tryz.isAgg193
 z45 := Tryz.sizeOf193
 v45 := Tryz.zeroValue193
 t46 := Tryz.underlying194
 a46 := Tryz.isAgg194
 z46 := Tryz.sizeOf194
 v46 := Tryz.zeroValue194
 t50 := Tryz.underlying198
 a50 := Tryz.isAgg198
 z50 := Tryz.sizeOf198
 v50 := Tryz.zeroValue198
 t53 := Tryz.underlying201
 a53 := Tryz.isAgg201
 z53 := Tryz.sizeOf201
 v53 := Tryz.zeroValue201
 t55 := Tryz.underlying28
 a55 := Tryz.isAgg28
 z55 := Tryz.sizeOf28
 v55 := Tryz.zeroValue28
 t66 := Tryz.underlying225
 a66 := Tryz.isAgg225
 z66 := Tryz.sizeOf225
 v66 := Tryz.zeroValue225
 t70 := Tryz.underlying229
 a70 := Tryz.isAgg229
 z70 := Tryz.sizeOf229
 v70 := Tryz.zeroValue229
 t76 := Tryz.underlying245
 a76 := Tryz.isAgg245
 z76 := Tryz.sizeOf245
 v76 := Tryz.zeroValue245
 t77 := Tryz.underlying61
 a77 := Tryz.isAgg61
 z77 := Tryz.sizeOf61
 v77 := Tryz.zeroValue61 }
end Go.Proofs
/-
  DERIVED: THE SHELF's CONTRACTS AT THIS DUMP, IN PLAIN WORDS (tools/lay-plain.mjs out of 'TrySortShelf.lean', which tools/lay-shelf.mjs wrote): THE SAME DECLARATIONS UNDER THE SAME NAMES: 'import', 'namespace', 'open', 'def', 'theorem' AND NOTHING ELSE: no command of the shelf's: FOR A HAND-IN. Each laying: the table of numbers ('.._ren') and one theorem, a field a fact of the dump's own or the kernel's comparison; each contract: ONE APPLICATION.
-/
namespace Go.Proofs
open Go.Shelf
def Tryz.laySortTwo_ren : Go.Shelf.Ren := ⟨fun | 6 => 121 | 15 => 131 | 14 => 157 | 28 => 171 | 29 => 148 | 20 => 187 | 21 => 188 | 22 => 189 | 23 => 190 | 24 => 191 | 25 => 192 | 26 => 193 | 27 => 194 | 46 => 230 | 47 => 207 | 48 => 208 | 49 => 231 | 50 => 232 | 57 => 243 | n => n, fun | 22 => 104 | 24 => 56 | 25 => 160 | 3 => 3 | 39 => 167 | 0 => 0 | 53 => 201 | 55 => 28 | 4 => 4 | 46 => 194 | 45 => 193 | 50 => 198 | 5 => 5 | 9 => 9 | 66 => 225 | 70 => 229 | 76 => 245 | 77 => 61 | n => n, fun | n => n⟩
theorem Tryz.laySortTwo : Go.Proofs.SlLaysF0.n6 Tryz.prog Tryz.laySortTwo_ren := {
 mixed := by kernel_rfl
 f6 := ⟨Tryz.f121.name, by decide, Tryz.func121.trans (congrArg some (by kernel_rfl))⟩
 f14 := ⟨Tryz.f157.name, by decide, Tryz.func157.trans (congrArg some (by kernel_rfl))⟩
 f15 := Tryz.func131.trans (congrArg some (by kernel_rfl))
 f20 := ⟨Tryz.f187.name, by decide, Tryz.func187.trans (congrArg some (by kernel_rfl))⟩
 f21 := ⟨Tryz.f188.name, by decide, Tryz.func188.trans (congrArg some (by kernel_rfl))⟩
 f22 := ⟨Tryz.f189.name, by decide, Tryz.func189.trans (congrArg some (by kernel_rfl))⟩
 f23 := ⟨Tryz.f190.name, by decide, Tryz.func190.trans (congrArg some (by kernel_rfl))⟩
 f24 := ⟨Tryz.f191.name, by decide, Tryz.func191.trans (congrArg some (by kernel_rfl))⟩
 f25 := ⟨Tryz.f192.name, by decide, Tryz.func192.trans (congrArg some (by kernel_rfl))⟩
 f26 := ⟨Tryz.f193.name, by decide, Tryz.func193.trans (congrArg some (by kernel_rfl))⟩
 f27 := ⟨Tryz.f194.name, by decide, Tryz.func194.trans (congrArg some (by kernel_rfl))⟩
 f28 := Tryz.func171.trans (congrArg some (by kernel_rfl))
 f29 := Tryz.func148.trans (congrArg some (by kernel_rfl))
 f46 := ⟨Tryz.f230.name, by decide, Tryz.func230.trans (congrArg some (by kernel_rfl))⟩
 f47 := Tryz.func207.trans (congrArg some (by kernel_rfl))
 f48 := Tryz.func208.trans (congrArg some (by kernel_rfl))
 f49 := ⟨Tryz.f231.name, by decide, Tryz.func231.trans (congrArg some (by kernel_rfl))⟩
 f50 := ⟨Tryz.f232.name, by decide, Tryz.func232.trans (congrArg some (by kernel_rfl))⟩
 f57 := ⟨Tryz.f243.name, by decide, Tryz.func243.trans (congrArg some (by kernel_rfl))⟩
 t0 := Tryz.underlying0
 a0 := Tryz.isAgg0
 z0 := Tryz.sizeOf0
 v0 := Tryz.zeroValue0
 t3 := Tryz.underlying3
 a3 := Tryz.isAgg3
 z3 := Tryz.sizeOf3
 v3 := Tryz.zeroValue3
 t4 := Tryz.underlying4
 a4 := Tryz.isAgg4
 z4 := Tryz.sizeOf4
 v4 := Tryz.zeroValue4
 t5 := Tryz.underlying5
 a5 := Tryz.isAgg5
 z5 := Tryz.sizeOf5
 v5 := Tryz.zeroValue5
 t9 := Tryz.underlying9
 a9 := Tryz.isAgg9
 z9 := Tryz.sizeOf9
 v9 := Tryz.zeroValue9
 t22 := Tryz.underlying104
 a22 := Tryz.isAgg104
 z22 := Tryz.sizeOf104
 v22 := Tryz.zeroValue104
 t25 := Tryz.underlying160
 a25 := Tryz.isAgg160
 z25 := Tryz.sizeOf160
 v25 := Tryz.zeroValue160
 t39 := Tryz.underlying167
 a39 := Tryz.isAgg167
 z39 := Tryz.sizeOf167
 v39 := Tryz.zeroValue167
 t45 := Tryz.underlying193
 a45 := Tryz.isAgg193
 z45 := Tryz.sizeOf193
 v45 := Tryz.zeroValue193
 t46 := Tryz.underlying194
 a46 := Tryz.isAgg194
 z46 := Tryz.sizeOf194
 v46 := Tryz.zeroValue194
 t50 := Tryz.underlying198
 a50 := Tryz.isAgg198
 z50 := Tryz.sizeOf198
 v50 := Tryz.zeroValue198
 t53 := Tryz.underlying201
 a53 := Tryz.isAgg201
 z53 := Tryz.sizeOf201
 v53 := Tryz.zeroValue201
 t55 := Tryz.underlying28
 a55 := Tryz.isAgg28
 z55 := Tryz.sizeOf28
 v55 := Tryz.zeroValue28
 t66 := Tryz.underlying225
 a66 := Tryz.isAgg225
 z66 := Tryz.sizeOf225
 v66 := Tryz.zeroValue225
 t70 := Tryz.underlying229
 a70 := Tryz.isAgg229
 z70 := Tryz.sizeOf229
 v70 := Tryz.zeroValue229
 t76 := Tryz.underlying245
 a76 := Tryz.isAgg245
 z76 := Tryz.sizeOf245
 v76 := Tryz.zeroValue245
 t77 := Tryz.underlying61
 a77 := Tryz.isAgg61
 z77 := Tryz.sizeOf61
 v77 := Tryz.zeroValue61 }
end Go.Proofs
/-
  DERIVED: THE SHELF's CONTRACTS AT THIS DUMP, IN PLAIN WORDS (tools/lay-plain.mjs out of 'TrySortShelf.lean', which tools/lay-shelf.mjs wrote): THE SAME DECLARATIONS UNDER THE SAME NAMES: 'import', 'namespace', 'open', 'def', 'theorem' AND NOTHING ELSE: no command of the shelf's: FOR A HAND-IN. Each laying: the table of numbers ('.._ren') and one theorem, a field a fact of the dump's own or the kernel's comparison; each contract: ONE APPLICATION.
-/
namespace Go.Proofs
open Go.Shelf
def Tryz.laySortCut_ren : Go.Shelf.Ren := ⟨fun | 6 => 124 | 15 => 131 | 14 => 159 | 28 => 171 | 29 => 148 | 20 => 195 | 21 => 196 | 22 => 197 | 23 => 198 | 24 => 199 | 25 => 200 | 26 => 201 | 27 => 202 | 46 => 233 | 47 => 207 | 48 => 208 | 49 => 234 | 50 => 235 | 57 => 244 | n => n, fun | 22 => 71 | 24 => 58 | 25 => 162 | 3 => 3 | 39 => 167 | 0 => 0 | 53 => 201 | 55 => 28 | 4 => 4 | 46 => 194 | 45 => 193 | 50 => 198 | 5 => 5 | 9 => 9 | 66 => 225 | 70 => 229 | 76 => 245 | 77 => 61 | n => n, fun | n => n⟩
theorem Tryz.laySortCut : Go.Proofs.SlLaysF0.n6 Tryz.prog Tryz.laySortCut_ren := {
 mixed := by kernel_rfl
 f6 := ⟨Tryz.f124.name, by decide, Tryz.func124.trans (congrArg some (by kernel_rfl))⟩
 f14 := ⟨Tryz.f159.name, by decide, Tryz.func159.trans (congrArg some (by kernel_rfl))⟩
 f15 := Tryz.func131.trans (congrArg some (by kernel_rfl))
 f20 := ⟨Tryz.f195.name, by decide, Tryz.func195.trans (congrArg some (by kernel_rfl))⟩
 f21 := ⟨Tryz.f196.name, by decide, Tryz.func196.trans (congrArg some (by kernel_rfl))⟩
 f22 := ⟨Tryz.f197.name, by decide, Tryz.func197.trans (congrArg some (by kernel_rfl))⟩
 f23 := ⟨Tryz.f198.name, by decide, Tryz.func198.trans (congrArg some (by kernel_rfl))⟩
 f24 := ⟨Tryz.f199.name, by decide, Tryz.func199.trans (congrArg some (by kernel_rfl))⟩
 f25 := ⟨Tryz.f200.name, by decide, Tryz.func200.trans (congrArg some (by kernel_rfl))⟩
 f26 := ⟨Tryz.f201.name, by decide, Tryz.func201.trans (congrArg some (by kernel_rfl))⟩
 f27 := ⟨Tryz.f202.name, by decide, Tryz.func202.trans (congrArg some (by kernel_rfl))⟩
 f28 := Tryz.func171.trans (congrArg some (by kernel_rfl))
 f29 := Tryz.func148.trans (congrArg some (by kernel_rfl))
 f46 := ⟨Tryz.f233.name, by decide, Tryz.func233.trans (congrArg some (by kernel_rfl))⟩
 f47 := Tryz.func207.trans (congrArg some (by kernel_rfl))
 f48 := Tryz.func208.trans (congrArg some (by kernel_rfl))
 f49 := ⟨Tryz.f234.name, by decide, Tryz.func234.trans (congrArg some (by kernel_rfl))⟩
 f50 := ⟨Tryz.f235.name, by decide, Tryz.func235.trans (congrArg some (by kernel_rfl))⟩
 f57 := ⟨Tryz.f244.name, by decide, Tryz.func244.trans (congrArg some (by kernel_rfl))⟩
 t0 := Tryz.underlying0
 a0 := Tryz.isAgg0
 z0 := Tryz.sizeOf0
 v0 := Tryz.zeroValue0
 t3 := Tryz.underlying3
 a3 := Tryz.isAgg3
 z3 := Tryz.sizeOf3
 v3 := Tryz.zeroValue3
 t4 := Tryz.underlying4
 a4 := Tryz.isAgg4
 z4 := Tryz.sizeOf4
 v4 := Tryz.zeroValue4
 t5 := Tryz.underlying5
 a5 := Tryz.isAgg5
 z5 := Tryz.sizeOf5
 v5 := Tryz.zeroValue5
 t9 := Tryz.underlying9
 a9 := Tryz.isAgg9
 z9 := Tryz.sizeOf9
 v9 := Tryz.zeroValue9
 t22 := Tryz.underlying71
 a22 := Tryz.isAgg71
 z22 := Tryz.sizeOf71
 v22 := Tryz.zeroValue71
 t25 := Tryz.underlying162
 a25 := Tryz.isAgg162
 z25 := Tryz.sizeOf162
 v25 := Tryz.zeroValue162
 t39 := Tryz.underlying167
 a39 := Tryz.isAgg167
 z39 := Tryz.sizeOf167
 v39 := Tryz.zeroValue167
 t45 := Tryz.underlying193
 a45 := Tryz.isAgg193
 z45 := Tryz.sizeOf193
 v45 := Tryz.zeroValue193
 t46 := Tryz.underlying194
 a46 := Tryz.isAgg194
 z46 := Tryz.sizeOf194
 v46 := Tryz.zeroValue194
 t50 := Tryz.underlying198
 a50 := Tryz.isAgg198
 z50 := Tryz.sizeOf198
 v50 := Tryz.zeroValue198
 t53 := Tryz.underlying201
 a53 := Tryz.isAgg201
 z53 := Tryz.sizeOf201
 v53 := Tryz.zeroValue201
 t55 := Tryz.underlying28
 a55 := Tryz.isAgg28
 z55 := Tryz.sizeOf28
 v55 := Tryz.zeroValue28
 t66 := Tryz.underlying225
 a66 := Tryz.isAgg225
 z66 := Tryz.sizeOf225
 v66 := Tryz.zeroValue225
 t70 := Tryz.underlying229
 a70 := Tryz.isAgg229
 z70 := Tryz.sizeOf229
 v70 := Tryz.zeroValue229
 t76 := Tryz.underlying245
 a76 := Tryz.isAgg245
 z76 := Tryz.sizeOf245
 v76 := Tryz.zeroValue245
 t77 := Tryz.underlying61
 a77 := Tryz.isAgg61
 z77 := Tryz.sizeOf61
 v77 := Tryz.zeroValue61 }
end Go.Proofs
namespace Go.Proofs
open Go.Shelf Go.Proofs.YtcomiiakkhafpaaGreat.Am
def Tryz.layComp_ren : Go.Shelf.Ren := ⟨fun | 43 => 126 | n => n, fun | 0 => 0 | 3 => 3 | 4 => 4 | 22 => 71 | 23 => 58 | n => n, fun | n => n⟩
theorem Tryz.layComp : CompL Tryz.prog Tryz.layComp_ren := {
 mixed := by kernel_rfl
 f43 := ⟨Tryz.f126.name, by decide, Tryz.func126.trans (congrArg some (by kernel_rfl))⟩
 t0 := Tryz.underlying0
 a0 := Tryz.isAgg0
 z0 := Tryz.sizeOf0
 v0 := Tryz.zeroValue0
 t3 := Tryz.underlying3
 a3 := Tryz.isAgg3
 z3 := Tryz.sizeOf3
 v3 := Tryz.zeroValue3
 t4 := Tryz.underlying4
 a4 := Tryz.isAgg4
 z4 := Tryz.sizeOf4
 v4 := Tryz.zeroValue4
 t22 := Tryz.underlying71
 a22 := Tryz.isAgg71
 z22 := Tryz.sizeOf71
 v22 := Tryz.zeroValue71 }
end Go.Proofs

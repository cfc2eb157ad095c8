/-
  THE ENGINE, part 5: an abstract machine of symbolic values, each step proved sound.
-/
import Derived.Test.YtnkbkfjgbejhfaaGreatBm3
import Derived.Shelf.SlSortCmp.WholeK
import Derived.Test.YtnkbkfjgbejhfaaGreatBm4
set_option linter.unusedSimpArgs false
set_option linter.unusedSectionVars false
set_option linter.unusedVariables false
namespace Go.Proofs.YtnkbkfjgbejhfaaGreat.Am
variable [Inhabited DRT]
open Go.RowKit (Below)
open Go.Proofs Go.Shelf Go.Sort Go.Lib

/-! ### slices.SortFunc on a row of ours whose cells are numbers -/
section
variable {α : Type} [Inhabited α]
/-- The sorted row (the library's own order of equals). -/
def srt (cf : α → α → Int) (l : List α) : List α := (pdq (ltOf cf) l.toArray 0 l.toArray.size (Go.Lib.bitLen l.toArray.size) true true).toList
theorem srt_facts (cf : α → α → Int) (hO : SWO (ltOf cf)) (l : List α) : (srt cf l).Perm l ∧ ∀ i j, i < j → j < l.length → ltOf cf ((srt cf l).getD j default) ((srt cf l).getD i default) = false := by
 obtain ⟨⟨h1, h2, h3⟩, h4⟩ := pdq_sorts (ltOf cf) hO l.toArray 0 l.toArray.size (Go.Lib.bitLen l.toArray.size) true true (Nat.zero_le _) (Nat.le_refl _) (Or.inl rfl)
 constructor
 ·have e1 : ∀ d : Array α, (d.extract 0 d.size).toList = d.toList := fun d => by simp
  rw [e1] at h3
  have : ∀ d : Array α, d.size = l.toArray.size → d.extract 0 l.toArray.size = d := fun d h => by rw [← h]; simp
  rw [this _ h1] at h3
  exact h3
 ·intro i j hij hj
  have := h4 i j (Nat.zero_le _) hij (by simpa using hj)
  have g : ∀ t, (srt cf l).getD t default = (pdq (ltOf cf) l.toArray 0 l.toArray.size (Go.Lib.bitLen l.toArray.size) true true)[t]! := by
   intro t
   unfold srt
   rw [List.getD_eq_getElem?_getD]
   simp [Array.getElem!_eq_getD, Array.getD_eq_getD_getElem?]
  rw [g, g]; exact this
theorem srt_len (cf : α → α → Int) (hO : SWO (ltOf cf)) (l : List α) : (srt cf l).length = l.length := (srt_facts cf hO l).1.length_eq
def rowE (e : α → List Int) (l : List α) : Nat → List A := fun i => (e (l.getD i default)).map fun n => .int .i64 n
def encE (e : α → List Int) (x : α) : List Value := (e x).map fun n => .int .i64 n
end

theorem bw_grow (hns : ¬ (default : DRT).ns) {w w' : World} (h : Bw w.heap.size w w') : ∃ q os', w' = grow (w.drewN q) os' := by
 refine ⟨w'.drawn - w.drawn, w'.heap.extract w.heap.size w'.heap.size, ?_⟩
 obtain ⟨heap, tape, drawn, os, output⟩ := w
 obtain ⟨heap', tape', drawn', os', output'⟩ := w'
 obtain ⟨h1, h2, h3, h4, h5, h6⟩ := h
 simp only at h1 h2 h3 h4 h5 h6
 have h6 := h6.resolve_left hns
 subst h1; subst h2; subst h3
 have e : heap' = heap ++ heap'.extract heap.size heap'.size := by
  apply Array.ext_getElem?
  intro k
  rw [Array.getElem?_append]
  split
  ·rename_i hk; exact h5 k hk
  ·rename_i hk
   rw [Array.getElem?_extract]
   by_cases hk2 : k < heap'.size
   ·rw [if_pos (by omega)]; congr 1; omega
   ·rw [Array.getElem?_eq_none (by omega)]
    split
    ·rw [Array.getElem?_eq_none (by omega)]
    ·rfl
 simp only [grow, World.drewN, World.mk.injEq, and_true, true_and]
 exact ⟨e, by omega⟩

section
variable {P : Program} {ρ : Go.Shelf.Ren} {G : GInv} {α : Type} [Inhabited α]

theorem MCalls.sortFunc (hns : ¬ (default : DRT).ns) (L : SlLaysF0.n6 P ρ) (k : Nat) (k0 : 0 < k) (aE : ∀ w, (isAgg (ρ.t 24)).run P w = .ok true w) (zE : ∀ w, (Go.sizeOf (ρ.t 24)).run P w = .ok k w)
  (e : α → List Int) (hk : ∀ x, (e x).length = k) (cf : α → α → Int) (hO : SWO (ltOf cf)) (g : FuncId) (caps : List A) (hcap : caps.any (hasOwn 4) = false)
  (hc : ∀ x y, ACalls P G g ([.agg ((e x).map fun n => .int .i64 n), .agg ((e y).map fun n => .int .i64 n)] ++ caps) (.int .i64 (cf x y)))
  (hfn : ∃ fn cd, P.funcs[ρ.f 6]? = some fn ∧ fn.body = some cd ∧ (fn.name == "runtime.NumGoroutine") = false) (ty : TypeId) (l : List α) (hl : l.length ≤ 1000000) (hne : 0 < l.length) :
  MCalls P G (ρ.f 6) [.own 1, .fn g caps] [.ghost [.own 1, .junk, .junk], .row ty k l.length (rowE e l)] (.tup []) [.ghost [.own 1, .junk, .junk], .row ty k l.length (rowE e (srt cf l))] := by
 refine ⟨hfn, ?_⟩
 intro im w vs gs ids hG hs
 have hvl : vs.length = 2 := by have := hs.len; simpa using this
 obtain ⟨v0, v1, rfl⟩ : ∃ v0 v1, vs = [v0, v1] := by
  match vs, hvl with
  | [a, b], _ => exact ⟨a, b, rfl⟩
 have r0 : Rel ids _ w (.own 1) v0 := hs.slots 0 (by simp) (by simp)
 have r1 : Rel ids _ w (.fn g caps) v1 := hs.slots 1 (by simp) (by simp)
 have hml : ids.length = 2 := by have := hs.mlen; simpa using this
 have hB1 := hs.blks 1 (by simp) (by omega)
 simp only [List.getElem_cons_succ, List.getElem_cons_zero] at hB1
 obtain ⟨p, cap, hid, hcap1, hcap2, rfl⟩ : ∃ p cap, ids[1]? = some (.lv p) ∧ (p.n ≤ cap ∧ cap ≤ maxLen) ∧ cap * p.sz = p.k ∧ v0 = .slice (some ⟨p.blk, 0, none⟩) p.n cap := by
  rcases hs.own_at r0 (by simp) with ⟨h1, _⟩ | h
  ·rw [List.getElem?_eq_getElem (by omega)] at h1
   rw [Option.some.inj h1] at hB1
   have : l.length = 0 := hB1
   omega
  ·exact h
 have hid1 : ids[1]'(by omega) = .lv p := by rw [List.getElem?_eq_getElem (by omega)] at hid; exact Option.some.inj hid
 rw [hid1] at hB1
 obtain ⟨g1, g2, cur, g3, g4, g5, g6, g7⟩ := hB1
 obtain ⟨us, rfl, hul, hur⟩ := r1.fn_inv
 rw [g2]
 have hpf := hs.freshX p (List.mem_of_getElem? hid) p.blk (.inl rfl)
 have hmu : muOf ids p.blk := ⟨p, List.mem_of_getElem? hid, .inl rfl⟩
 have hek : ∀ x, (encE e x).length = k := fun x => by simp [encE, hk]
 have he1 : ∀ x, ∀ v ∈ encE e x, v.oneCell' = true := fun x v hv => by
  simp only [encE, List.mem_map] at hv; obtain ⟨n, _, rfl⟩ := hv; rfl
 have hcur : ∀ t, t < l.length * k → cur[t]? = some ((encE e (l.getD (t / k) default)).getD (t % k) undef) := by
  intro t ht
  obtain ⟨q1, q2, q3⟩ := divmod ht rfl rfl
  have hlt : t < cur.size := by omega
  have hrl : (rowE e l (t / k)).length = k := g6 _ q1
  have := (g7 (t / k) (t % k) q1 (by rw [hrl]; exact q2) (by rw [q3]; exact hlt)).1
  simp only [q3] at this
  have hke : t % k < (e (l.getD (t / k) default)).length := by rw [hk]; exact q2
  have e1 : (rowE e l (t / k))[t % k]'(by rw [hrl]; exact q2) = .int .i64 ((e (l.getD (t / k) default))[t % k]) := by simp only [rowE, List.getElem_map]
  rw [e1] at this
  have hv : cur[t] = .int .i64 ((e (l.getD (t / k) default))[t % k]) := by
   generalize cur[t] = vv at this
   cases this; rfl
  rw [Array.getElem?_eq_getElem hlt, hv]
  have hke2 : t % k < (encE e (l.getD (t / k) default)).length := by rw [hek]; exact q2
  rw [List.getD_eq_getElem?_getD (l := encE e (l.getD (t / k) default)), List.getElem?_eq_getElem hke2, Option.getD_some]
  simp only [encE, List.getElem_map]
 have hget : ∀ i, l.toArray[i]! = l.getD i default := fun i => by
  rw [List.getD_eq_getElem?_getD]; simp [Array.getElem!_eq_getD, Array.getD_eq_getD_getElem?]
 have hH : HoldsK (encE e) k w p.blk 0 l.toArray := by
  intro j hj
  rw [size_flatK] at hj
  have hj : j < l.length * k := by simpa using hj
  constructor
  ·rw [Nat.zero_add, cell_of_row w p.blk j cur ty (0, 0) g3, hcur j hj, id, get_flatK _ _ _ _ (by simpa using hj), hget]
   obtain ⟨q1, q2, q3⟩ := divmod hj rfl rfl
   have : j % k < (encE e (l.getD (j / k) default)).length := by rw [hek]; exact q2
   rw [List.getD_eq_getElem?_getD (l := encE e (l.getD (j / k) default)), List.getElem?_eq_getElem this, Option.getD_some, getElem!_pos (encE e (l.getD (j / k) default)) _ this]
  ·unfold World.frozen?
   simp only [g3]
   simp
 have hG0 := hG.1
 have hWold : ∀ (m : Nat) (dk : Array α) (os : Array Obj) (b : Nat), b < w.heap.size → b ≠ p.blk → (sortWorldK (encE e) k w p.blk 0 m dk os).heap[b]? = w.heap[b]? := by
  intro m dk os b hb hbp
  unfold sortWorldK
  rw [heap_grow_old _ _ (by show b < (putRowK (encE e) k (Go.Sort.ahead w m) p.blk 0 dk).heap.size; rw [size_putRowK]; exact hb)]
  show ((Go.Sort.ahead w m).heap.modify p.blk _)[b]? = _
  rw [Array.getElem?_modify, if_neg (fun h => hbp h.symm)]; rfl
 have hcmp : CmpLays P g us.toArray (encE e) k cf p.blk 0 l.toArray.size w := by
  intro m os dk hdk x y
  have hsz := size_sortWorldK_c (encE e) k w p.blk 0 m dk os
  have := (hc x y).2 (imOf ⟨w, im, muOf ids, gs⟩ ids w) (sortWorldK (encE e) k w p.blk 0 m dk os) ([.agg (encE e x).toArray, .agg (encE e y).toArray] ++ us) (fun b hb => Nat.lt_of_lt_of_le (imOf_lt hs hb) hsz) ?_ (by simp [hul]) ?_
  ·refine Calls_mono (by simpa using this) ?_
   rintro e' w' ⟨v, rfl, hv, hb⟩
   cases hv
   exact ⟨rfl, bw_grow hns hb⟩
  ·refine G.st w _ hG0 hsz (fun b hb => hWold m dk os b (Nat.lt_of_lt_of_le hb (G.lt _ hG0)) ?_)
   intro e'; have := hG.2 p.blk hmu; omega
  ·have inum : ∀ (x : α) (im' : Nat → Prop) (W : World), RelI im' W (.agg ((e x).map fun n => .int .i64 n)) (.agg (encE e x).toArray) := by
    intro x im' W
    refine .agg _ _ (by simp [encE]) (fun v hv => he1 x v hv) (fun j h h' => ?_)
    simp only [encE, List.getElem_map]; exact .int _ _
   intro j h h'
   rcases j with _ | _ | j
   ·exact inum x _ _
   ·exact inum y _ _
   ·have hj : j < caps.length := by simpa using h
    have := hur j hj (by omega)
    have hown : hasOwn 4 caps[j] = false := by
     have := List.any_eq_false.1 hcap _ (List.getElem_mem hj)
     simpa using this
    have := hasOwn_rel (ids := ids) 4 _ _ hown this
    refine (this.mono (fun _ h => h) (fun b hb => hWold m dk os b (imOf_lt hs hb) ?_))
    intro e'
    subst e'
    rcases hb with hb | ⟨_, _, hb⟩
    ·exact hs.im0new hb hpf.1
    ·exact hb p (List.mem_of_getElem? hid) (.inl rfl)
 have eg : ∀ args w, (callFunc g args).run P w = .ok (.enter g args) w := by
  intro args w
  obtain ⟨fn, cd, h1, h2, h3⟩ := (hc default default).1
  have h4 : ¬ fn.name = "runtime.NumGoroutine" := by simpa using h3
  simp [callFunc, h1, h2, h4]
 have hmain := AnyQ.slices_SortFunc_eq L k aE zE (encE e) hek he1 cf hO g us.toArray p.blk 0 cap l.toArray w eg hcmp hH hpf.2 (by simp; omega)
 refine Calls_mono (by simpa using hmain) ?_
 rintro e' w' ⟨rfl, n, os, hw'⟩
 refine ⟨.tuple #[], ids, rfl, ?_⟩
 have hd' : (pdq (ltOf cf) l.toArray 0 l.toArray.size (Go.Lib.bitLen l.toArray.size) true true).size = l.length := by
  have := srt_len cf hO l
  unfold srt at this; simpa using this
 obtain ⟨d', hdd⟩ : ∃ d', d' = pdq (ltOf cf) l.toArray 0 l.toArray.size (Go.Lib.bitLen l.toArray.size) true true := ⟨_, rfl⟩
 have hsrt : ∀ i, (srt cf l).getD i default = d'[i]! := by
  intro i
  unfold srt
  rw [← hdd, List.getD_eq_getElem?_getD]
  simp [Array.getElem!_eq_getD, Array.getD_eq_getD_getElem?]
 have hw' : w' = sortWorldK (encE e) k w p.blk 0 n d' os := by rw [hw', hdd]; simp
 rw [← hdd] at hd'
 have hsz : w.heap.size ≤ w'.heap.size := by rw [hw']; exact size_sortWorldK_c (encE e) k w p.blk 0 n d' os
 have hoth : ∀ b, b < w.heap.size → b ≠ p.blk → w'.heap[b]? = w.heap[b]? := fun b h1 h2 => by rw [hw']; exact hWold n d' os b h1 h2
 have hown1 : w'.heap[p.blk]? = some (.cells (putCells id 0 (flatK (encE e) k d') cur) ty (0, 0)) := by
  rw [hw']
  unfold sortWorldK
  rw [heap_grow_old _ _ (by show p.blk < (putRowK (encE e) k (Go.Sort.ahead w n) p.blk 0 d').heap.size; rw [size_putRowK]; exact hpf.2)]
  show ((Go.Sort.ahead w n).heap.modify p.blk _)[p.blk]? = _
  rw [Array.getElem?_modify, if_pos rfl]
  show Option.map _ (w.heap[p.blk]?) = _
  rw [g3]; rfl
 have hbl : ∀ b, b < w.heap.size → (∀ (b' : Nat) (q : Id), ids[b']? = some (.lv q) → ¬ q.has b) → w'.heap[b]? = w.heap[b]? := fun b h1 h2 => hoth b h1 (fun e => h2 1 p hid (.inl e))
 have hown : ∀ q, IdE.lv q ∈ ids → ∀ x, q.has x → x < w'.heap.size ∧ (w.heap.size ≤ x ∨ ∃ (b : Nat) (p : Id), ids[b]? = some (.lv p) ∧ p.has x) := by
  intro q hq x hx
  obtain ⟨i, hi⟩ := List.getElem?_of_mem hq
  exact ⟨Nat.lt_of_lt_of_le (hs.freshX q hq x hx).2 hsz, .inr ⟨i, q, hi, hx⟩⟩
 have hdrw : drLe w.drawn w'.drawn := .of (by rw [hw']; exact Nat.le_add_right _ _)
 obtain ⟨hi1, hi2⟩ := hs.im_stays (w' := w') (ids' := ids) hsz hbl hown
 have hs2 : Sim ⟨w, im, muOf ids, gs⟩ [.junk, .junk] [.ghost [.own 1, .junk, .junk], .row ty k l.length (rowE e (srt cf l))] ⟨[.slice (some ⟨p.blk, 0, none⟩) p.n cap, .func (.func g) #[] us.toArray].toArray, []⟩ w' ids := by
  refine hs.goOn (hdr := hdrw) (by rw [hw']; rfl) (by rw [hw']; rfl) (by rw [hw']; rfl) hsz hbl hown (fun _ h => h) hs.distinctX rfl (by simpa using hml) ?_ ?_
  ·intro i h h'
   rcases i with _ | _ | i
   ·exact .imm (.junk _)
   ·exact .imm (.junk _)
   ·simp at h
    omega
  ·intro b h h'
   rcases b with _ | _ | b
   ·have hB0 := hs.blks 0 (by simp) (by omega)
    refine hB0.mono hi1 hi2 (fun _ _ h _ => h) ?_
    intro q hq x hx
    rw [hq] at hB0
    exact hB0.elim
   ·simp only [List.getElem_cons_succ, List.getElem_cons_zero, hid1]
    refine ⟨g1, g2, _, hown1, by simp [putCells, g4], g5, fun i _ => by simp [rowE, hk], ?_⟩
    intro i j hi hj hj'
    have hjk : j < k := by simpa [rowE, hk] using hj
    have hlt : i * k + j < l.length * k := by
     have := Nat.mul_le_mul_right k (show i + 1 ≤ l.length from hi)
     rw [Nat.add_mul] at this; omega
    have hfs : (flatK (encE e) k d').size = l.length * k := by rw [size_flatK, hd']
    have hv : (putCells id 0 (flatK (encE e) k d') cur)[i * k + j] = .int .i64 ((e ((srt cf l).getD i default))[j]'(by rw [hk]; exact hjk)) := by
     simp only [putCells, Array.getElem_mapIdx, hfs]
     rw [if_pos ⟨Nat.zero_le _, by omega⟩, Nat.sub_zero, id, get_flatK _ _ _ _ (by rw [hd']; exact hlt)]
     have e1 : (i * k + j) / k = i := by rw [Nat.mul_comm, Nat.mul_add_div k0, Nat.div_eq_of_lt hjk]; simp
     have e2 : (i * k + j) % k = j := by rw [Nat.mul_comm, Nat.mul_add_mod, Nat.mod_eq_of_lt hjk]
     rw [e1, e2, ← hsrt]
     have : j < (encE e ((srt cf l).getD i default)).length := by rw [hek]; exact hjk
     rw [getElem!_pos (encE e ((srt cf l).getD i default)) j this]
     simp only [encE, List.getElem_map]
    rw [hv]
    refine ⟨?_, rfl⟩
    simp only [rowE, List.getElem_map]
    exact .int _ _
   ·simp at h
    omega
 refine ⟨rfl, rfl, ?_, hs2.mlen, hs2.blks, hs2.distinctX, hs2.freshX, hs2.frame, hs2.im0lt, hs2.gho⟩
 intro i h h'
 rcases i with _ | i
 ·exact .imm (.tup [] [] rfl (fun _ h => by simp at h))
 ·simp at h
end
end Go.Proofs.YtnkbkfjgbejhfaaGreat.Am
namespace Go.Proofs.YtnkbkfjgbejhfaaGreat.Am
abbrev drF : Inhabited DRT := ⟨⟨False⟩⟩
end Go.Proofs.YtnkbkfjgbejhfaaGreat.Am
namespace Go.Proofs.YtnkbkfjgbejhfaaGreat.Am
/-! ### Contracts with blocks, too, hold where draws are not told -/
theorem mcalls_lift {i j : Inhabited DRT} {P : Program} {G : GInv} {f : FuncId} {args : List A} {mi : List Blk} {r : A} {mo : List Blk} (h : (@default DRT j).ns) (c : @MCalls i P G f args mi r mo) : @MCalls j P G f args mi r mo := by
 refine And.intro c.1 (fun im w vs gs ids hG hs => Calls_mono (c.2 im w vs gs ids hG ?_) ?_)
 ·cases hs with
  | mk a b c d e f g h2 k l => exact @Sim.mk i _ _ _ _ _ _ a b c d e f g (@Fr.refl i w im (muOf ids) gs) k l
 ·rintro e w' ⟨v, ids', e1, hs'⟩
  refine ⟨v, ids', e1, ?_⟩
  cases hs' with
  | mk a b c d e f g h2 k l =>
   refine @Sim.mk j _ _ _ _ _ _ a b c d e f g ?_ k l
   cases h2 with
   | mk o1 o2 o3 o4 o5 o6 => exact @Fr.mk j _ _ o1 o2 o3 o4 o5 (Or.inl h)
end Go.Proofs.YtnkbkfjgbejhfaaGreat.Am

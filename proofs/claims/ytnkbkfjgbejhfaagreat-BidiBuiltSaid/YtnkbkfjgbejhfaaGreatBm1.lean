/-
  THE ENGINE, part 1: an abstract machine of symbolic values, each step proved sound.
-/
import Derived.Calls
import Derived.Tactics
import Derived.Below
import Derived.Laws.Sem
import Derived.WalkKit
import Derived.Laws.StructEq
import Derived.ChangeKeysEq
import Derived.Laws.CopyRow
import Derived.Laws.Cells
import Derived.Laws.Slices
import Derived.Laws.AppendOwn
import Derived.Laws.OwnMore
import Derived.Laws.MakeOwn
set_option linter.unusedSimpArgs false
set_option linter.unusedSectionVars false
set_option linter.unusedVariables false
namespace Go.Proofs.YtnkbkfjgbejhfaaGreat.Am
open Go.RowKit (Below)

/-! ### Keys of maps: cells, and their kinds -/
inductive KC where
 | int (n : Int)
 | bool (b : Bool)
 | str (s : List UInt8)
 deriving DecidableEq
inductive KS where
 | int (k : IntKind)
 | bool
 | str
def kV1 : KS → KC → Value
 | .int k, .int n => .int k n
 | .bool, .bool b => .bool b
 | .str, .str s => .string ⟨s.toArray⟩
 | _, _ => .tuple #[]
def kOk : List KS → List KC → Prop
 | [], [] => True
 | .int _ :: ss, .int _ :: ks => kOk ss ks
 | .bool :: ss, .bool _ :: ks => kOk ss ks
 | .str :: ss, .str _ :: ks => kOk ss ks
 | _, _ => False
def kVs : List KS → List KC → List Value
 | s :: ss, k :: ks => kV1 s k :: kVs ss ks
 | _, _ => []
def kV (agg : Bool) (ss : List KS) (ks : List KC) : Value :=
 match agg with
 | true => .agg (kVs ss ks).toArray
 | false => (kVs ss ks).getD 0 undef

/-! ### Abstract values -/
inductive A where
 | int (k : IntKind) (n : Int)
 | bool (b : Bool)
 | sb (b : Bool)
 | str (s : List UInt8)
 | nilp
 | ref (b off : Nat)
 | oref (b i off : Nat)
 | bref (cs : List A) (off : Nat)
 | nils
 | sl (n sz : Nat) (row : Nat → List A)
 | own (b : Nat)
 | agg (cs : List A)
 | tup (vs : List A)
 | fn (f : FuncId) (cap : List A)
 | nilfn
 | nilm
 | mv (agg : Bool) (sh : List KS) (has : List KC → Bool) (val : List KC → A)
 | omap (b : Nat)
 | ent (b : Nat) (k : List KC)
 | osl (b k : Nat)
 | junk
instance : Inhabited A := ⟨.junk⟩
inductive Blk where
 | box (ty : TypeId) (cs : List A)
 | row (ty : TypeId) (sz n : Nat) (row : Nat → List A)
 | nest (ty ety : TypeId) (sz n : Nat) (hole : Option Nat) (len : Nat → Nat) (row : Nat → Nat → List A)
 | mapb (agg : Bool) (sh : List KS) (has : List KC → Bool) (val : List KC → A)
 | mapx (agg : Bool) (sh : List KS) (has : List KC → Bool) (val : List KC → A)
 | mit (agg : Bool) (sh : List KS) (has : List KC → Bool) (val : List KC → A) (seen : List (List KC))
 | mgrid (ty : TypeId) (agg : Bool) (sh : List KS) (n hi : Nat) (cs : List A) (ini : Nat → Nat) (has : Nat → List KC → Bool) (val : Nat → List KC → A)
 | rowE (ty : TypeId) (sz n : Nat) (Φ : (Nat → List A) → Prop)
 | ghost (cs : List A)
 | gone
 | dead
instance : Inhabited Blk := ⟨.dead⟩

def oneV (v : Value) : Prop := v.oneCell' = true

inductive RelI (im : Nat → Prop) (w : World) : A → Value → Prop
 | int (k : IntKind) (n : Int) : RelI im w (.int k n) (.int k n)
 | bool (b : Bool) : RelI im w (.bool b) (.bool b)
 | sb (b : Bool) : RelI im w (.sb b) (.bool b)
 | str (s : List UInt8) : RelI im w (.str s) (.string ⟨s.toArray⟩)
 | nilp : RelI im w .nilp (.pointer none)
 | bref (blk base off : Nat) (cs : List A) (vs : Nat → Value) (hb : im blk)
   (hc : ∀ j, j < cs.length → w.cell? ⟨blk, base + j, none⟩ = some (vs j))
   (ho : ∀ j, j < cs.length → oneV (vs j))
   (hr : ∀ j (h : j < cs.length), RelI im w cs[j] (vs j)) : RelI im w (.bref cs off) (.pointer (some ⟨blk, base + off, none⟩))
 | nils : RelI im w .nils (.slice none 0 0)
 | sl0 (sz : Nat) (row : Nat → List A) : RelI im w (.sl 0 sz row) (.slice none 0 0)
 | sle (sz : Nat) (row : Nat → List A) (ad : Addr) (cap : Nat) : RelI im w (.sl 0 sz row) (.slice (some ad) 0 cap)
 | sl (n sz : Nat) (row : Nat → List A) (blk base cap : Nat) (vs : Nat → Nat → Value) (hb : im blk) (hcap : n ≤ cap)
   (hl : ∀ i, i < n → (row i).length = sz)
   (hc : ∀ i j, i < n → j < sz → w.cell? ⟨blk, base + i * sz + j, none⟩ = some (vs i j))
   (ho : ∀ i j, i < n → j < sz → oneV (vs i j))
   (hr : ∀ i j, i < n → ∀ (h : j < (row i).length), RelI im w (row i)[j] (vs i j)) :
   RelI im w (.sl n sz row) (.slice (some ⟨blk, base, none⟩) n cap)
 | agg (cs : List A) (vs : List Value) (hl : vs.length = cs.length) (ho : ∀ v ∈ vs, oneV v)
   (hr : ∀ j (h : j < cs.length) (h' : j < vs.length), RelI im w cs[j] vs[j]) : RelI im w (.agg cs) (.agg vs.toArray)
 | tup (cs : List A) (vs : List Value) (hl : vs.length = cs.length)
   (hr : ∀ j (h : j < cs.length) (h' : j < vs.length), RelI im w cs[j] vs[j]) : RelI im w (.tup cs) (.tuple vs.toArray)
 | fn (f : FuncId) (cs : List A) (vs : List Value) (hl : vs.length = cs.length)
   (hr : ∀ j (h : j < cs.length) (h' : j < vs.length), RelI im w cs[j] vs[j]) : RelI im w (.fn f cs) (.func (.func f) #[] vs.toArray)
 | nilfn : RelI im w .nilfn .nilFunc
 | nilm : RelI im w .nilm (.map none)
 | mv (agg : Bool) (sh : List KS) (has : List KC → Bool) (val : List KC → A) (r : Nat) (es : Array MapEntry) (clock : Nat) (f : Nat → List KC) (hb : im r) (hh : w.heap[r]? = some (.map es clock))
   (hk : ∀ i (h : i < es.size), kOk sh (f i) ∧ es[i].key = kV agg sh (f i) ∧ has (f i) = true) (hd : ∀ i j, i < es.size → j < es.size → f i = f j → i = j) (hc : ∀ k, kOk sh k → has k = true → ∃ i, i < es.size ∧ f i = k)
   (hv : ∀ i (h : i < es.size), RelI im w (val (f i)) es[i].val)
   (hbn : ∀ i (h : i < es.size), es[i].born < clock) (hbu : ∀ i j (h : i < es.size) (h' : j < es.size), es[i].born = es[j].born → i = j) : RelI im w (.mv agg sh has val) (.map (some r))
 | junk (v : Value) : RelI im w .junk v

structure Id where
 blk : Nat
 k : Nat
 n : Nat
 sz : Nat
 kid : Nat → Prop := fun _ => False
 hist : Nat → Option (List KC) := fun _ => none
def Id.has (p : Id) (x : Nat) : Prop := x = p.blk ∨ p.kid x
inductive IdE where
 | dead
 | stale
 | virt
 | lv (p : Id)
 | gho (vs : List Value)
abbrev Ids := List IdE

inductive Rel (ids : Ids) (im : Nat → Prop) (w : World) : A → Value → Prop
 | imm {a : A} {v : Value} (h : RelI im w a v) : Rel ids im w a v
 | ref (b off : Nat) (p : Id) (h : ids[b]? = some (.lv p)) : Rel ids im w (.ref b off) (.pointer (some ⟨p.blk, off, none⟩))
 | oref (b i off : Nat) (p : Id) (h : ids[b]? = some (.lv p)) : Rel ids im w (.oref b i off) (.pointer (some ⟨p.blk, i * p.sz + off, none⟩))
 | own0 (b : Nat) (h : ids[b]? = some .virt) : Rel ids im w (.own b) (.slice none 0 0)
 | own (b cap : Nat) (p : Id) (h : ids[b]? = some (.lv p)) (hn : p.n ≤ cap ∧ cap ≤ maxLen) (hm : cap * p.sz = p.k) :
   Rel ids im w (.own b) (.slice (some ⟨p.blk, 0, none⟩) p.n cap)
 | refS (b off x y : Nat) (h : ids[b]? = some .stale) : Rel ids im w (.ref b off) (.pointer (some ⟨x, y, none⟩))
 | orefS (b i off x y : Nat) (h : ids[b]? = some .stale) : Rel ids im w (.oref b i off) (.pointer (some ⟨x, y, none⟩))
 | omapS (b x : Nat) (h : ids[b]? = some .stale) : Rel ids im w (.omap b) (.map (some x))
 | ownS (b : Nat) (x : Option Addr) (n cap : Nat) (h : ids[b]? = some .stale) : Rel ids im w (.own b) (.slice x n cap)
 | omap (b : Nat) (p : Id) (h : ids[b]? = some (.lv p)) : Rel ids im w (.omap b) (.map (some p.blk))
 | ent (b : Nat) (k : List KC) (p : Id) (n : Nat) (h : ids[b]? = some (.lv p)) (hn : p.hist n = some k) : Rel ids im w (.ent b k) (.int .i64 n)
 | entS (b : Nat) (k : List KC) (n : Int) (h : ids[b]? = some .stale) : Rel ids im w (.ent b k) (.int .i64 n)
 | osl (b k cap x : Nat) (p : Id) (h : ids[b]? = some (.lv p)) (hx : k < p.n → x = k * p.sz) : Rel ids im w (.osl b k) (.slice (some ⟨p.blk, x, none⟩) (p.n - k) cap)
 | osl0 (b k : Nat) (h : ids[b]? = some .virt) : Rel ids im w (.osl b k) (.slice none 0 0)
 | oslS (b k : Nat) (x : Option Addr) (n cap : Nat) (h : ids[b]? = some .stale) : Rel ids im w (.osl b k) (.slice x n cap)
 | agg (cs : List A) (vs : List Value) (hl : vs.length = cs.length) (ho : ∀ v ∈ vs, oneV v)
   (hr : ∀ j (h : j < cs.length) (h' : j < vs.length), Rel ids im w cs[j] vs[j]) : Rel ids im w (.agg cs) (.agg vs.toArray)
 | tup (cs : List A) (vs : List Value) (hl : vs.length = cs.length)
   (hr : ∀ j (h : j < cs.length) (h' : j < vs.length), Rel ids im w cs[j] vs[j]) : Rel ids im w (.tup cs) (.tuple vs.toArray)
 | fn (f : FuncId) (cs : List A) (vs : List Value) (hl : vs.length = cs.length)
   (hr : ∀ j (h : j < cs.length) (h' : j < vs.length), Rel ids im w cs[j] vs[j]) : Rel ids im w (.fn f cs) (.func (.func f) #[] vs.toArray)

section
variable {im im' : Nat → Prop} {w w' : World} {ids ids' : Ids}

theorem cell_same {b : Nat} (h : w'.heap[b]? = w.heap[b]?) (o : Nat) : w'.cell? ⟨b, o, none⟩ = w.cell? ⟨b, o, none⟩ := by
 unfold World.cell?; simp only [h]

theorem RelI.mono (hi : ∀ b, im b → im' b) (hw : ∀ b, im b → w'.heap[b]? = w.heap[b]?) {a : A} {v : Value} (h : RelI im w a v) : RelI im' w' a v := by
 induction h with
 | int k n => exact .int k n
 | bool b => exact .bool b
 | sb b => exact .sb b
 | str s => exact .str s
 | nilp => exact .nilp
 | bref blk base off cs vs hb hc ho hr ih => exact .bref blk base off cs vs (hi _ hb) (fun j hj => by rw [cell_same (hw _ hb)]; exact hc j hj) ho ih
 | nils => exact .nils
 | sl0 sz row => exact .sl0 sz row
 | sle sz row ad cap => exact .sle sz row ad cap
 | sl n sz row blk base cap vs hb hcap hl hc ho hr ih => exact .sl n sz row blk base cap vs (hi _ hb) hcap hl (fun i j h1 h2 => by rw [cell_same (hw _ hb)]; exact hc i j h1 h2) ho ih
 | agg cs vs hl ho hr ih => exact .agg cs vs hl ho ih
 | tup cs vs hl hr ih => exact .tup cs vs hl ih
 | fn f cs vs hl hr ih => exact .fn f cs vs hl ih
 | nilfn => exact .nilfn
 | nilm => exact .nilm
 | mv agg sh has val r es clock f hb hh hk hd hc hv hbn hbu ihv => exact .mv agg sh has val r es clock f (hi _ hb) (by rw [hw _ hb]; exact hh) hk hd hc ihv hbn hbu
 | junk v => exact .junk v

theorem Rel.mono (hi : ∀ b, im b → im' b) (hw : ∀ b, im b → w'.heap[b]? = w.heap[b]?) (hd : ∀ (b : Nat) p, ids[b]? = some p → p ≠ .dead → ids'[b]? = some p)
  {a : A} {v : Value} (h : Rel ids im w a v) : Rel ids' im' w' a v := by
 induction h with
 | imm h => exact .imm (h.mono hi hw)
 | ref b off p h => exact .ref b off p (hd _ _ h (by simp))
 | oref b i off p h => exact .oref b i off p (hd _ _ h (by simp))
 | own0 b h => exact .own0 b (hd _ _ h (by simp))
 | own b cap p h hn hm => exact .own b cap p (hd _ _ h (by simp)) hn hm
 | ownS b x n cap h => exact .ownS b x n cap (hd _ _ h (by simp))
 | refS b off x y h => exact .refS b off x y (hd _ _ h (by simp))
 | orefS b i off x y h => exact .orefS b i off x y (hd _ _ h (by simp))
 | omapS b x h => exact .omapS b x (hd _ _ h (by simp))
 | omap b p h => exact .omap b p (hd _ _ h (by simp))
 | ent b k p n h hn => exact .ent b k p n (hd _ _ h (by simp)) hn
 | entS b k n h => exact .entS b k n (hd _ _ h (by simp))
 | osl b k cap x p h hx => exact .osl b k cap x p (hd _ _ h (by simp)) hx
 | osl0 b k h => exact .osl0 b k (hd _ _ h (by simp))
 | oslS b k x n cap h => exact .oslS b k x n cap (hd _ _ h (by simp))
 | agg cs vs hl ho hr ih => exact .agg cs vs hl ho ih
 | tup cs vs hl hr ih => exact .tup cs vs hl ih
 | fn f cs vs hl hr ih => exact .fn f cs vs hl ih

theorem Rel.int_inv {k : IntKind} {n : Int} {v : Value} (h : Rel ids im w (.int k n) v) : v = .int k n := by
 cases h with | imm h => cases h; rfl
theorem Rel.bool_inv {b : Bool} {v : Value} (h : Rel ids im w (.bool b) v) : v = .bool b := by
 cases h with | imm h => cases h; rfl
theorem Rel.sb_inv {b : Bool} {v : Value} (h : Rel ids im w (.sb b) v) : v = .bool b := by
 cases h with | imm h => cases h; rfl
theorem Rel.str_inv {s : List UInt8} {v : Value} (h : Rel ids im w (.str s) v) : v = .string ⟨s.toArray⟩ := by
 cases h with | imm h => cases h; rfl
theorem Rel.nilp_inv {v : Value} (h : Rel ids im w .nilp v) : v = .pointer none := by
 cases h with | imm h => cases h; rfl
theorem Rel.nils_inv {v : Value} (h : Rel ids im w .nils v) : v = .slice none 0 0 := by
 cases h with | imm h => cases h; rfl
theorem Rel.ref_inv {b off : Nat} {v : Value} (h : Rel ids im w (.ref b off) v) : (∃ p, ids[b]? = some (.lv p) ∧ v = .pointer (some ⟨p.blk, off, none⟩)) ∨ (ids[b]? = some .stale ∧ ∃ x y, v = .pointer (some ⟨x, y, none⟩)) := by
 cases h with
 | imm h => cases h
 | ref _ _ p h => exact .inl ⟨p, h, rfl⟩
 | refS _ _ x y h => exact .inr ⟨h, x, y, rfl⟩
theorem Rel.oref_inv {b i off : Nat} {v : Value} (h : Rel ids im w (.oref b i off) v) : (∃ p, ids[b]? = some (.lv p) ∧ v = .pointer (some ⟨p.blk, i * p.sz + off, none⟩)) ∨ (ids[b]? = some .stale ∧ ∃ x y, v = .pointer (some ⟨x, y, none⟩)) := by
 cases h with
 | imm h => cases h
 | oref _ _ _ p h => exact .inl ⟨p, h, rfl⟩
 | orefS _ _ _ x y h => exact .inr ⟨h, x, y, rfl⟩
theorem Rel.own_inv {b : Nat} {v : Value} (h : Rel ids im w (.own b) v) :
  (ids[b]? = some .virt ∧ v = .slice none 0 0) ∨ (∃ p cap, ids[b]? = some (.lv p) ∧ (p.n ≤ cap ∧ cap ≤ maxLen) ∧ cap * p.sz = p.k ∧ v = .slice (some ⟨p.blk, 0, none⟩) p.n cap) ∨
   (ids[b]? = some .stale ∧ ∃ x n cap, v = .slice x n cap) := by
 cases h with
 | imm h => cases h
 | own0 _ h => exact .inl ⟨h, rfl⟩
 | own _ cap p h hn hm => exact .inr (.inl ⟨p, cap, h, hn, hm, rfl⟩)
 | ownS _ x n cap h => exact .inr (.inr ⟨h, x, n, cap, rfl⟩)
theorem Rel.omap_inv {b : Nat} {v : Value} (h : Rel ids im w (.omap b) v) : (∃ p, ids[b]? = some (.lv p) ∧ v = .map (some p.blk)) ∨ (ids[b]? = some .stale ∧ ∃ x, v = .map (some x)) := by
 cases h with
 | imm h => cases h
 | omap _ p h => exact .inl ⟨p, h, rfl⟩
 | omapS _ x h => exact .inr ⟨h, x, rfl⟩
theorem Rel.ent_inv {b : Nat} {k : List KC} {v : Value} (h : Rel ids im w (.ent b k) v) : (∃ p n, ids[b]? = some (.lv p) ∧ p.hist n = some k ∧ v = .int .i64 (n : Nat)) ∨ (ids[b]? = some .stale ∧ ∃ n, v = .int .i64 n) := by
 cases h with
 | imm h => cases h
 | ent _ _ p n h hn => exact .inl ⟨p, n, h, hn, rfl⟩
 | entS _ _ n h => exact .inr ⟨h, n, rfl⟩
theorem Rel.osl_inv {b k : Nat} {v : Value} (h : Rel ids im w (.osl b k) v) :
  (ids[b]? = some .virt ∧ v = .slice none 0 0) ∨ (∃ p cap x, ids[b]? = some (.lv p) ∧ (k < p.n → x = k * p.sz) ∧ v = .slice (some ⟨p.blk, x, none⟩) (p.n - k) cap) ∨ (ids[b]? = some .stale ∧ ∃ x n cap, v = .slice x n cap) := by
 cases h with
 | imm h => cases h
 | osl _ _ cap x p h hx => exact .inr (.inl ⟨p, cap, x, h, hx, rfl⟩)
 | osl0 _ _ h => exact .inl ⟨h, rfl⟩
 | oslS _ _ x n cap h => exact .inr (.inr ⟨h, x, n, cap, rfl⟩)
theorem Rel.nilm_inv {v : Value} (h : Rel ids im w .nilm v) : v = .map none := by
 cases h with | imm h => cases h; rfl
theorem Rel.agg_inv {cs : List A} {v : Value} (h : Rel ids im w (.agg cs) v) :
  ∃ vs : List Value, v = .agg vs.toArray ∧ vs.length = cs.length ∧ (∀ u ∈ vs, oneV u) ∧ (∀ j (h : j < cs.length) (h' : j < vs.length), Rel ids im w cs[j] vs[j]) := by
 cases h with
 | imm h => cases h with | agg _ vs hl ho hr => exact ⟨vs, rfl, hl, ho, fun j h h' => .imm (hr j h h')⟩
 | agg _ vs hl ho hr => exact ⟨vs, rfl, hl, ho, hr⟩
theorem Rel.tup_inv {cs : List A} {v : Value} (h : Rel ids im w (.tup cs) v) :
  ∃ vs : List Value, v = .tuple vs.toArray ∧ vs.length = cs.length ∧ (∀ j (h : j < cs.length) (h' : j < vs.length), Rel ids im w cs[j] vs[j]) := by
 cases h with
 | imm h => cases h with | tup _ vs hl hr => exact ⟨vs, rfl, hl, fun j h h' => .imm (hr j h h')⟩
 | tup _ vs hl hr => exact ⟨vs, rfl, hl, hr⟩
theorem Rel.fn_inv {f : FuncId} {cs : List A} {v : Value} (h : Rel ids im w (.fn f cs) v) :
  ∃ vs : List Value, v = .func (.func f) #[] vs.toArray ∧ vs.length = cs.length ∧ (∀ j (h : j < cs.length) (h' : j < vs.length), Rel ids im w cs[j] vs[j]) := by
 cases h with
 | imm h => cases h with | fn _ _ vs hl hr => exact ⟨vs, rfl, hl, fun j h h' => .imm (hr j h h')⟩
 | fn _ _ vs hl hr => exact ⟨vs, rfl, hl, hr⟩
end

/-! ### The simulation -/
structure Ctx where
 w0 : World
 im0 : Nat → Prop
 mu : Nat → Prop := fun _ => False
 gh : List Value := []
/-- A block that the call may write: a new one, or one that it was handed. -/
def Ctx.new (c : Ctx) (b : Nat) : Prop := c.w0.heap.size ≤ b ∨ c.mu b
/-- Draws: where a sort is called they only grow; else (ns) nothing is said of them. -/
structure DRT where
 ns : Prop
variable [Inhabited DRT]
def drLe (a b : Nat) : Prop := (default : DRT).ns ∨ a ≤ b
theorem drLe.refl (a : Nat) : drLe a a := .inr (Nat.le_refl a)
theorem drLe.succ (a : Nat) : drLe a (a + 1) := .inr (Nat.le_succ a)
theorem drLe.of {a b : Nat} (h : a ≤ b) : drLe a b := .inr h
theorem drLe.trans {a b c : Nat} (h : drLe a b) (k : drLe b c) : drLe a c := by
 rcases h with h | h
 ·exact .inl h
 ·exact k.imp id (Nat.le_trans h)
/-- A world that goes on: what lies below n stays, and draws only grow. -/
structure Bw (n : Nat) (w w' : World) : Prop where
 os : w'.os = w.os
 tape : w'.tape = w.tape
 output : w'.output = w.output
 size : w.heap.size ≤ w'.heap.size
 block : ∀ k, k < n → w'.heap[k]? = w.heap[k]?
 drawn : drLe w.drawn w'.drawn
theorem Bw.below {n : Nat} {w w' : World} (h : Bw n w w') : Below n w w' := ⟨h.os, h.tape, h.output, h.size, h.block⟩
theorem Bw.refl (n : Nat) (w : World) : Bw n w w := ⟨rfl, rfl, rfl, Nat.le_refl _, fun _ _ => rfl, drLe.refl _⟩
theorem Bw.mono {n m : Nat} {w w' : World} (h : Bw n w w') (hm : m ≤ n) : Bw m w w' := ⟨h.os, h.tape, h.output, h.size, fun k hk => h.block k (Nat.lt_of_lt_of_le hk hm), h.drawn⟩
structure Fr (c : Ctx) (w : World) : Prop where
 os : w.os = c.w0.os
 tape : w.tape = c.w0.tape
 output : w.output = c.w0.output
 size : c.w0.heap.size ≤ w.heap.size
 block : ∀ k, k < c.w0.heap.size → ¬ c.mu k → w.heap[k]? = c.w0.heap[k]?
 drawn : drLe c.w0.drawn w.drawn
theorem Fr.go {c : Ctx} {w w' : World} (h : Fr c w) (h1 : w'.os = w.os) (h2 : w'.tape = w.tape) (h3 : w'.output = w.output) (h4 : w.heap.size ≤ w'.heap.size)
  (h5 : ∀ k, k < c.w0.heap.size → ¬ c.mu k → w'.heap[k]? = w.heap[k]?) (h6 : drLe w.drawn w'.drawn := by exact drLe.refl _) : Fr c w' :=
 ⟨h1.trans h.os, h2.trans h.tape, h3.trans h.output, Nat.le_trans h.size h4, fun k hk hm => (h5 k hk hm).trans (h.block k hk hm), h.drawn.trans h6⟩
theorem Fr.trans {c : Ctx} {w w' : World} (h : Fr c w) (k : Bw c.w0.heap.size w w') : Fr c w' := h.go k.os k.tape k.output k.size (fun i hi _ => k.block i hi) k.drawn
theorem Fr.refl (w : World) (im : Nat → Prop) (mu : Nat → Prop) (gh : List Value) : Fr ⟨w, im, mu, gh⟩ w := ⟨rfl, rfl, rfl, Nat.le_refl _, fun _ _ _ => rfl, drLe.refl _⟩
theorem Fr.below {c : Ctx} {w : World} (h : Fr c w) (hm : ∀ b, ¬ c.mu b) : Bw c.w0.heap.size c.w0 w := ⟨h.os, h.tape, h.output, h.size, fun k hk => h.block k hk (hm k), h.drawn⟩

def imOf (c : Ctx) (ids : Ids) (w : World) : Nat → Prop := fun b =>
 c.im0 b ∨ (c.new b ∧ b < w.heap.size ∧ ∀ p, IdE.lv p ∈ ids → ¬ p.has b)

/-- An inner row of a nest. -/
def Inner (im : Nat → Prop) (w : World) (ety : TypeId) (sz n : Nat) (row : Nat → List A) (v : Value) (x : Option Nat) : Prop :=
 (v = .slice none 0 0 ∧ n = 0 ∧ x = none) ∨
 ∃ (q cap : Nat) (vs : Array Value), v = .slice (some ⟨q, 0, none⟩) n cap ∧ x = some q ∧ w.heap[q]? = some (.cells vs ety (0, 0)) ∧ vs.size = cap * sz ∧ n ≤ cap ∧ cap ≤ maxLen ∧
  (∀ i, i < n → (row i).length = sz) ∧
  ∀ i j, i < n → ∀ (h : j < (row i).length) (h' : i * sz + j < vs.size), RelI im w (row i)[j] vs[i * sz + j] ∧ oneV vs[i * sz + j]

/-- What lies at r is a map of these entries. -/
def MapAt (im : Nat → Prop) (w : World) (agg : Bool) (sh : List KS) (has : List KC → Bool) (val : List KC → A) (r : Nat) : Prop :=
 ∃ (es : Array MapEntry) (clock : Nat) (f : Nat → List KC), w.heap[r]? = some (.map es clock) ∧
   (∀ i (h : i < es.size), kOk sh (f i) ∧ es[i].key = kV agg sh (f i) ∧ has (f i) = true) ∧ (∀ i j, i < es.size → j < es.size → f i = f j → i = j) ∧ (∀ k, kOk sh k → has k = true → ∃ i, i < es.size ∧ f i = k) ∧
   (∀ i (h : i < es.size), RelI im w (val (f i)) es[i].val) ∧ (∀ i (h : i < es.size), es[i].born < clock) ∧ ∀ i j (h : i < es.size) (h' : j < es.size), es[i].born = es[j].born → i = j
/-- A cell of a slice of maps. -/
def GCell (im : Nat → Prop) (w : World) (kid : Nat → Prop) (agg : Bool) (sh : List KS) (n hi l : Nat) (ini : Nat → Nat) (has : Nat → List KC → Bool) (val : Nat → List KC → A) (kb : Nat → Nat) (i : Nat) (v : Value) : Prop :=
 (∃ x, v = .map x) ∧ (l = 0 ∨ i ≠ hi → (ini i = 0 → v = .map none) ∧
  (ini i = 1 → v = .map (some (kb i)) ∧ kid (kb i) ∧ MapAt im w agg sh (has i) (val i) (kb i) ∧ ∀ j, j < n → (l = 0 ∨ j ≠ hi) → ini j = 1 → kb j = kb i → j = i))
def BRel (ids : Ids) (im : Nat → Prop) (w : World) : Blk → IdE → Prop
 | .dead, p => p = .dead
 | .gone, p => p = .stale
 | .box ty cs, .lv p => ∃ vs : Array Value, w.heap[p.blk]? = some (.cells vs ty (0, 0)) ∧ vs.size = p.k ∧ cs.length = p.k ∧
   ∀ j (h : j < cs.length) (h' : j < vs.size), Rel ids im w cs[j] vs[j] ∧ oneV vs[j]
 | .box _ _, _ => False
 | .row ty sz n row, .lv p => p.sz = sz ∧ p.n = n ∧ ∃ vs : Array Value, w.heap[p.blk]? = some (.cells vs ty (0, 0)) ∧ vs.size = p.k ∧ n * sz ≤ p.k ∧
   (∀ i, i < n → (row i).length = sz) ∧
   ∀ i j, i < n → ∀ (h : j < (row i).length) (h' : i * sz + j < vs.size), RelI im w (row i)[j] vs[i * sz + j] ∧ oneV vs[i * sz + j]
 | .row _ _ n _, .virt => n = 0
 | .row _ _ _ _, .dead => False
 | .row _ _ _ _, .stale => False
 | .row _ _ _ _, .gho _ => False
 | .nest ty ety sz n hole len row, .lv p => p.sz = 1 ∧ p.n = n ∧ ¬ p.kid p.blk ∧ ∃ vs : Array Value, w.heap[p.blk]? = some (.cells vs ty (0, 0)) ∧ vs.size = p.k ∧ n ≤ p.k ∧
   ∃ kb : Nat → Option Nat, ∀ i, i < n → hole ≠ some i → ∀ (h : i < vs.size), Inner im w ety sz (len i) (row i) vs[i] (kb i) ∧
    (∀ x, kb i = some x → p.kid x) ∧ ∀ j, j < n → hole ≠ some j → kb j = kb i → kb i ≠ none → j = i
 | .nest _ _ _ n _ _ _, .virt => n = 0
 | .nest _ _ _ _ _ _ _, .dead => False
 | .nest _ _ _ _ _ _ _, .stale => False
 | .nest _ _ _ _ _ _ _, .gho _ => False
 | .mapb agg sh has val, .lv p => ∃ (es : Array MapEntry) (clock : Nat) (f : Nat → List KC), w.heap[p.blk]? = some (.map es clock) ∧
   (∀ i (h : i < es.size), kOk sh (f i) ∧ es[i].key = kV agg sh (f i) ∧ has (f i) = true) ∧ (∀ i j, i < es.size → j < es.size → f i = f j → i = j) ∧ (∀ k, kOk sh k → has k = true → ∃ i, i < es.size ∧ f i = k) ∧
   (∀ i (h : i < es.size), RelI im w (val (f i)) es[i].val) ∧ (∀ i (h : i < es.size), es[i].born < clock) ∧ ∀ i j (h : i < es.size) (h' : j < es.size), es[i].born = es[j].born → i = j
 | .mapb _ _ _ _, _ => False
 | .mapx agg sh has val, .lv p => ∃ (es : Array MapEntry) (clock : Nat) (f : Nat → List KC), w.heap[p.blk]? = some (.map es clock) ∧
   (∀ i (h : i < es.size), kOk sh (f i) ∧ es[i].key = kV agg sh (f i) ∧ has (f i) = true) ∧ (∀ i j, i < es.size → j < es.size → f i = f j → i = j) ∧ (∀ k, kOk sh k → has k = true → ∃ i, i < es.size ∧ f i = k) ∧
   (∀ i (h : i < es.size), RelI im w (val (f i)) es[i].val) ∧ (∀ i (h : i < es.size), p.hist es[i].born = some (f i)) ∧ (∀ n, clock ≤ n → p.hist n = none) ∧ ∀ n k, p.hist n = some k → ∃ i, ∃ (h : i < es.size), es[i].born = n ∧ f i = k
 | .mapx _ _ _ _, _ => False
 | .mit agg sh has val seen, .lv p => ∃ (r : Nat) (es : Array MapEntry) (clock : Nat) (f : Nat → List KC) (sb : Array Nat), w.heap[p.blk]? = some (.mapIter (some r) clock sb clock) ∧ im r ∧ w.heap[r]? = some (.map es clock) ∧
   (∀ i (h : i < es.size), kOk sh (f i) ∧ es[i].key = kV agg sh (f i) ∧ has (f i) = true) ∧ (∀ i j, i < es.size → j < es.size → f i = f j → i = j) ∧ (∀ k, kOk sh k → has k = true → ∃ i, i < es.size ∧ f i = k) ∧
   (∀ i (h : i < es.size), RelI im w (val (f i)) es[i].val) ∧ (∀ i (h : i < es.size), es[i].born < clock) ∧ (∀ i j (h : i < es.size) (h' : j < es.size), es[i].born = es[j].born → i = j) ∧
   (∀ i (h : i < es.size), es[i].born ∈ sb ↔ f i ∈ seen) ∧ ∀ k, seen.getLast? = some k → ∃ i, ∃ (h : i < es.size), ∃ sb' : Array Nat, f i = k ∧ sb = sb'.push es[i].born
 | .mit _ _ _ _ _, _ => False
 | .mgrid ty agg sh n hi cs ini has val, .lv p => p.sz = 1 ∧ p.n = n ∧ ¬ p.kid p.blk ∧ ∃ vs : Array Value, w.heap[p.blk]? = some (.cells vs ty (0, 0)) ∧ vs.size = p.k ∧ n ≤ p.k ∧
   (∀ j (h : j < cs.length) (h' : hi < vs.size), Rel ids im w cs[j] vs[hi]) ∧ ∃ kb : Nat → Nat, ∀ i, i < n → ∀ (h : i < vs.size), GCell im w p.kid agg sh n hi cs.length ini has val kb i vs[i]
 | .mgrid _ _ _ n _ _ _ _ _, .virt => n = 0
 | .mgrid _ _ _ _ _ _ _ _ _, .dead => False
 | .mgrid _ _ _ _ _ _ _ _ _, .stale => False
 | .mgrid _ _ _ _ _ _ _ _ _, .gho _ => False
 | .rowE ty sz n Φ, .lv p => ∃ row, Φ row ∧ p.sz = sz ∧ p.n = n ∧ ∃ vs : Array Value, w.heap[p.blk]? = some (.cells vs ty (0, 0)) ∧ vs.size = p.k ∧ n * sz ≤ p.k ∧
   (∀ i, i < n → (row i).length = sz) ∧
   ∀ i j, i < n → ∀ (h : j < (row i).length) (h' : i * sz + j < vs.size), RelI im w (row i)[j] vs[i * sz + j] ∧ oneV vs[i * sz + j]
 | .rowE _ _ n Φ, .virt => n = 0 ∧ ∃ row, Φ row
 | .rowE _ _ _ _, .dead => False
 | .rowE _ _ _ _, .stale => False
 | .rowE _ _ _ _, .gho _ => False
 | .ghost cs, .gho vs => vs.length = cs.length ∧ ∀ j (h : j < cs.length) (h' : j < vs.length), Rel ids im w cs[j] vs[j]
 | .ghost _, _ => False

structure Sim (c : Ctx) (s : List A) (m : List Blk) (a : Act) (w : World) (ids : Ids) : Prop where
 defers : a.defers = []
 len : a.tmps.size = s.length
 slots : ∀ i (h : i < s.length) (h' : i < a.tmps.size), Rel ids (imOf c ids w) w s[i] a.tmps[i]
 mlen : ids.length = m.length
 blks : ∀ b (h : b < m.length) (h' : b < ids.length), BRel ids (imOf c ids w) w m[b] ids[b]
 distinctX : ∀ (b b' : Nat) p q x, ids[b]? = some (.lv p) → ids[b']? = some (.lv q) → p.has x → q.has x → b = b'
 freshX : ∀ p, IdE.lv p ∈ ids → ∀ x, p.has x → c.new x ∧ x < w.heap.size
 frame : Fr c w
 im0lt : ∀ b, c.im0 b → b < c.w0.heap.size ∧ ¬ c.mu b
 gho : ∀ vs, IdE.gho vs ∈ ids → vs = c.gh
section
variable {c : Ctx} {s : List A} {m : List Blk} {a : Act} {w : World} {ids : Ids}
theorem Sim.fresh (hs : Sim c s m a w ids) : ∀ p, IdE.lv p ∈ ids → c.new p.blk ∧ p.blk < w.heap.size :=
 fun p h => hs.freshX p h _ (.inl rfl)
theorem Sim.stale_gone (hs : Sim c s m a w ids) {b : Nat} (h : ids[b]? = some .stale) : m.getD b .dead = .gone := by
 have hb : b < ids.length := by
  rcases Nat.lt_or_ge b ids.length with h' | h'
  ·exact h'
  ·rw [List.getElem?_eq_none h'] at h; cases h
 have hm : b < m.length := by rw [← hs.mlen]; exact hb
 have hB := hs.blks b hm hb
 rw [List.getElem?_eq_getElem hb] at h
 rw [Option.some.inj h] at hB
 have e : m.getD b .dead = m[b] := by rw [List.getD_eq_getElem?_getD, List.getElem?_eq_getElem hm]; rfl
 rw [e]
 cases hx : m[b] <;> rw [hx] at hB <;> first | rfl | exact hB.elim | cases hB
theorem Sim.ref_at (hs : Sim c s m a w ids) {b off : Nat} {v : Value} {im : Nat → Prop} (h : Rel ids im w (.ref b off) v) (hb : m.getD b .dead ≠ .gone) : ∃ p, ids[b]? = some (.lv p) ∧ v = .pointer (some ⟨p.blk, off, none⟩) := by
 rcases h.ref_inv with h | ⟨h, _⟩
 ·exact h
 ·exact absurd (hs.stale_gone h) hb
theorem Sim.oref_at (hs : Sim c s m a w ids) {b i off : Nat} {v : Value} {im : Nat → Prop} (h : Rel ids im w (.oref b i off) v) (hb : m.getD b .dead ≠ .gone) : ∃ p, ids[b]? = some (.lv p) ∧ v = .pointer (some ⟨p.blk, i * p.sz + off, none⟩) := by
 rcases h.oref_inv with h | ⟨h, _⟩
 ·exact h
 ·exact absurd (hs.stale_gone h) hb
theorem Sim.omap_at (hs : Sim c s m a w ids) {b : Nat} {v : Value} {im : Nat → Prop} (h : Rel ids im w (.omap b) v) (hb : m.getD b .dead ≠ .gone) : ∃ p, ids[b]? = some (.lv p) ∧ v = .map (some p.blk) := by
 rcases h.omap_inv with h | ⟨h, _⟩
 ·exact h
 ·exact absurd (hs.stale_gone h) hb
/-- A slice of ours, whose block is there. -/
theorem Sim.own_at (hs : Sim c s m a w ids) {b : Nat} {v : Value} {im : Nat → Prop} (h : Rel ids im w (.own b) v) (hb : m.getD b .dead ≠ .gone) :
  (ids[b]? = some .virt ∧ v = .slice none 0 0) ∨ ∃ p cap, ids[b]? = some (.lv p) ∧ (p.n ≤ cap ∧ cap ≤ maxLen) ∧ cap * p.sz = p.k ∧ v = .slice (some ⟨p.blk, 0, none⟩) p.n cap := by
 rcases h.own_inv with h | h | ⟨h, _⟩
 ·exact .inl h
 ·exact .inr h
 ·exact absurd (hs.stale_gone h) hb
theorem Sim.osl_at (hs : Sim c s m a w ids) {b k : Nat} {v : Value} {im : Nat → Prop} (h : Rel ids im w (.osl b k) v) (hb : m.getD b .dead ≠ .gone) :
  (ids[b]? = some .virt ∧ v = .slice none 0 0) ∨ ∃ p cap x, ids[b]? = some (.lv p) ∧ (k < p.n → x = k * p.sz) ∧ v = .slice (some ⟨p.blk, x, none⟩) (p.n - k) cap := by
 rcases h.osl_inv with h | h | ⟨h, _⟩
 ·exact .inl h
 ·exact .inr h
 ·exact absurd (hs.stale_gone h) hb
theorem Sim.im0new (hs : Sim c s m a w ids) {b : Nat} (h : c.im0 b) (h' : c.new b) : False := by
 have := hs.im0lt b h
 rcases h' with h' | h'
 ·omega
 ·exact this.2 h'
abbrev mkId (blk k n sz : Nat) : Id := ⟨blk, k, n, sz, fun _ => False, fun _ => none⟩
theorem mkId_has {blk k n sz x : Nat} (h : (mkId blk k n sz).has x) : x = blk := by
 rcases h with h | h
 ·exact h
 ·exact h.elim
end
end Go.Proofs.YtnkbkfjgbejhfaaGreat.Am
namespace Go.Proofs.YtnkbkfjgbejhfaaGreat.Am
variable [Inhabited DRT]

def eqFs (P : Program) (g : TypeId → Option (List Nat)) : Nat → List Field → Option (List Nat)
 | _, [] => some []
 | acc, f :: fs => match g f.type, P.info? f.type with
  | some sh, some i => if f.name ≠ "_" ∧ f.offset = acc ∧ i.size = sh.length ∧ 0 < sh.length then match eqFs P g (acc + sh.length) fs with
    | some r => some (sh ++ r)
    | none => none
   else none
  | _, _ => none
/-- The kinds of the cells of a type that '==' compares cell by cell: 5 an integer, 6 a bool, 4 a string. -/
def eqShape (P : Program) : Nat → TypeId → Option (List Nat)
 | 0, _ => none
 | d + 1, t => match P.underlying t with
  | some (.int _) => some [5]
  | some .bool => some [6]
  | some .string => some [4]
  | some (.struct fs) => if P.stoodInHeld t then none else eqFs P (eqShape P d) 0 fs.toList
  | some (.array n e) => match eqShape P d e, P.info? e with
   | some sh, some i => if i.size = sh.length ∧ 0 < sh.length then some (List.replicate n sh).flatten else none
   | _, _ => none
  | _ => none

def ok1 (k : Nat) (x y : Value) (b : Bool) : Prop :=
 (k = 5 ∧ ∃ kk a c, x = .int kk a ∧ y = .int kk c ∧ b = (a == c)) ∨ (k = 6 ∧ ∃ a c, x = .bool a ∧ y = .bool c ∧ b = (a == c)) ∨
 (k = 4 ∧ ∃ a c : ByteArray, x = .string a ∧ y = .string c ∧ b = (a.toList == c.toList))
def okL : List Nat → List Value → List Value → Bool → Prop
 | [], [], [], r => r = true
 | k :: ks, x :: xs, y :: ys, r => ∃ b r', ok1 k x y b ∧ okL ks xs ys r' ∧ r = (b && r')
 | _, _, _, _ => False
theorem okL_len : ∀ {ks : List Nat} {xs ys : List Value} {r : Bool}, okL ks xs ys r → xs.length = ks.length ∧ ys.length = ks.length
 | [], [], [], _, _ => ⟨rfl, rfl⟩
 | k :: ks, x :: xs, y :: ys, r, ⟨b, r', _, h, _⟩ => by have := okL_len h; simp [this.1, this.2]
 | [], [], _ :: _, _, h => h.elim
 | [], _ :: _, _, _, h => h.elim
 | _ :: _, [], _, _, h => h.elim
 | _ :: _, _ :: _, [], _, h => h.elim
theorem okL_append : ∀ {ks ls : List Nat} {xs ys : List Value} {r : Bool}, okL (ks ++ ls) xs ys r →
  ∃ r1 r2, okL ks (xs.take ks.length) (ys.take ks.length) r1 ∧ okL ls (xs.drop ks.length) (ys.drop ks.length) r2 ∧ r = (r1 && r2)
 | [], ls, xs, ys, r, h => ⟨true, r, by simp [okL], by simpa using h, by simp⟩
 | k :: ks, ls, xs, ys, r, h => by
  match xs, ys, h with
  | x :: xs, y :: ys, h =>
   obtain ⟨b, r', h1, h2, rfl⟩ := h
   obtain ⟨r1, r2, g1, g2, rfl⟩ := okL_append h2
   exact ⟨b && r1, r2, ⟨b, r1, h1, by simpa using g1, rfl⟩, by simpa using g2, by simp [Bool.and_assoc]⟩
  | [], _, h => exact h.elim
  | _ :: _, [], h => exact h.elim

/-- The value of cells, by the type. -/
def mkV (P : Program) (t : TypeId) (xs : List Value) : Value :=
 match P.underlying t with
 | some (.struct _) => .agg xs.toArray
 | some (.array _ _) => .agg xs.toArray
 | _ => xs.getD 0 undef

section
variable {P : Program} {w : World}
theorem run_part {t : TypeId} {i : TypeInfo} (hi : P.info? t = some i) {d : TypeDesc} (hd : P.underlying t = some d) (xs : List Value) (off : Nat) (h : off + i.size ≤ xs.length) (h0 : 0 < i.size) :
  (part t xs.toArray off).run P w = .ok (mkV P t ((xs.drop off).take i.size)) w := by
 have hlt : off < xs.length := by omega
 have e0 : ((xs.drop off).take i.size).getD 0 undef = xs[off] := by
  rw [List.getD_eq_getElem?_getD, List.getElem?_take, if_pos h0, List.getElem?_drop]
  simp [hlt]
 unfold part mkV isAgg
 cases d <;> simp [underlying, hd, sizeOf, typeInfo, hi, hlt] <;> first | (rw [← e0]; simp [List.getD_eq_getElem?_getD]) | skip

theorem eqShape_pos : ∀ (d : Nat) (t : TypeId) (sh : List Nat), eqShape P d t = some sh → ∃ dd, P.underlying t = some dd
 | 0, _, _, h => by simp [eqShape] at h
 | d + 1, t, sh, h => by
  unfold eqShape at h
  cases hd : P.underlying t with
  | none => rw [hd] at h; cases h
  | some dd => exact ⟨dd, rfl⟩
theorem okL_one {k : Nat} {xs ys : List Value} {r : Bool} (h : okL [k] xs ys r) : ∃ x y, xs = [x] ∧ ys = [y] ∧ ok1 k x y r := by
 have hl := okL_len h
 match xs, ys, hl, h with
 | [x], [y], _, ⟨b, r', h1, h2, h3⟩ =>
  have h2 : r' = true := h2
  subst h2
  exact ⟨x, y, rfl, rfl, by rw [h3]; simpa using h1⟩
theorem okL_nil {xs ys : List Value} {r : Bool} (h : okL [] xs ys r) : r = true := by
 match xs, ys, h with
 | [], [], h => exact h

theorem eqShape_run : ∀ (d : Nat) (t : TypeId) (sh : List Nat) (xs ys : List Value) (r : Bool) (dd : Nat), eqShape P d t = some sh → okL sh xs ys r →
  (Op.equalIn (d + dd) t (mkV P t xs) (mkV P t ys)).run P w = .ok r w
 | 0, _, _, _, _, _, _, h, _ => by simp [eqShape] at h
 | d + 1, t, sh, xs, ys, r, dd, h, hk => by
  have e : d + 1 + dd = (d + dd) + 1 := by omega
  rw [e]
  unfold eqShape at h
  unfold mkV
  split at h
  ·rename_i k hd
   cases h
   obtain ⟨x, y, rfl, rfl, h1⟩ := okL_one hk
   ·rcases h1 with ⟨_, kk, a, c, rfl, rfl, rfl⟩ | ⟨h, _⟩ | ⟨h, _⟩
    ·rw [hd]; simp [run_equalIn_int w _ t kk k a c hd]
    ·cases h
    ·cases h
  ·rename_i hd
   cases h
   obtain ⟨x, y, rfl, rfl, h1⟩ := okL_one hk
   ·rcases h1 with ⟨h, _⟩ | ⟨_, a, c, rfl, rfl, rfl⟩ | ⟨h, _⟩
    ·cases h
    ·rw [hd]; simp [run_equalIn_bool w _ t a c hd]
    ·cases h
  ·rename_i hd
   cases h
   obtain ⟨x, y, rfl, rfl, h1⟩ := okL_one hk
   ·rcases h1 with ⟨h, _⟩ | ⟨h, _⟩ | ⟨_, a, c, rfl, rfl, rfl⟩
    ·cases h
    ·cases h
    ·rw [hd]; simp [run_equalIn_string w _ t a c hd]
  ·rename_i fs hd
   split at h
   ·cases h
   ·rename_i hst
    rw [hd]
    have hf : P.fieldsOf t = fs := by unfold Program.fieldsOf; rw [hd]
    rw [run_equalIn_struct w (d + dd) t _ _ (by rw [hf]; exact hd) (by simpa using hst), hf]
    have key : ∀ (fl : List Field) (acc : Nat) (sh : List Nat) (r : Bool), eqFs P (eqShape P d) acc fl = some sh → okL sh (xs.drop acc) (ys.drop acc) r →
      (Op.eqFields (d + dd) xs.toArray ys.toArray fl).run P w = .ok r w := by
     intro fl
     induction fl with
     | nil =>
      intro acc sh r h1 h2
      simp only [eqFs, Option.some.injEq] at h1
      subst h1
      rw [okL_nil h2]; rfl
     | cons f fl ih =>
      intro acc sh r h1 h2
      unfold eqFs at h1
      split at h1
      ·rename_i s1 i hs hi
       split at h1
       ·rename_i hc
        obtain ⟨hc1, hc2, hc3, hz⟩ := hc
        split at h1
        ·rename_i r0 hr0
         cases h1
         obtain ⟨r1, r2, g1, g2, rfl⟩ := okL_append h2
         obtain ⟨fd, hfd⟩ := eqShape_pos d f.type s1 hs
         have hl := okL_len h2
         simp at hl
         have p1 := run_part (w := w) hi hfd xs acc (by omega) (by omega)
         have p2 := run_part (w := w) hi hfd ys acc (by omega) (by omega)
         rw [hc3] at p1 p2
         have q := eqShape_run d f.type s1 _ _ r1 dd hs g1
         rw [List.drop_drop, List.drop_drop] at g2
         have ih' := ih (acc + s1.length) r0 r2 hr0 g2
         subst hc2
         unfold Op.eqFields
         rw [if_pos hc1]
         simp only [Sem.run_bind, p1, p2, q, Result.andThen_ok]
         cases r1 <;> simp [ih']
        ·cases h1
       ·cases h1
      ·cases h1
    exact key fs.toList 0 sh r h (by simpa using hk)
  ·rename_i n e hd
   split at h
   ·rename_i s1 i hs hi
    split at h
    ·rename_i hc
     cases h
     rw [hd]
     obtain ⟨ed, hed⟩ := eqShape_pos d e s1 hs
     rw [run_equalIn_array w (d + dd) xs.toArray ys.toArray hd hi]
     have hcells : P.cellsOf e = s1.length := by unfold Program.cellsOf; rw [hi]; simp [hc.1]
     rw [hcells]
     have key : ∀ (k b : Nat) (r : Bool), okL (List.replicate k s1).flatten (xs.drop (b * s1.length)) (ys.drop (b * s1.length)) r →
       (Op.eqItems (d + dd) e s1.length xs.toArray ys.toArray (List.range' b k)).run P w = .ok r w := by
      intro k
      induction k with
      | zero =>
       intro b r h2
       have h2 : okL [] (xs.drop (b * s1.length)) (ys.drop (b * s1.length)) r := by simpa using h2
       rw [okL_nil h2]; rfl
      | succ k ih =>
       intro b r h2
       rw [List.replicate_succ, List.flatten_cons] at h2
       have hl := okL_len h2
       simp only [List.length_drop, List.length_append] at hl
       obtain ⟨r1, r2, g1, g2, rfl⟩ := okL_append h2
       have p1 := run_part (w := w) hi hed xs (b * s1.length) (by omega) (by omega)
       have p2 := run_part (w := w) hi hed ys (b * s1.length) (by omega) (by omega)
       rw [hc.1] at p1 p2
       have q := eqShape_run d e s1 _ _ r1 dd hs g1
       rw [List.drop_drop, List.drop_drop, ← Nat.succ_mul] at g2
       have ih' := ih (b + 1) r2 g2
       rw [List.range'_succ]
       unfold Op.eqItems
       simp only [Sem.run_bind, p1, p2, q, Result.andThen_ok]
       cases r1 <;> simp [ih']
     have := key n 0 r (by simpa using hk)
     rwa [← List.range_eq_range'] at this
    ·cases h
   ·cases h
  ·cases h

mutual
theorem eqShape_guard : ∀ (d : Nat) (t : TypeId) (sh : List Nat) (e : Nat), eqShape P d t = some sh → P.eqGuardType (d + e) t = false
 | 0, _, _, _, h => by simp [eqShape] at h
 | d + 1, t, sh, e, h => by
  have e1 : d + 1 + e = (d + e) + 1 := by omega
  rw [e1]
  unfold eqShape at h
  unfold Program.eqGuardType
  split at h
  ·rename_i hd; rw [hd]
  ·rename_i hd; rw [hd]
  ·rename_i hd; rw [hd]
  ·rename_i fs hd; rw [hd]
   split at h
   ·cases h
   ·have := eqFs_guard d 0 fs.toList sh e h
    simp only [Array.any_eq_false]
    intro i hi
    have := this fs[i] (by simp)
    simp [this]
  ·rename_i n el hd; rw [hd]
   split at h
   ·rename_i s1 i hs hi
    exact eqShape_guard d el s1 e hs
   ·cases h
  ·cases h
theorem eqFs_guard : ∀ (d acc : Nat) (fs : List Field) (sh : List Nat) (e : Nat), eqFs P (eqShape P d) acc fs = some sh → ∀ f ∈ fs, P.eqGuardType (d + e) f.type = false
 | _, _, [], _, _, _ => by intro f hf; cases hf
 | d, acc, g :: fs, sh, e, h => by
  unfold eqFs at h
  split at h
  ·rename_i s1 i hs hi
   split at h
   ·split at h
    ·rename_i r hr
     intro f hf
     rcases List.mem_cons.1 hf with rfl | hf
     ·exact eqShape_guard d _ s1 e hs
     ·exact eqFs_guard d _ fs r e hr f hf
    ·cases h
   ·cases h
  ·cases h
end

theorem run_eql_agg {op : BinOp} (hop : op = .eql ∨ op = .neq) {t : TypeId} {d : Nat} {sh : List Nat} (hsh : eqShape P d t = some sh) (hd1 : d ≤ 100) (hd2 : d ≤ P.depth) {xs ys : List Value} {r : Bool} (hk : okL sh xs ys r)
  (hagg : mkV P t xs = .agg xs.toArray) (hagg' : mkV P t ys = .agg ys.toArray) (X Y : Operand) :
  (do eqGuard op t X Y (.agg xs.toArray) (.agg ys.toArray); binOp op t (.agg xs.toArray) (.agg ys.toArray) : Sem Value).run P w = .ok (.bool (if op = .eql then r else !r)) w := by
 have e1 : (eqGuard op t X Y (.agg xs.toArray) (.agg ys.toArray)).run P w = .ok () w := by
  have hg : P.eqGuardType P.depth t = false := by
   have := eqShape_guard (P := P) d t sh (P.depth - d) hsh
   rwa [show d + (P.depth - d) = P.depth by omega] at this
  unfold eqGuard
  rcases hop with rfl | rfl <;> simp [hg]
 have e2 : (Op.equalIn 10000 t (.agg xs.toArray) (.agg ys.toArray)).run P w = .ok r w := by
  have := eqShape_run (P := P) (w := w) d t sh xs ys r (10000 - d) hsh hk
  rw [hagg, hagg', show d + (10000 - d) = 10000 by omega] at this
  exact this
 simp only [Sem.run_bind, e1, Result.andThen_ok]
 rcases hop with rfl | rfl
 ·rw [run_eql_struct]; simp [e2]
 ·rw [run_neq_struct]; simp [e2]
end
end Go.Proofs.YtnkbkfjgbejhfaaGreat.Am
namespace Go.Proofs.YtnkbkfjgbejhfaaGreat.Am
variable [Inhabited DRT]
open Go.RowKit (Below)

/-! ### Types -/
structure TI where
 agg : Bool
 size : Nat
 offs : List (Nat × Nat)
 ety : TypeId
 esz : Nat
 ebytes : Nat
 alen : Nat
 zero : List A
 kind : Nat
 ik : IntKind
 eqs : Option (List Nat)
 ftys : List Nat
abbrev TT := List (Nat × TI)

def ofConst : Value → A
 | .bool b => .bool b
 | .int k n => .int k n
 | .string s => .str s.data.toList
 | .pointer none => .nilp
 | .slice none 0 0 => .nils
 | .nilFunc => .nilfn
 | .map none => .nilm
 | _ => .junk
theorem ofConst_rel (im : Nat → Prop) (w : World) (v : Value) : RelI im w (ofConst v) v := by
 unfold ofConst
 split <;> first | exact .junk _ | skip
 ·exact .bool _
 ·exact .int _ _
 ·rename_i s; have := RelI.str (im := im) (w := w) s.data.toList; simpa using this
 ·exact .nilp
 ·exact .nils
 ·exact .nilfn
 ·exact .nilm

def isRowD : TypeDesc → Bool
 | .struct _ => true
 | .array _ _ => true
 | _ => false
def isAggV : Value → Bool
 | .agg _ => true
 | _ => false
def mkTI (P : Program) (t : TypeId) : Option TI :=
 match P.info? t, P.underlying t with
 | some i, some d =>
  match i.zero with
  | some z =>
   if (isAggV z == isRowD d) && (z.cells.toList.all (·.oneCell') && z.cells.size == i.size) then
    match d with
    | .struct fs => if fs.toList.all (fun f => ((P.info? f.type).map (·.size)).getD 0 != 0) then
      some { agg := true, size := i.size, offs := fs.toList.map fun f => (f.offset, ((P.info? f.type).map (·.size)).getD 0), ety := 0, esz := 0, ebytes := 0, alen := 0, zero := z.cells.toList.map ofConst, kind := 1, ik := .i64, eqs := eqShape P 6 t, ftys := fs.toList.map (·.type) } else none
    | .array n e => match P.info? e with
     | some ie => some { agg := true, size := i.size, offs := [], ety := e, esz := ie.size, ebytes := ie.bytes, alen := n, zero := z.cells.toList.map ofConst, kind := 2, ik := .i64, eqs := eqShape P 6 t, ftys := [] }
     | none => none
    | .slice e => match P.info? e with
     | some ie => match ie.zero with
      | some ze => if ze.cells.size == ie.size && ie.size != 0 then some { agg := false, size := i.size, offs := [], ety := e, esz := ie.size, ebytes := ie.bytes, alen := 0, zero := z.cells.toList.map ofConst, kind := 3, ik := .i64, eqs := eqShape P 6 t, ftys := [] } else none
      | none => none
     | none => none
    | .string => some { agg := false, size := i.size, offs := [], ety := 0, esz := 0, ebytes := 0, alen := 0, zero := z.cells.toList.map ofConst, kind := 4, ik := .i64, eqs := eqShape P 6 t, ftys := [] }
    | .int k => some { agg := false, size := i.size, offs := [], ety := 0, esz := 0, ebytes := 0, alen := 0, zero := z.cells.toList.map ofConst, kind := 5, ik := k, eqs := eqShape P 6 t, ftys := [] }
    | .bool => some { agg := false, size := i.size, offs := [], ety := 0, esz := 0, ebytes := 0, alen := 0, zero := z.cells.toList.map ofConst, kind := 6, ik := .i64, eqs := eqShape P 6 t, ftys := [] }
    | .map k e => some { agg := false, size := i.size, offs := [], ety := e, esz := 0, ebytes := 0, alen := k, zero := z.cells.toList.map ofConst, kind := 7, ik := .i64, eqs := eqShape P 6 t, ftys := [] }
    | .tuple _ => none
    | .named _ _ => none
    | .pointer _ => some { agg := false, size := i.size, offs := [], ety := 0, esz := 0, ebytes := 0, alen := 0, zero := z.cells.toList.map ofConst, kind := 8, ik := .i64, eqs := eqShape P 6 t, ftys := [] }
    | .func _ _ _ => some { agg := false, size := i.size, offs := [], ety := 0, esz := 0, ebytes := 0, alen := 0, zero := z.cells.toList.map ofConst, kind := 9, ik := .i64, eqs := eqShape P 6 t, ftys := [] }
    | _ => some { agg := false, size := i.size, offs := [], ety := 0, esz := 0, ebytes := 0, alen := 0, zero := z.cells.toList.map ofConst, kind := 0, ik := .i64, eqs := eqShape P 6 t, ftys := [] }
   else none
  | none => none
 | _, _ => none

def TTok (P : Program) (tt : TT) : Prop := ∀ t ti, tt.lookup t = some ti → mkTI P t = some ti
theorem TTok.of_map {P : Program} {tt : TT} (h : tt.map (fun p => mkTI P p.1) = tt.map fun p => some p.2) : TTok P tt := by
 induction tt with
 | nil => intro t ti h; cases h
 | cons p tt ih =>
  obtain ⟨u, ui⟩ := p
  simp only [List.map_cons, List.cons.injEq] at h
  intro t ti hl
  simp only [List.lookup_cons] at hl
  split at hl
  ·rename_i he; cases hl; rw [eq_of_beq he]; exact h.1
  ·exact ih h.2 t ti hl

/-! ### Evaluating operands -/
def ev (s : List A) : Operand → A
 | .tmp t => s.getD t .junk
 | .const v => ofConst v
 | .func f => .fn f []
 | .global _ => .junk

section
variable {c : Ctx} {s : List A} {m : List Blk} {a : Act} {w : World} {ids : Ids} {P : Program}

theorem Sim.ev (hs : Sim c s m a w ids) (x : Operand) : Rel ids (imOf c ids w) w (ev s x) (a.eval x) := by
 cases x with
 | tmp t =>
  show Rel ids _ w (s.getD t .junk) (a.tmps.getD t undef)
  by_cases h : t < s.length
  ·have h' : t < a.tmps.size := by rw [hs.len]; exact h
   have := hs.slots t h h'
   simpa [List.getD_eq_getElem?_getD, h, Array.getD_eq_getD_getElem?, h'] using this
  ·simp [List.getD_eq_getElem?_getD, List.getElem?_eq_none (Nat.le_of_not_lt h)]
   exact .imm (.junk _)
 | const v => exact .imm (ofConst_rel _ _ v)
 | global g => exact .imm (.junk _)
 | func f => exact .imm (.fn f [] [] rfl (fun j h => absurd h (Nat.not_lt_zero _)))

theorem Sim.put (hs : Sim c s m a w ids) (d : Nat) {x : A} {v : Value} (hv : Rel ids (imOf c ids w) w x v) : Sim c (s.set d x) m (a.put (some d) v) w ids where
 defers := hs.defers
 len := by simp [Act.put, hs.len]
 slots := by
  intro i h h'
  simp only [List.length_set] at h
  have h2 : i < a.tmps.size := by rw [hs.len]; exact h
  simp only [Act.put] at h' ⊢
  rw [List.getElem_set, Array.getElem_setIfInBounds (by simpa using h2)]
  split
  ·exact hv
  ·exact hs.slots i h h2
 mlen := hs.mlen
 blks := hs.blks
 distinctX := hs.distinctX
 freshX := hs.freshX
 frame := hs.frame
 im0lt := hs.im0lt
 gho := hs.gho

def putD (s : List A) : Option Nat → A → List A
 | some d, x => s.set d x
 | none, _ => s
theorem Sim.putD (hs : Sim c s m a w ids) (d : Option Nat) {x : A} {v : Value} (hv : Rel ids (imOf c ids w) w x v) : Sim c (putD s d x) m (a.put d v) w ids := by
 cases d with
 | none => exact hs
 | some d => exact hs.put d hv
theorem wp_of_run {o : Oper} {next : Act → World → Prop} {Q : Exit → Act → World → Prop} {v : Value} {w' : World}
  (h : (execOp a.eval o).run P w = .ok (.value v) w') (hn : next (a.put o.dst v) w') : o.wp P a w next Q := by
 unfold Oper.wp; rw [h]; exact hn
theorem wp_of_skip {o : Oper} {next : Act → World → Prop} {Q : Exit → Act → World → Prop} {w' : World}
  (h : (execOp a.eval o).run P w = .ok .skip w') (hn : next (a.put o.dst undef) w') : o.wp P a w next Q := by
 unfold Oper.wp; rw [h]; exact hn
end
end Go.Proofs.YtnkbkfjgbejhfaaGreat.Am
namespace Go.Proofs.YtnkbkfjgbejhfaaGreat.Am
variable [Inhabited DRT]
open Go.RowKit (Below)

section
variable {c : Ctx} {s : List A} {m : List Blk} {a : Act} {w w' : World} {ids ids' : Ids} {P : Program} {im im' : Nat → Prop}

theorem Inner.mono (hi : ∀ b, im b → im' b) (hw : ∀ b, im b → w'.heap[b]? = w.heap[b]?) {ety : TypeId} {sz n : Nat} {row : Nat → List A} {v : Value} {x : Option Nat}
  (hx : ∀ k, x = some k → w'.heap[k]? = w.heap[k]?) (h : Inner im w ety sz n row v x) : Inner im' w' ety sz n row v x := by
 rcases h with h | ⟨q, cap, vs, h1, h2, h3, h4, h5, h6, h7, h8⟩
 ·exact .inl h
 ·exact .inr ⟨q, cap, vs, h1, h2, by rw [hx q h2]; exact h3, h4, h5, h6, h7, fun i j hi' h h' => ⟨(h8 i j hi' h h').1.mono hi hw, (h8 i j hi' h h').2⟩⟩

theorem MapAt.up (hI : ∀ x v, RelI im w x v → RelI im' w' x v) {agg : Bool} {sh : List KS} {has : List KC → Bool} {val : List KC → A} {r : Nat} (hr : w'.heap[r]? = w.heap[r]?) (h : MapAt im w agg sh has val r) : MapAt im' w' agg sh has val r := by
 obtain ⟨es, clock, f, h1, h2, h3, h4, h5, h6⟩ := h
 exact ⟨es, clock, f, by rw [hr]; exact h1, h2, h3, h4, fun i h => hI _ _ (h5 i h), h6⟩
theorem grid_map (f : A → A) {ty : TypeId} {agg : Bool} {sh : List KS} {n hi : Nat} {cs : List A} {ini : Nat → Nat} {has : Nat → List KC → Bool} {val : Nat → List KC → A} {p : Id}
  (hh : ∀ k, p.has k → w'.heap[k]? = w.heap[k]?) (hI : ∀ x v, RelI im w x v → RelI im' w' x v) (hf : ∀ x v, Rel ids im w x v → Rel ids' im' w' (f x) v)
  (h : BRel ids im w (.mgrid ty agg sh n hi cs ini has val) (.lv p)) : BRel ids' im' w' (.mgrid ty agg sh n hi (cs.map f) ini has val) (.lv p) := by
 obtain ⟨g1, g2, g3, vs, h1, h2, h3, h4, kb, h5⟩ := h
 refine ⟨g1, g2, g3, vs, by rw [hh _ (.inl rfl)]; exact h1, h2, h3, fun j h h' => ?_, kb, fun i hi' hv => ?_⟩
 ·rw [List.getElem_map]
  exact hf _ _ (h4 j (by simpa using h) h')
 ·obtain ⟨k0, k1⟩ := h5 i hi' hv
  rw [List.length_map]
  refine ⟨k0, fun hl => ⟨(k1 hl).1, fun e => ?_⟩⟩
  obtain ⟨q1, q2, q3, q4⟩ := (k1 hl).2 e
  exact ⟨q1, q2, q3.up hI (hh _ (.inr q2)), q4⟩
theorem grid_same {ty : TypeId} {agg : Bool} {sh : List KS} {n hi : Nat} {cs : List A} {ini : Nat → Nat} {has : Nat → List KC → Bool} {val : Nat → List KC → A} {p : Id}
  (hh : ∀ k, p.has k → w'.heap[k]? = w.heap[k]?) (hI : ∀ x v, RelI im w x v → RelI im' w' x v) (hf : ∀ x v, Rel ids im w x v → Rel ids' im' w' x v)
  (h : BRel ids im w (.mgrid ty agg sh n hi cs ini has val) (.lv p)) : BRel ids' im' w' (.mgrid ty agg sh n hi cs ini has val) (.lv p) := by
 have := grid_map id hh hI hf h
 rw [List.map_id] at this
 exact this
theorem BRel.mono (hi : ∀ b, im b → im' b) (hw : ∀ b, im b → w'.heap[b]? = w.heap[b]?) (hd : ∀ (b : Nat) p, ids[b]? = some p → p ≠ .dead → ids'[b]? = some p)
  {x : Blk} {p : IdE} (hp : ∀ q, p = .lv q → ∀ k, q.has k → w'.heap[k]? = w.heap[k]?) (h : BRel ids im w x p) : BRel ids' im' w' x p := by
 cases x with
 | dead => exact h
 | gone => exact h
 | box ty cs =>
  cases p with
  | dead => exact h
  | stale => exact h
  | virt => exact h
  | gho vs => exact h
  | lv q =>
   obtain ⟨vs, h1, h2, h3, h4⟩ := h
   exact ⟨vs, by rw [hp _ rfl _ (.inl rfl)]; exact h1, h2, h3, fun j h h' => ⟨(h4 j h h').1.mono hi hw hd, (h4 j h h').2⟩⟩
 | row ty sz n row =>
  cases p with
  | dead => exact h
  | stale => exact h
  | virt => exact h
  | gho vs => exact h
  | lv q =>
   obtain ⟨g1, g2, vs, h1, h2, h3, h4, h5⟩ := h
   exact ⟨g1, g2, vs, by rw [hp _ rfl _ (.inl rfl)]; exact h1, h2, h3, h4, fun i j hi' h h' => ⟨(h5 i j hi' h h').1.mono hi hw, (h5 i j hi' h h').2⟩⟩
 | nest ty ety sz n hole len row =>
  cases p with
  | dead => exact h
  | stale => exact h
  | virt => exact h
  | gho vs => exact h
  | lv q =>
   obtain ⟨g1, g2, g3, vs, h1, h2, h3, kb, h4⟩ := h
   refine ⟨g1, g2, g3, vs, by rw [hp _ rfl _ (.inl rfl)]; exact h1, h2, h3, kb, fun i hi' hh h => ?_⟩
   obtain ⟨k1, k2, k3⟩ := h4 i hi' hh h
   exact ⟨k1.mono hi hw (fun x hx => hp _ rfl _ (.inr (k2 x hx))), k2, k3⟩
 | mapb agg sh has val =>
  cases p with
  | dead => exact h
  | stale => exact h
  | virt => exact h
  | gho vs => exact h
  | lv q =>
   obtain ⟨es, clock, f, h1, h2, h3, h4, h5, h6⟩ := h
   exact ⟨es, clock, f, by rw [hp _ rfl _ (.inl rfl)]; exact h1, h2, h3, h4, fun i h => (h5 i h).mono hi hw, h6⟩
 | mapx agg sh has val =>
  cases p with
  | dead => exact h
  | stale => exact h
  | virt => exact h
  | gho vs => exact h
  | lv q =>
   obtain ⟨es, clock, f, h1, h2, h3, h4, h5, h6⟩ := h
   exact ⟨es, clock, f, by rw [hp _ rfl _ (.inl rfl)]; exact h1, h2, h3, h4, fun i h => (h5 i h).mono hi hw, h6⟩
 | mit agg sh has val seen =>
  cases p with
  | dead => exact h
  | stale => exact h
  | virt => exact h
  | gho vs => exact h
  | lv q =>
   obtain ⟨r, es, clock, f, sb, h1, h2, h3, h4, h5, h6, h7, h8⟩ := h
   exact ⟨r, es, clock, f, sb, by rw [hp _ rfl _ (.inl rfl)]; exact h1, hi _ h2, by rw [hw _ h2]; exact h3, h4, h5, h6, fun i h => (h7 i h).mono hi hw, h8⟩
 | mgrid ty agg sh n hi2 cs ini has val =>
  cases p with
  | dead => exact h
  | stale => exact h
  | virt => exact h
  | gho vs => exact h
  | lv q => exact grid_same (hp _ rfl) (fun _ _ h => h.mono hi hw) (fun _ _ h => h.mono hi hw hd) h
 | rowE ty sz n Φ =>
  cases p with
  | dead => exact h
  | stale => exact h
  | virt => exact h
  | gho vs => exact h
  | lv q =>
   obtain ⟨row, h0, g1, g2, vs, h1, h2, h3, h4, h5⟩ := h
   exact ⟨row, h0, g1, g2, vs, by rw [hp _ rfl _ (.inl rfl)]; exact h1, h2, h3, h4, fun i j hi' h h' => ⟨(h5 i j hi' h h').1.mono hi hw, (h5 i j hi' h h').2⟩⟩
 | ghost cs =>
  cases p with
  | dead => exact h
  | stale => exact h
  | virt => exact h
  | lv q => exact h
  | gho vs => exact ⟨h.1, fun j h1 h2 => (h.2 j h1 h2).mono hi hw hd⟩

theorem imOf_lt (hs : Sim c s m a w ids) {b : Nat} (h : imOf c ids w b) : b < w.heap.size := by
 rcases h with h | ⟨_, h, _⟩
 ·exact Nat.lt_of_lt_of_le (hs.im0lt b h).1 hs.frame.size
 ·exact h

theorem Sim.grow (hs : Sim c s m a w ids) (hw : Bw w.heap.size w w') (bs : List Blk) (js : Ids) (hl : js.length = bs.length)
  (hb : ∀ i (h : i < bs.length) (h' : i < js.length), BRel (ids ++ js) (imOf c (ids ++ js) w') w' bs[i] js[i])
  (hf : ∀ p, IdE.lv p ∈ js → ∀ x, p.has x → w.heap.size ≤ x ∧ x < w'.heap.size)
  (hg : ∀ vs, IdE.gho vs ∉ js)
  (hd : ∀ (i j : Nat) p q x, js[i]? = some (.lv p) → js[j]? = some (.lv q) → p.has x → q.has x → i = j) : Sim c s (m ++ bs) a w' (ids ++ js) := by
 have hi : ∀ b, imOf c ids w b → imOf c (ids ++ js) w' b := by
  intro b h
  rcases h with h | ⟨h1, h2, h3⟩
  ·exact .inl h
  ·refine .inr ⟨h1, Nat.lt_of_lt_of_le h2 hw.size, fun p hp => ?_⟩
   rcases List.mem_append.1 hp with hp | hp
   ·exact h3 p hp
   ·intro hx; have := (hf p hp b hx).1; omega
 have hh : ∀ b, imOf c ids w b → w'.heap[b]? = w.heap[b]? := fun b h => hw.block b (imOf_lt hs h)
 have hx : ∀ (b : Nat) p, ids[b]? = some p → p ≠ .dead → (ids ++ js)[b]? = some p := by
  intro b p h _
  have : b < ids.length := by
   rcases Nat.lt_or_ge b ids.length with h' | h'
   ·exact h'
   ·rw [List.getElem?_eq_none h'] at h; cases h
  rw [List.getElem?_append_left this]; exact h
 refine ⟨hs.defers, hs.len, fun i h h' => (hs.slots i h h').mono hi hh hx, by simp [hs.mlen, hl], ?_, ?_, ?_, ?_, hs.im0lt, ?_⟩
 ·intro b h h'
  by_cases hlt : b < m.length
  ·have h1 : b < ids.length := by rw [hs.mlen]; exact hlt
   rw [List.getElem_append_left hlt, List.getElem_append_left h1]
   refine (hs.blks b hlt h1).mono hi hh hx ?_
   intro q hq k hk
   exact hw.block _ (hs.freshX q (by rw [← hq]; exact List.getElem_mem _) k hk).2
  ·have h1 : ids.length ≤ b := by rw [hs.mlen]; omega
   rw [List.getElem_append_right (by omega), List.getElem_append_right h1]
   have := hb (b - m.length) (by simp at h; omega) (by simp at h'; rw [hs.mlen] at h'; omega)
   have he : b - ids.length = b - m.length := by rw [hs.mlen]
   simpa only [he] using this
 ·intro i j p q x h1 h2 h3 h3'
  rcases Nat.lt_or_ge i ids.length with hi' | hi' <;> rcases Nat.lt_or_ge j ids.length with hj' | hj'
  ·rw [List.getElem?_append_left hi'] at h1; rw [List.getElem?_append_left hj'] at h2
   exact hs.distinctX i j p q x h1 h2 h3 h3'
  ·rw [List.getElem?_append_left hi'] at h1; rw [List.getElem?_append_right hj'] at h2
   have a1 := (hs.freshX p (List.mem_of_getElem? h1) x h3).2
   have a2 := (hf q (List.mem_of_getElem? h2) x h3').1
   omega
  ·rw [List.getElem?_append_right hi'] at h1; rw [List.getElem?_append_left hj'] at h2
   have a1 := (hs.freshX q (List.mem_of_getElem? h2) x h3').2
   have a2 := (hf p (List.mem_of_getElem? h1) x h3).1
   omega
  ·rw [List.getElem?_append_right hi'] at h1; rw [List.getElem?_append_right hj'] at h2
   have := hd _ _ p q x h1 h2 h3 h3'
   omega
 ·intro p hp x hx
  rcases List.mem_append.1 hp with hp | hp
  ·have := hs.freshX p hp x hx
   exact ⟨this.1, Nat.lt_of_lt_of_le this.2 hw.size⟩
  ·have := hf p hp x hx
   exact ⟨.inl (Nat.le_trans hs.frame.size this.1), this.2⟩
 ·exact hs.frame.trans (hw.mono hs.frame.size)
 ·intro vs h
  rcases List.mem_append.1 h with h | h
  ·exact hs.gho vs h
  ·exact absurd h (hg vs)

/-- A world that only counts draws, and nothing of ours. -/
theorem Sim.same (hs : Sim c s m a w ids) (hw : Bw w.heap.size w w') : Sim c s m a w' ids := by
 have := hs.grow hw [] [] rfl (fun i h => absurd h (Nat.not_lt_zero _)) (fun p h => by cases h) (fun vs h => by cases h) (fun i j p q x h => by simp at h)
 simpa using this

theorem below_alloc (w : World) (o : Obj) : Bw w.heap.size w (w.alloc o) := by
 have h := (Below.refl w.heap.size w).alloc (Nat.le_refl _) o
 exact ⟨h.os, h.tape, h.output, h.size, h.block, drLe.refl _⟩
theorem below_drew (w : World) : Bw w.heap.size w w.drew := by
 have h := (Below.refl w.heap.size w).drew
 exact ⟨h.os, h.tape, h.output, h.size, h.block, drLe.succ _⟩

/-- A new block of cells. -/
theorem Sim.alloc (hs : Sim c s m a w ids) (x : Blk) (vs : Array Value) (ty : TypeId) (n sz : Nat)
  (hx : ∀ ids' im' w', (∀ b, imOf c ids w b → im' b) → (∀ b, imOf c ids w b → w'.heap[b]? = w.heap[b]?) → (∀ (b : Nat) p, ids[b]? = some p → p ≠ .dead → ids'[b]? = some p) →
   w'.heap[w.heap.size]? = some (.cells vs ty (0, 0)) → BRel ids' im' w' x (.lv (mkId w.heap.size vs.size n sz))) :
  Sim c s (m ++ [x]) a (w.alloc (.cells vs ty)) (ids ++ [.lv (mkId w.heap.size vs.size n sz)]) := by
 have hb := below_alloc w (.cells vs ty)
 refine hs.grow hb [x] [.lv (mkId w.heap.size vs.size n sz)] rfl ?_ ?_ (fun vs h => by simp at h) ?_
 ·intro i h h'
  have : i = 0 := by simp at h; omega
  subst this
  refine hx _ _ _ ?_ ?_ ?_ ?_
  ·intro b h
   have hlt := imOf_lt hs h
   rcases h with h | ⟨h1, h2, h3⟩
   ·exact .inl h
   ·refine .inr ⟨h1, Nat.lt_of_lt_of_le h2 hb.size, fun p hp => ?_⟩
    rcases List.mem_append.1 hp with hp | hp
    ·exact h3 p hp
    ·simp at hp; subst hp; intro hx; have := mkId_has hx; omega
  ·exact fun b h => hb.block b (imOf_lt hs h)
  ·intro b p h _
   have : b < ids.length := by
    rcases Nat.lt_or_ge b ids.length with h' | h'
    ·exact h'
    ·rw [List.getElem?_eq_none h'] at h; cases h
   rw [List.getElem?_append_left this]; exact h
  ·show (w.heap.push _)[w.heap.size]? = _
   simp
 ·intro p hp x hx
  simp at hp; subst hp
  have := mkId_has hx
  subst this
  show w.heap.size ≤ w.heap.size ∧ w.heap.size < (w.heap.push _).size
  simp
 ·intro i j p q x h1 h2 h3 h3'
  have e1 : i = 0 := by
   rcases Nat.eq_zero_or_pos i with h | h
   ·exact h
   ·rw [List.getElem?_eq_none (by simp; omega)] at h1; cases h1
  have e2 : j = 0 := by
   rcases Nat.eq_zero_or_pos j with h | h
   ·exact h
   ·rw [List.getElem?_eq_none (by simp; omega)] at h2; cases h2
  omega
end
end Go.Proofs.YtnkbkfjgbejhfaaGreat.Am
namespace Go.Proofs.YtnkbkfjgbejhfaaGreat.Am
variable [Inhabited DRT]
open Go.RowKit (Below)
section
variable {c : Ctx} {s : List A} {m : List Blk} {a : Act} {w w' : World} {ids ids' : Ids} {P : Program} {im im' : Nat → Prop}

/-- A block of ours is written. -/
theorem Sim.setRow (hs : Sim c s m a w ids) (b : Nat) (p : Id) (hid : ids[b]? = some (.lv p)) (x : Blk) (old vs : Array Value) (ty : TypeId)
  (hold : w.heap[p.blk]? = some (.cells old ty (0, 0)))
  (hx : (w.setRow p.blk vs).heap[p.blk]? = some (.cells vs ty (0, 0)) → (∀ a v, Rel ids (imOf c ids w) w a v → Rel ids (imOf c ids (w.setRow p.blk vs)) (w.setRow p.blk vs) a v) →
   (∀ a v, RelI (imOf c ids w) w a v → RelI (imOf c ids (w.setRow p.blk vs)) (w.setRow p.blk vs) a v) →
   BRel ids (imOf c ids (w.setRow p.blk vs)) (w.setRow p.blk vs) x (.lv p)) :
  Sim c s (m.set b x) a (w.setRow p.blk vs) ids := by
 have hsz : (w.setRow p.blk vs).heap.size = w.heap.size := by simp [World.setRow]
 have hmem : IdE.lv p ∈ ids := List.mem_of_getElem? hid
 have hfr := hs.fresh _ hmem
 have hnim : ∀ b', imOf c ids w b' → b' ≠ p.blk := by
  intro b' h
  rcases h with h | ⟨_, _, h3⟩
  ·rintro rfl; exact hs.im0new h hfr.1
  ·exact fun e => h3 _ hmem (.inl e)
 have him : ∀ b', imOf c ids w b' → imOf c ids (w.setRow p.blk vs) b' := by
  intro b' h
  rcases h with h | ⟨h1, h2, h3⟩
  ·exact .inl h
  ·exact .inr ⟨h1, by rw [hsz]; exact h2, h3⟩
 have hh : ∀ b', imOf c ids w b' → (w.setRow p.blk vs).heap[b']? = w.heap[b']? := fun b' h => setRow_other w p.blk b' vs (hnim b' h)
 have hrel : ∀ a v, Rel ids (imOf c ids w) w a v → Rel ids (imOf c ids (w.setRow p.blk vs)) (w.setRow p.blk vs) a v :=
  fun a v h => h.mono him hh (fun _ _ h _ => h)
 refine ⟨hs.defers, hs.len, fun i h h' => hrel _ _ (hs.slots i h h'), by simp [hs.mlen], ?_, hs.distinctX, ?_, ?_, hs.im0lt, hs.gho⟩
 ·intro i h h'
  simp only [List.length_set] at h
  rw [List.getElem_set]
  split
  ·rename_i he
   subst he
   have : ids[b] = .lv p := by
    rw [List.getElem?_eq_getElem h'] at hid; exact Option.some.inj hid
   rw [this]
   exact hx (setRow_heap w p.blk old vs ty _ hold) hrel (fun a v h => h.mono him hh)
  ·rename_i he
   refine (hs.blks i h h').mono him hh (fun _ _ h _ => h) ?_
   intro q hq k hk
   refine setRow_other w p.blk _ vs ?_
   intro e
   exact he (hs.distinctX b i p q k hid (by rw [List.getElem?_eq_getElem h', hq]) (.inl e) hk)
 ·intro p' hp x hx
  rw [hsz]; exact hs.freshX p' hp x hx
 ·refine hs.frame.go rfl rfl rfl (by rw [hsz]; exact Nat.le_refl _) (fun k hk hm => setRow_other w p.blk k vs ?_)
  rintro rfl
  rcases hfr.1 with h | h
  ·omega
  ·exact hm h

theorem Sim.blk_at (hs : Sim c s m a w ids) {b : Nat} {p : Id} (hid : ids[b]? = some (.lv p)) : ∃ x, m[b]? = some x ∧ BRel ids (imOf c ids w) w x (.lv p) := by
 have h : b < ids.length := by
  rcases Nat.lt_or_ge b ids.length with h' | h'
  ·exact h'
  ·rw [List.getElem?_eq_none h'] at hid; cases hid
 have h2 : b < m.length := by rw [← hs.mlen]; exact h
 refine ⟨m[b], List.getElem?_eq_getElem h2, ?_⟩
 have := hs.blks b h2 h
 rw [List.getElem?_eq_getElem h] at hid
 rw [← Option.some.inj hid]; exact this
end
end Go.Proofs.YtnkbkfjgbejhfaaGreat.Am
namespace Go.Proofs.YtnkbkfjgbejhfaaGreat.Am
variable [Inhabited DRT]
open Go.RowKit (Below)

/-! ### Forcing: continuations that see values written out -/
def fv (a : A) (K : A → Prop) : Prop :=
 match a with
 | .int k n => K (.int k n)
 | .bool b => K (.bool b)
 | .sb b => K (.sb b)
 | .str s => K (.str s)
 | .nilp => K .nilp
 | .ref b o => K (.ref b o)
 | .oref b i o => K (.oref b i o)
 | .bref c o => K (.bref c o)
 | .nils => K .nils
 | .sl n z r => K (.sl n z r)
 | .own b => K (.own b)
 | .agg c => K (.agg c)
 | .tup c => K (.tup c)
 | .fn f c => K (.fn f c)
 | .nilfn => K .nilfn
 | .nilm => K .nilm
 | .mv g n k v => K (.mv g n k v)
 | .omap b => K (.omap b)
 | .ent b k => K (.ent b k)
 | .osl b k => K (.osl b k)
 | .junk => K .junk
theorem fv_eq (a : A) (K : A → Prop) : fv a K = K a := by cases a <;> rfl
def fl : List A → (List A → Prop) → Prop
 | [], K => K []
 | a :: as, K => fv a fun a' => fl as fun as' => K (a' :: as')
theorem fl_eq : ∀ (l : List A) (K : List A → Prop), fl l K = K l
 | [], _ => rfl
 | a :: as, K => by simp only [fl, fv_eq, fl_eq as]
def setF : List A → Nat → A → (List A → Prop) → Prop
 | [], _, _, K => K []
 | _ :: xs, 0, v, K => K (v :: xs)
 | x :: xs, i + 1, v, K => setF xs i v fun ys => K (x :: ys)
theorem setF_eq : ∀ (l : List A) (i : Nat) (v : A) (K : List A → Prop), setF l i v K = K (l.set i v)
 | [], _, _, _ => rfl
 | _ :: _, 0, _, _ => rfl
 | x :: xs, i + 1, v, K => by simp only [setF, setF_eq xs, List.set_cons_succ]
def setB : List Blk → Nat → Blk → (List Blk → Prop) → Prop
 | [], _, _, K => K []
 | _ :: xs, 0, v, K => K (v :: xs)
 | x :: xs, i + 1, v, K => setB xs i v fun ys => K (x :: ys)
theorem setB_eq : ∀ (l : List Blk) (i : Nat) (v : Blk) (K : List Blk → Prop), setB l i v K = K (l.set i v)
 | [], _, _, _ => rfl
 | _ :: _, 0, _, _ => rfl
 | x :: xs, i + 1, v, K => by simp only [setB, setB_eq xs, List.set_cons_succ]
def appB : List Blk → Blk → (List Blk → Prop) → Prop
 | [], v, K => K [v]
 | x :: xs, v, K => appB xs v fun ys => K (x :: ys)
theorem appB_eq : ∀ (l : List Blk) (v : Blk) (K : List Blk → Prop), appB l v K = K (l ++ [v])
 | [], _, _ => rfl
 | x :: xs, v, K => by simp only [appB, appB_eq xs, List.cons_append]
def fnat (n : Nat) (K : Nat → Prop) : Prop :=
 match n with
 | 0 => K 0 | 1 => K 1 | 2 => K 2 | 3 => K 3 | 4 => K 4 | 5 => K 5 | 6 => K 6 | 7 => K 7 | 8 => K 8 | 9 => K 9
 | 10 => K 10 | 11 => K 11 | 12 => K 12 | 13 => K 13 | 14 => K 14 | 15 => K 15 | 16 => K 16 | 17 => K 17 | 18 => K 18 | 19 => K 19
 | n + 20 => K (n + 20)
theorem fnat_eq (n : Nat) (K : Nat → Prop) : fnat n K = K n := by
 unfold fnat; split <;> rfl
def pushB (m : List Blk) (x : Blk) (K : Nat → List Blk → Prop) : Prop := fnat m.length fun n => appB m x fun m' => K n m'
theorem pushB_eq (m : List Blk) (x : Blk) (K : Nat → List Blk → Prop) : pushB m x K = K m.length (m ++ [x]) := by
 simp only [pushB, fnat_eq, appB_eq]
def takeL : Nat → List A → List A
 | 0, _ => []
 | _, [] => []
 | n + 1, x :: xs => x :: takeL n xs
theorem takeL_eq : ∀ (n : Nat) (l : List A), takeL n l = l.take n
 | 0, l => by simp [takeL]
 | n + 1, [] => by simp [takeL]
 | n + 1, x :: xs => by simp [takeL, takeL_eq n xs]

/-- One cell: neither parts nor a value of which nothing is known. -/
def one : A → Bool
 | .agg _ => false
 | .tup _ => false
 | .junk => false
 | _ => true
/-- The cells of a value. -/
def cellsA : A → Option (List A)
 | .agg cs => some cs
 | .tup _ => none
 | .junk => none
 | v => some [v]

def hasOwn : Nat → A → Bool
 | 0, _ => true
 | d + 1, x => match x with
  | .ref _ _ => true
  | .oref _ _ _ => true
  | .own _ => true
  | .omap _ => true
  | .ent _ _ => true
  | .osl _ _ => true
  | .agg cs => cs.any (hasOwn d)
  | .tup cs => cs.any (hasOwn d)
  | .fn _ cs => cs.any (hasOwn d)
  | _ => false

/-! ### What each operation does -/
abbrev KT := A → List Blk → Prop

def ldA (agg : Bool) (size : Nat) (cs : List A) (off : Nat) (K : A → Prop) : Prop :=
 match agg with
 | true => match Nat.ble (off + size) cs.length with
  | true => fl (takeL size (cs.drop off)) fun c => K (.agg c)
  | false => False
 | false => match Nat.blt off cs.length with
  | true => fv (cs.getD off .junk) K
  | false => False
def spl (cs : List A) (off : Nat) (vs : List A) : List A := cs.take off ++ vs ++ cs.drop (off + vs.length)
def updRow (row : Nat → List A) (i : Nat) (cs : List A) : Nat → List A := fun j => if j = i then cs else row j
def stA (size : Nat) (cs : List A) (off : Nat) (v : A) (K : List A → Prop) : Prop :=
 match cellsA v with
 | some vs => match Nat.beq vs.length size, Nat.ble (off + size) cs.length with
  | true, true => fl (spl cs off vs) K
  | _, _ => False
 | none => False

def sLoad (tt : TT) (t : TypeId) (p : A) (m : List Blk) (K : KT) : Prop :=
 match tt.lookup t with
 | none => False
 | some ti => match p with
  | .ref b off => match m.getD b .dead with
   | .box _ cs => ldA ti.agg ti.size cs off fun v => K v m
   | _ => False
  | .oref b i off => match m.getD b .dead with
   | .row _ _ n row => i < n ∧ fl (row i) fun cs => ldA ti.agg ti.size cs off fun v => K v m
   | _ => False
  | .bref cs off => ldA ti.agg ti.size cs off fun v => K v m
  | _ => False
def sStore (tt : TT) (t : TypeId) (p v : A) (m : List Blk) (K : KT) : Prop :=
 match tt.lookup t with
 | none => False
 | some ti => match p with
  | .ref b off => match m.getD b .dead with
   | .box ty cs => stA ti.size cs off v fun cs' => setB m b (.box ty cs') fun m' => K .junk m'
   | _ => False
  | .oref b i off => match m.getD b .dead with
   | .row ty sz n row => match hasOwn 4 v with
    | false => i < n ∧ fl (row i) fun cs => stA ti.size cs off v fun cs' => setB m b (.row ty sz n (updRow row i cs')) fun m' => K .junk m'
    | true => False
   | _ => False
  | _ => False
def sFieldAddr (tt : TT) (t : TypeId) (p : A) (f : Nat) (m : List Blk) (K : KT) : Prop :=
 match tt.lookup t with
 | none => False
 | some ti => match ti.kind with
  | 1 => match ti.offs[f]? with
   | none => False
   | some (fo, _) => match p with
    | .ref b off => fnat (off + fo) fun o => K (.ref b o) m
    | .oref b i off => fnat (off + fo) fun o => K (.oref b i o) m
    | .bref cs off => fnat (off + fo) fun o => K (.bref cs o) m
    | _ => False
  | _ => False
def sIndexAddr (tt : TT) (t : TypeId) (p ix : A) (m : List Blk) (K : KT) : Prop :=
 match tt.lookup t with
 | none => False
 | some ti => match ti.kind, ix with
  | 3, .int _ i => match p with
   | .sl n sz row => match Nat.beq sz ti.esz with
    | true => (0 ≤ i ∧ i < (n : Int)) ∧ fl (row i.toNat) fun cs => K (.bref cs 0) m
    | false => False
   | .own b => match m.getD b .dead with
    | .row _ sz n _ => match Nat.beq sz ti.esz with
     | true => (0 ≤ i ∧ i < (n : Int)) ∧ K (.oref b i.toNat 0) m
     | false => False
    | _ => False
   | _ => False
  | 2, .int _ i => match p with
   | .ref b off => (0 ≤ i ∧ i < (ti.alen : Int)) ∧ fnat (off + i.toNat * ti.esz) fun o => K (.ref b o) m
   | .bref cs off => (0 ≤ i ∧ i < (ti.alen : Int)) ∧ fnat (off + i.toNat * ti.esz) fun o => K (.bref cs o) m
   | _ => False
  | _, _ => False
def placeOf (ti : TI) (i : Nat) : Option (Nat × Nat) :=
 match ti.kind with
 | 1 => ti.offs[i]?
 | _ => some (i * ti.esz, ti.esz)
def bldF (ti : TI) : List (Nat × A) → List A → (List A → Prop) → Prop
 | [], cs, K => K cs
 | (i, v) :: ps, cs, K => match placeOf ti i, cellsA v with
  | some (off, size), some vs => match Nat.beq vs.length size, Nat.ble (off + size) cs.length with
   | true, true => fl (spl cs off vs) fun cs' => bldF ti ps cs' K
   | _, _ => False
  | _, _ => False
def sBuild (tt : TT) (t : TypeId) (parts : List (Nat × A)) (m : List Blk) (K : KT) : Prop :=
 match tt.lookup t with
 | none => False
 | some ti => match ti.kind with
  | 1 => bldF ti parts ti.zero fun cs => K (.agg cs) m
  | 2 => bldF ti parts ti.zero fun cs => K (.agg cs) m
  | _ => False
def sBox (t : TypeId) (v : A) (m : List Blk) (K : KT) : Prop :=
 match cellsA v with
 | some cs => pushB m (.box t cs) fun b m' => K (.ref b 0) m'
 | none => False
def sAlloc (tt : TT) (t : TypeId) (m : List Blk) (K : KT) : Prop :=
 match tt.lookup t with
 | some ti => pushB m (.box t ti.zero) fun b m' => K (.ref b 0) m'
 | none => False
/-- A number that is wrapped, unless it is known to fit. -/
@[irreducible] def WR (k : IntKind) (n : Int) (K : A → Prop) : Prop := (k.wrap n = n ∧ K (.int k n)) ∨ K (.int k (k.wrap n))
theorem WR_inv {k : IntKind} {n : Int} {K : A → Prop} (h : WR k n K) : K (.int k (k.wrap n)) := by
 unfold WR at h
 rcases h with ⟨h1, h2⟩ | h
 ·rw [h1]; exact h2
 ·exact h
theorem WR_fit {k : IntKind} {n : Int} {K : A → Prop} (h1 : k.wrap n = n) (h2 : K (.int k n)) : WR k n K := by unfold WR; exact .inl ⟨h1, h2⟩
theorem WR_wrap {k : IntKind} {n : Int} {K : A → Prop} (h : K (.int k (k.wrap n))) : WR k n K := by unfold WR; exact .inr h
theorem wr_i64 {n : Int} (h : -9223372036854775808 ≤ n ∧ n ≤ 9223372036854775807) : IntKind.i64.wrap n = n := by rw [IntKind.wrap_i64]; omega
theorem wr_u64 {n : Int} (h : 0 ≤ n ∧ n ≤ 18446744073709551615) : IntKind.u64.wrap n = n := by rw [IntKind.wrap_u64]; omega
theorem wr_u8 {n : Int} (h : 0 ≤ n ∧ n ≤ 255) : IntKind.u8.wrap n = n := by rw [IntKind.wrap_u8]; omega
def sBinInt (op : BinOp) (k : IntKind) (a b : Int) (K : A → Prop) : Prop :=
 match op with
 | .add => WR k (a + b) K
 | .sub => WR k (a - b) K
 | .mul => WR k (a * b) K
 | .quo => b ≠ 0 ∧ WR k (a.tdiv b) K
 | .rem => b ≠ 0 ∧ K (.int k (a.tmod b))
 | .and => K (.int k (k.wrap (BitVec.ofInt k.bits a &&& BitVec.ofInt k.bits b).toNat))
 | .or => K (.int k (k.wrap (BitVec.ofInt k.bits a ||| BitVec.ofInt k.bits b).toNat))
 | .xor => K (.int k (k.wrap (BitVec.ofInt k.bits a ^^^ BitVec.ofInt k.bits b).toNat))
 | .andNot => K (.int k (k.wrap (BitVec.ofInt k.bits a &&& ~~~BitVec.ofInt k.bits b).toNat))
 | .eql => K (.sb (a == b))
 | .neq => K (.sb (a != b))
 | .lss => K (.sb (decide (a < b)))
 | .leq => K (.sb (decide (a ≤ b)))
 | .gtr => K (.sb (decide (b < a)))
 | .geq => K (.sb (decide (b ≤ a)))
 | _ => False
def sBinStr (op : BinOp) (a b : List UInt8) (K : A → Prop) : Prop :=
 match op with
 | .add => a.length + b.length ≤ 9223372036854775807 ∧ K (.str (a ++ b))
 | .eql => K (.sb (a == b))
 | .neq => K (.sb !(a == b))
 | .lss => K (.sb (Op.bytesLess a b))
 | .leq => K (.sb (Op.bytesLess a b || a == b))
 | .gtr => K (.sb !(Op.bytesLess a b || a == b))
 | .geq => K (.sb !(Op.bytesLess a b))
 | _ => False
def sShift (op : BinOp) (k : IntKind) (a b : Int) (K : A → Prop) : Prop :=
 match op with
 | .shl => 0 ≤ b ∧ WR k (a * 2 ^ (min b.toNat k.bits)) K
 | .shr => 0 ≤ b ∧ K (.int k (a.fdiv (2 ^ (min b.toNat k.bits))))
 | _ => False
def isShift : BinOp → Bool
 | .shl => true
 | .shr => true
 | _ => false
def kindEq : IntKind → IntKind → Bool
 | .i8, .i8 => true | .i16, .i16 => true | .i32, .i32 => true | .i64, .i64 => true
 | .u8, .u8 => true | .u16, .u16 => true | .u32, .u32 => true | .u64, .u64 => true
 | _, _ => false
theorem kindEq_iff {a b : IntKind} : kindEq a b = true ↔ a = b := by cases a <;> cases b <;> simp [kindEq]
def asB : A → Option Bool
 | .bool b => some b
 | .sb b => some b
 | _ => none
def sEq : List Nat → List A → List A → (Bool → Prop) → Prop
 | [], [], [], K => K true
 | k :: ks, x :: xs, y :: ys, K => match k with
  | 5 => match x, y with
   | .int p a, .int q b => match kindEq p q with
    | true => sEq ks xs ys fun r => K (a == b && r)
    | false => False
   | _, _ => False
  | 6 => match asB x, asB y with
   | some a, some b => sEq ks xs ys fun r => K (a == b && r)
   | _, _ => False
  | 4 => match x, y with
   | .str a, .str b => sEq ks xs ys fun r => K (a == b && r)
   | _, _ => False
  | _ => False
 | _, _, _, _ => False
/-- Is a pointer, or a map, nil? The type's kind, and the answer. -/
def nilC : A → A → Option (Nat × Bool)
 | .nilp, .nilp => some (8, true)
 | .ref _ _, .nilp => some (8, false)
 | .oref _ _ _, .nilp => some (8, false)
 | .bref _ _, .nilp => some (8, false)
 | .nilm, .nilm => some (7, true)
 | .omap _, .nilm => some (7, false)
 | .mv _ _ _ _, .nilm => some (7, false)
 | .nilfn, .nilfn => some (9, true)
 | .fn _ _, .nilfn => some (9, false)
 | _, _ => none
def sBin (tt : TT) (t : TypeId) (op : BinOp) (x y : A) (K : A → Prop) : Prop :=
 match x, y with
 | .int k a, .int k' b => match isShift op with
  | true => sShift op k a b K
  | false => match kindEq k k' with
   | true => sBinInt op k a b K
   | false => False
 | .str a, .str b => sBinStr op a b K
 | .agg cs, .agg cs' => match tt.lookup t with
  | some ti => match ti.agg, ti.eqs, op with
   | true, some sh, .eql => sEq sh cs cs' fun r => K (.sb r)
   | true, some sh, .neq => sEq sh cs cs' fun r => K (.sb !r)
   | _, _, _ => False
  | none => False
 | x, y => match nilC x y with
  | some (k, b) => match tt.lookup t with
   | some ti => match Nat.beq ti.kind k, op with
    | true, .eql => K (.bool b)
    | true, .neq => K (.bool !b)
    | _, _ => False
   | none => False
  | none => match asB x, asB y, tt.lookup t with
   | some a, some b, some ti => match ti.kind, op with
    | 6, .eql => K (.sb (a == b))
    | 6, .neq => K (.sb !(a == b))
    | _, _ => False
   | _, _, _ => False
def sUn (op : UnOp) (x : A) (K : A → Prop) : Prop :=
 match op, x with
 | .not, .bool b => K (.bool !b)
 | .not, .sb b => K (.sb !b)
 | .neg, .int k n => WR k (-n) K
 | _, _ => False
def mn2 (x y : A) (K : A → Prop) : Prop :=
 match x, y with
 | .int k a, .int _ b => K (.int k (if b < a then b else a))
 | _, _ => False
def mx2 (x y : A) (K : A → Prop) : Prop :=
 match x, y with
 | .int k a, .int _ b => K (.int k (if a < b then b else a))
 | _, _ => False
def sLen (tt : TT) (t : TypeId) (x : A) (m : List Blk) (K : A → Prop) : Prop :=
 match tt.lookup t with
 | none => False
 | some ti => match ti.kind, x with
  | 3, .sl n _ _ => K (.int .i64 n)
  | 3, .own b => match m.getD b .dead with
   | .row _ _ n _ => K (.int .i64 n)
   | _ => False
  | 3, .nils => K (.int .i64 0)
  | 4, .str s => K (.int .i64 s.length)
  | _, _ => False
def sExtract (x : A) (ix : Nat) (K : A → Prop) : Prop :=
 match x with
 | .tup vs => match Nat.blt ix vs.length with
  | true => fv (vs.getD ix .junk) K
  | false => False
 | _ => False
def sNil (x : A) (K : A → Prop) : Prop :=
 match x with
 | .ref b o => K (.ref b o)
 | .oref b i o => K (.oref b i o)
 | .bref cs o => K (.bref cs o)
 | .fn f cs => K (.fn f cs)
 | _ => False
def fik (k : IntKind) (K : IntKind → Prop) : Prop :=
 match k with
 | .i8 => K .i8 | .i16 => K .i16 | .i32 => K .i32 | .i64 => K .i64
 | .u8 => K .u8 | .u16 => K .u16 | .u32 => K .u32 | .u64 => K .u64
theorem fik_eq (k : IntKind) (K : IntKind → Prop) : fik k K = K k := by cases k <;> rfl
def sConv (tt : TT) (src dst : TypeId) (x : A) (K : A → Prop) : Prop :=
 match tt.lookup src, tt.lookup dst with
 | some _, some ti => match ti.kind, x with
  | 5, .int _ n => fik ti.ik fun k => WR k n K
  | 4, .str s => K (.str s)
  | _, _ => False
 | _, _ => False
def sIndex (tt : TT) (t : TypeId) (x ix : A) (K : A → Prop) : Prop :=
 match tt.lookup t, ix with
 | some ti, .int _ i => match ti.kind, x with
  | 4, .str s => (0 ≤ i ∧ i < (s.length : Int)) ∧ K (.int .u8 ((s.getD i.toNat 0).toNat : Int))
  | 2, .agg cs => match tt.lookup ti.ety with
   | some te => (0 ≤ i ∧ i < (ti.alen : Int)) ∧ ldA te.agg te.size cs (i.toNat * ti.esz) K
   | none => False
  | _, _ => False
 | _, _ => False
def sField (tt : TT) (t : TypeId) (x : A) (f : Nat) (K : A → Prop) : Prop :=
 match tt.lookup t with
 | none => False
 | some ti => match ti.kind, ti.offs[f]?, ti.ftys[f]?, x with
  | 1, some (fo, _), some ft, .agg cs => match tt.lookup ft with
   | some te => ldA te.agg te.size cs fo K
   | none => False
  | _, _, _, _ => False
def sPick (x y z : A) (K : A → Prop) : Prop :=
 match x with
 | .bool true => fv y K
 | .bool false => fv z K
 | .sb b => (b = true → fv y K) ∧ (b = false → fv z K)
 | _ => False
end Go.Proofs.YtnkbkfjgbejhfaaGreat.Am
namespace Go.Proofs.YtnkbkfjgbejhfaaGreat.Am
variable [Inhabited DRT]
open Go.RowKit (Below)
section
variable {c : Ctx} {s : List A} {m : List Blk} {a : Act} {w w' : World} {ids ids' : Ids} {P : Program} {im im' : Nat → Prop} {tt : TT}
variable {next : Act → World → Prop} {Q : Exit → Act → World → Prop}

theorem run_binInt {op : BinOp} {k : IntKind} {x y : Int} {t t' : TypeId} {X Y : Operand} {o : Oper} {ρ : Operand → Value} (ho : o.op = .binOp op t X Y t') (hx : ρ X = .int k x) (hy : ρ Y = .int k y) {K : A → Prop}
  (h : sBinInt op k x y K) : ∃ r v, (execOp ρ o).run P w = .ok (.value v) w ∧ K r ∧ Rel ids im w r v := by
 have e1 : (execOp ρ o) = (do let z ← (do eqGuard op t X Y (.int k x) (.int k y); binOp op t (.int k x) (.int k y)); pure (.value z)) := by
  unfold execOp; rw [ho]; simp only [hx, hy]
 have e2 : (eqGuard op t X Y (.int k x) (.int k y)).run P w = .ok () w := by
  unfold eqGuard; cases op <;> rfl
 rw [e1]
 cases op <;> simp only [sBinInt] at h <;> first | exact h.elim | skip
 case quo =>
  refine ⟨_, .int k (k.wrap (x.tdiv y)), ?_, WR_inv h.2, .imm (.int _ _)⟩
  simp [e2, binOp, Op.intDiv, h.1]
 case rem =>
  refine ⟨_, .int k (x.tmod y), ?_, h.2, .imm (.int _ _)⟩
  simp [e2, binOp, Op.intDiv, h.1]
 case eql => exact ⟨_, .bool (x == y), by simp [e2, binOp, Op.intCmp], h, .imm (.sb _)⟩
 case neq => exact ⟨_, .bool (x != y), by simp [e2, binOp, Op.intCmp], h, .imm (.sb _)⟩
 case lss => exact ⟨_, .bool (decide (x < y)), by simp [e2, binOp, Op.intCmp], h, .imm (.sb _)⟩
 case leq => exact ⟨_, .bool (decide (x ≤ y)), by simp [e2, binOp, Op.intCmp], h, .imm (.sb _)⟩
 case gtr => exact ⟨_, .bool (decide (y < x)), by simp [e2, binOp, Op.intCmp], h, .imm (.sb _)⟩
 case geq => exact ⟨_, .bool (decide (y ≤ x)), by simp [e2, binOp, Op.intCmp], h, .imm (.sb _)⟩
 case add => exact ⟨_, .int k (k.wrap (x + y)), by simp [e2, binOp, Op.intArith], WR_inv h, .imm (.int _ _)⟩
 case sub => exact ⟨_, .int k (k.wrap (x - y)), by simp [e2, binOp, Op.intArith], WR_inv h, .imm (.int _ _)⟩
 case mul => exact ⟨_, .int k (k.wrap (x * y)), by simp [e2, binOp, Op.intArith], WR_inv h, .imm (.int _ _)⟩
 case and => exact ⟨_, .int k (k.wrap (BitVec.ofInt k.bits x &&& BitVec.ofInt k.bits y).toNat), by simp [e2, binOp, Op.intBits], h, .imm (.int _ _)⟩
 case or => exact ⟨_, .int k (k.wrap (BitVec.ofInt k.bits x ||| BitVec.ofInt k.bits y).toNat), by simp [e2, binOp, Op.intBits], h, .imm (.int _ _)⟩
 case xor => exact ⟨_, .int k (k.wrap (BitVec.ofInt k.bits x ^^^ BitVec.ofInt k.bits y).toNat), by simp [e2, binOp, Op.intBits], h, .imm (.int _ _)⟩
 case andNot => exact ⟨_, .int k (k.wrap (BitVec.ofInt k.bits x &&& ~~~BitVec.ofInt k.bits y).toNat), by simp [e2, binOp, Op.intBits], h, .imm (.int _ _)⟩

theorem ba_toList (l : List UInt8) : (ByteArray.mk l.toArray).toList = l := by simp
theorem run_binStr {op : BinOp} {x y : List UInt8} {t t' : TypeId} {X Y : Operand} {o : Oper} {ρ : Operand → Value} (ho : o.op = .binOp op t X Y t') (hx : ρ X = .string ⟨x.toArray⟩) (hy : ρ Y = .string ⟨y.toArray⟩) {K : A → Prop}
  (h : sBinStr op x y K) : ∃ r v, (execOp ρ o).run P w = .ok (.value v) w ∧ K r ∧ Rel ids im w r v := by
 have e1 : (execOp ρ o) = (do let z ← (do eqGuard op t X Y (.string ⟨x.toArray⟩) (.string ⟨y.toArray⟩); binOp op t (.string ⟨x.toArray⟩) (.string ⟨y.toArray⟩)); pure (.value z)) := by
  unfold execOp; rw [ho]; simp only [hx, hy]
 have e2 : (eqGuard op t X Y (.string ⟨x.toArray⟩) (.string ⟨y.toArray⟩)).run P w = .ok () w := by
  unfold eqGuard; cases op <;> rfl
 have e3 : (binOp op t (.string ⟨x.toArray⟩) (.string ⟨y.toArray⟩)) = Op.stringOp op ⟨x.toArray⟩ ⟨y.toArray⟩ := by
  cases op <;> rfl
 rw [e1, e3]
 cases op <;> simp only [sBinStr] at h <;> first | exact h.elim | skip
 case add =>
  refine ⟨_, .string ⟨(x ++ y).toArray⟩, ?_, h.2, .imm (.str _)⟩
  have e4 : ¬ (IntKind.i64.max < ((x.length + y.length : Nat) : Int)) := by
   have : IntKind.i64.max = 9223372036854775807 := by decide
   rw [this]; have := h.1; omega
  have e6 : (Op.stringOp .add ⟨x.toArray⟩ ⟨y.toArray⟩) = pure (.string ⟨(x ++ y).toArray⟩) := by
   unfold Op.stringOp
   rw [if_neg (by simpa [ByteArray.size] using e4)]
   congr 2
  rw [e6]; simp [e2]
 case eql => exact ⟨_, .bool (x == y), by simp only [Op.stringOp, ba_toList]; simp [e2], h, .imm (.sb _)⟩
 case neq => exact ⟨_, .bool !(x == y), by simp only [Op.stringOp, ba_toList]; simp [e2], h, .imm (.sb _)⟩
 case lss => exact ⟨_, .bool (Op.bytesLess x y), by simp only [Op.stringOp, ba_toList]; simp [e2], h, .imm (.sb _)⟩
 case leq => exact ⟨_, .bool (Op.bytesLess x y || x == y), by simp only [Op.stringOp, ba_toList]; simp [e2], h, .imm (.sb _)⟩
 case gtr => exact ⟨_, .bool !(Op.bytesLess x y || x == y), by simp only [Op.stringOp, ba_toList]; simp [e2], h, .imm (.sb _)⟩
 case geq => exact ⟨_, .bool !(Op.bytesLess x y), by simp only [Op.stringOp, ba_toList]; simp [e2], h, .imm (.sb _)⟩

theorem run_shift {op : BinOp} {k k' : IntKind} {x y : Int} {t t' : TypeId} {X Y : Operand} {o : Oper} {ρ : Operand → Value} (ho : o.op = .binOp op t X Y t') (hx : ρ X = .int k x) (hy : ρ Y = .int k' y) {K : A → Prop}
  (h : sShift op k x y K) : ∃ r v, (execOp ρ o).run P w = .ok (.value v) w ∧ K r ∧ Rel ids im w r v := by
 have e1 : (execOp ρ o) = (do let z ← (do eqGuard op t X Y (.int k x) (.int k' y); binOp op t (.int k x) (.int k' y)); pure (.value z)) := by
  unfold execOp; rw [ho]; simp only [hx, hy]
 have e2 : (eqGuard op t X Y (.int k x) (.int k' y)).run P w = .ok () w := by
  unfold eqGuard; cases op <;> rfl
 rw [e1]
 cases op <;> simp only [sShift] at h <;> first | exact h.elim | skip
 case shl => exact ⟨_, .int k (k.wrap (x * 2 ^ (min y.toNat k.bits))), by simp [e2, binOp, Op.shift, Int.not_lt.2 h.1], WR_inv h.2, .imm (.int _ _)⟩
 case shr => exact ⟨_, .int k (x.fdiv (2 ^ (min y.toNat k.bits))), by simp [e2, binOp, Op.shift, Int.not_lt.2 h.1], h.2, .imm (.int _ _)⟩

theorem run_un {op : UnOp} {x : A} {t : TypeId} {X : Operand} {o : Oper} {ρ : Operand → Value} (ho : o.op = .unOp op t X) (hx : Rel ids im w x (ρ X)) {K : A → Prop}
  (h : sUn op x K) : ∃ r v, (execOp ρ o).run P w = .ok (.value v) w ∧ K r ∧ Rel ids im w r v := by
 have e1 : (execOp ρ o) = (do let z ← Op.unary op (ρ X); pure (.value z)) := by unfold execOp; rw [ho]
 rw [e1]
 unfold sUn at h
 split at h
 ·rw [hx.bool_inv]; rename_i b; exact ⟨_, .bool !b, by simp [Op.unary], h, .imm (.bool _)⟩
 ·rw [hx.sb_inv]; rename_i b; exact ⟨_, .bool !b, by simp [Op.unary], h, .imm (.sb _)⟩
 ·rw [hx.int_inv]; rename_i k n; exact ⟨_, .int k (k.wrap (0 - n)), by simp [Op.unary, Op.intArith], by have := WR_inv h; simpa using this, .imm (.int _ _)⟩
 ·exact h.elim

/-! ### Types of the table -/
theorem TTok.facts (htt : TTok P tt) {t : TypeId} {ti : TI} (h : tt.lookup t = some ti) :
  ∃ i d z, P.info? t = some i ∧ P.underlying t = some d ∧ i.zero = some z ∧ i.size = ti.size ∧ (∀ v ∈ z.cells.toList, v.oneCell' = true) ∧ z.cells.size = i.size ∧
   ti.zero = z.cells.toList.map ofConst ∧ ti.agg = isRowD d ∧
   (ti.kind = 1 → ∃ fs, d = .struct fs ∧ ti.offs = fs.toList.map fun f => (f.offset, ((P.info? f.type).map (·.size)).getD 0)) ∧
   (ti.kind = 1 → ∃ fs, d = .struct fs ∧ fs.toList.all (fun f => ((P.info? f.type).map (·.size)).getD 0 != 0) = true) ∧
   (ti.kind = 2 → ∃ ie, d = .array ti.alen ti.ety ∧ P.info? ti.ety = some ie ∧ ie.size = ti.esz) ∧
   (ti.kind = 3 → ∃ ie ze, d = .slice ti.ety ∧ P.info? ti.ety = some ie ∧ ie.size = ti.esz ∧ ie.bytes = ti.ebytes ∧ ie.zero = some ze ∧ ze.cells.size = ti.esz ∧ ti.esz ≠ 0) ∧
   (ti.kind = 5 → d = .int ti.ik) ∧ (ti.kind = 4 → d = .string) ∧ ti.eqs = eqShape P 6 t ∧ (ti.kind = 6 → d = .bool) := by
 have := htt t ti h
 unfold mkTI at this
 split at this
 ·rename_i i d hi hd
  split at this
  ·rename_i z hz
   split at this
   ·rename_i hc
    simp only [Bool.and_eq_true, List.all_eq_true, beq_iff_eq] at hc
    replace hc := hc.2
    refine ⟨i, d, z, hi, hd, hz, ?_⟩
    cases d
    case struct fs =>
     simp only at this
     split at this
     ·rename_i hall; cases this
      refine ⟨rfl, hc.1, hc.2, rfl, rfl, fun _ => ⟨fs, rfl, rfl⟩, fun _ => ⟨fs, rfl, hall⟩, ?_, ?_, ?_, ?_, rfl, ?_⟩ <;> (intro hk; simp at hk)
     ·cases this
    case array n e =>
     simp only at this
     split at this
     ·rename_i ie hie; cases this
      refine ⟨rfl, hc.1, hc.2, rfl, rfl, ?_, ?_, fun _ => ⟨ie, rfl, hie, rfl⟩, ?_, ?_, ?_, rfl, ?_⟩ <;> (intro hk; simp at hk)
     ·cases this
    case slice e =>
     simp only at this
     split at this
     ·rename_i ie hie
      split at this
      ·rename_i ze hze
       split at this
       ·rename_i hcc; cases this
        simp only [Bool.and_eq_true, beq_iff_eq, bne_iff_ne] at hcc
        refine ⟨rfl, hc.1, hc.2, rfl, rfl, ?_, ?_, ?_, fun _ => ⟨ie, ze, rfl, hie, rfl, rfl, hze, hcc.1, hcc.2⟩, ?_, ?_, rfl, ?_⟩ <;> (intro hk; simp at hk)
       ·cases this
      ·cases this
     ·cases this
    case tuple => cases this
    case named => cases this
    case int k =>
     cases this
     refine ⟨rfl, hc.1, hc.2, rfl, rfl, ?_, ?_, ?_, ?_, fun _ => rfl, ?_, rfl, ?_⟩ <;> (intro hk; simp at hk)
    case string =>
     cases this
     refine ⟨rfl, hc.1, hc.2, rfl, rfl, ?_, ?_, ?_, ?_, ?_, fun _ => rfl, rfl, ?_⟩ <;> (intro hk; simp at hk)
    case bool =>
     cases this
     refine ⟨rfl, hc.1, hc.2, rfl, rfl, ?_, ?_, ?_, ?_, ?_, ?_, rfl, fun _ => rfl⟩ <;> (intro hk; simp at hk)
    all_goals
     cases this
     refine ⟨rfl, hc.1, hc.2, rfl, rfl, ?_, ?_, ?_, ?_, ?_, ?_, rfl, ?_⟩ <;> (intro hk; simp at hk)
   ·cases this
  ·cases this
 ·cases this

theorem TTok.ftys (htt : TTok P tt) {t : TypeId} {ti : TI} (h : tt.lookup t = some ti) (hk : ti.kind = 1) : ∃ fs, P.underlying t = some (.struct fs) ∧ ti.ftys = fs.toList.map (·.type) ∧ ti.offs = fs.toList.map fun f => (f.offset, ((P.info? f.type).map (·.size)).getD 0) := by
 have := htt t ti h
 unfold mkTI at this
 split at this
 ·rename_i i d hi hd
  split at this
  ·rename_i z hz
   split at this
   ·rename_i hc0
    cases d
    case struct fs =>
     simp only at this
     split at this
     ·cases this; exact ⟨fs, hd, rfl, rfl⟩
     ·cases this
    case array n e =>
     simp only at this
     split at this
     ·cases this; simp at hk
     ·cases this
    case slice e =>
     simp only at this
     split at this
     ·split at this
      ·split at this
       ·cases this; simp at hk
       ·cases this
      ·cases this
     ·cases this
    case tuple => cases this
    case named => cases this
    all_goals (cases this; simp at hk)
   ·cases this
  ·cases this
 ·cases this
theorem TTok.zAgg (htt : TTok P tt) {t : TypeId} {ti : TI} (h : tt.lookup t = some ti) : ∃ i d z, P.info? t = some i ∧ P.underlying t = some d ∧ i.zero = some z ∧ isAggV z = isRowD d := by
 have := htt t ti h
 unfold mkTI at this
 split at this
 ·rename_i i d hi hd
  split at this
  ·rename_i z hz
   split at this
   ·rename_i hc
    simp only [Bool.and_eq_true, beq_iff_eq] at hc
    exact ⟨i, d, z, hi, hd, hz, hc.1⟩
   ·cases this
  ·cases this
 ·cases this
/-- The zero of a type. -/
theorem TTok.zeroRun (htt : TTok P tt) {t : TypeId} {ti : TI} (h : tt.lookup t = some ti) (im : Nat → Prop) (w : World) :
  ∃ zv, (zeroValue t).run P w = .ok zv w ∧ (ti.agg = true → RelI im w (.agg ti.zero) zv) ∧ (ti.agg = false → ∃ z, ti.zero = [z] ∧ RelI im w z zv) := by
 obtain ⟨i, d, z, hi, hd, hz, _, hone, _, hzero, hagg, _⟩ := htt.facts h
 obtain ⟨i', d', z', hi', hd', hz', hag⟩ := htt.zAgg h
 rw [hi] at hi'; cases hi'
 rw [hd] at hd'; cases hd'
 rw [hz] at hz'; cases hz'
 refine ⟨z, by simp [zeroValue, typeInfo, hi, hz], ?_, ?_⟩
 ·intro ha
  rw [hagg] at ha
  rw [ha] at hag
  obtain ⟨cs, rfl⟩ : ∃ cs, z = .agg cs := by cases z <;> first | exact ⟨_, rfl⟩ | simp [isAggV] at hag
  have := RelI.agg (im := im) (w := w) (cs.toList.map ofConst) cs.toList (by simp) (fun v hv => hone v hv) (fun j h h' => by rw [List.getElem_map]; exact ofConst_rel _ _ _)
  rw [hzero]
  show RelI im w (.agg (List.map ofConst cs.toList)) _
  simpa using this
 ·intro ha
  rw [hagg] at ha
  rw [ha] at hag
  have hc : z.cells = #[z] := by cases z <;> first | rfl | simp [isAggV] at hag
  exact ⟨ofConst z, by rw [hzero, hc]; simp, ofConst_rel _ _ _⟩
theorem TTok.mapFact (htt : TTok P tt) {t : TypeId} {ti : TI} (h : tt.lookup t = some ti) (hk : ti.kind = 7) : P.underlying t = some (.map ti.alen ti.ety) := by
 have := htt t ti h
 unfold mkTI at this
 split at this
 ·rename_i i d hi hd
  split at this
  ·split at this
   ·cases d
    case map k e => cases this; exact hd
    case struct fs =>
     simp only at this
     split at this
     ·cases this; simp at hk
     ·cases this
    case array n e =>
     simp only at this
     split at this
     ·cases this; simp at hk
     ·cases this
    case slice e =>
     simp only at this
     split at this
     ·split at this
      ·split at this
       ·cases this; simp at hk
       ·cases this
      ·cases this
     ·cases this
    case tuple => cases this
    case named => cases this
    all_goals
     cases this
     simp at hk
   ·cases this
  ·cases this
 ·cases this
theorem TTok.ptrFact (htt : TTok P tt) {t : TypeId} {ti : TI} (h : tt.lookup t = some ti) (hk : ti.kind = 8) : ∃ e, P.underlying t = some (.pointer e) := by
 have := htt t ti h
 unfold mkTI at this
 split at this
 ·rename_i i d hi hd
  split at this
  ·split at this
   ·cases d
    case pointer => exact ⟨_, hd⟩
    case struct fs =>
     simp only at this
     split at this
     ·cases this; simp at hk
     ·cases this
    case array n e =>
     simp only at this
     split at this
     ·cases this; simp at hk
     ·cases this
    case slice e =>
     simp only at this
     split at this
     ·split at this
      ·split at this
       ·cases this; simp at hk
       ·cases this
      ·cases this
     ·cases this
    case tuple => cases this
    case named => cases this
    all_goals
     cases this
     simp at hk
   ·cases this
  ·cases this
 ·cases this
theorem TTok.fnFact (htt : TTok P tt) {t : TypeId} {ti : TI} (h : tt.lookup t = some ti) (hk : ti.kind = 9) : ∃ a b c, P.underlying t = some (.func a b c) := by
 have := htt t ti h
 unfold mkTI at this
 split at this
 ·rename_i i d hi hd
  split at this
  ·split at this
   ·cases d
    case func => exact ⟨_, _, _, hd⟩
    case struct fs =>
     simp only at this
     split at this
     ·cases this; simp at hk
     ·cases this
    case array n e =>
     simp only at this
     split at this
     ·cases this; simp at hk
     ·cases this
    case slice e =>
     simp only at this
     split at this
     ·split at this
      ·split at this
       ·cases this; simp at hk
       ·cases this
      ·cases this
     ·cases this
    case tuple => cases this
    case named => cases this
    all_goals
     cases this
     simp at hk
   ·cases this
  ·cases this
 ·cases this
theorem nilC_run (htt : TTok P tt) {x y : A} {v u : Value} {k : Nat} {b : Bool} (h : nilC x y = some (k, b)) (hx : Rel ids im w x v) (hy : Rel ids im w y u) {t : TypeId} {ti : TI} (ht : tt.lookup t = some ti) (hk : ti.kind = k) :
  ((Op.equal t v u).run P w = .ok b w ∧ binOp .eql t v u = (do pure (.bool (← Op.equal t v u))) ∧ binOp .neq t v u = (do pure (.bool (!(← Op.equal t v u)))) ∧ ∀ op X Y, (eqGuard op t X Y v u).run P w = .ok () w) := by
 have hP : k = 8 → ∃ e, P.underlying t = some (.pointer e) := fun e => htt.ptrFact ht (by rw [hk]; exact e)
 have hM : k = 7 → P.underlying t = some (.map ti.alen ti.ety) := fun e => htt.mapFact ht (by rw [hk]; exact e)
 have ptr : ∀ (p : Option Addr), k = 8 → v = .pointer p → u = .pointer none → b = p.isNone → ((Op.equal t v u).run P w = .ok b w ∧ binOp .eql t v u = (do pure (.bool (← Op.equal t v u))) ∧ binOp .neq t v u = (do pure (.bool (!(← Op.equal t v u)))) ∧ ∀ op X Y, (eqGuard op t X Y v u).run P w = .ok () w) := by
  rintro p e rfl rfl hb
  obtain ⟨el, hu⟩ := hP e
  refine ⟨?_, rfl, rfl, fun op X Y => ?_⟩
  ·unfold Op.equal Op.maxDepth Op.equalIn
   rw [Sem.run_bind, run_underlying hu]
   cases p <;> simp [hb]
  ·unfold eqGuard; cases op <;> rfl
 have mp : ∀ (p : Option Nat), k = 7 → v = .map p → u = .map none → b = p.isNone → ((Op.equal t v u).run P w = .ok b w ∧ binOp .eql t v u = (do pure (.bool (← Op.equal t v u))) ∧ binOp .neq t v u = (do pure (.bool (!(← Op.equal t v u)))) ∧ ∀ op X Y, (eqGuard op t X Y v u).run P w = .ok () w) := by
  rintro p e rfl rfl hb
  have hu := hM e
  refine ⟨?_, rfl, rfl, fun op X Y => ?_⟩
  ·unfold Op.equal Op.maxDepth Op.equalIn
   rw [Sem.run_bind, run_underlying hu]
   cases p <;> simp [hb]
  ·unfold eqGuard; cases op <;> rfl
 have fnc : k = 9 → (v = .nilFunc ∧ b = true ∨ (∃ f as cs, v = .func f as cs) ∧ b = false) → u = .nilFunc → ((Op.equal t v u).run P w = .ok b w ∧ binOp .eql t v u = (do pure (.bool (← Op.equal t v u))) ∧ binOp .neq t v u = (do pure (.bool (!(← Op.equal t v u)))) ∧ ∀ op X Y, (eqGuard op t X Y v u).run P w = .ok () w) := by
  intro e hv hu'
  obtain ⟨f1, f2, f3, hu⟩ := htt.fnFact ht (by rw [hk]; exact e)
  subst hu'
  rcases hv with ⟨rfl, rfl⟩ | ⟨⟨f, as, cs, rfl⟩, rfl⟩
  ·refine ⟨?_, rfl, rfl, fun op X Y => by unfold eqGuard; cases op <;> rfl⟩
   unfold Op.equal Op.maxDepth Op.equalIn
   rw [Sem.run_bind, run_underlying hu]
   rfl
  ·refine ⟨?_, rfl, rfl, fun op X Y => by unfold eqGuard; cases op <;> rfl⟩
   unfold Op.equal Op.maxDepth Op.equalIn
   rw [Sem.run_bind, run_underlying hu]
   rfl
 have nfn : Rel ids im w .nilfn u → u = .nilFunc := fun h => by cases h with | imm h => cases h; rfl
 unfold nilC at h
 split at h <;> cases h
 ·exact ptr none rfl hx.nilp_inv hy.nilp_inv rfl
 ·rcases hx.ref_inv with ⟨p, _, e⟩ | ⟨_, x, y, e⟩ <;> exact ptr _ rfl e hy.nilp_inv rfl
 ·rcases hx.oref_inv with ⟨p, _, e⟩ | ⟨_, x, y, e⟩ <;> exact ptr _ rfl e hy.nilp_inv rfl
 ·cases hx with | imm hx => cases hx; exact ptr _ rfl rfl hy.nilp_inv rfl
 ·exact mp none rfl hx.nilm_inv hy.nilm_inv rfl
 ·rcases hx.omap_inv with ⟨p, _, e⟩ | ⟨_, x, e⟩ <;> exact mp _ rfl e hy.nilm_inv rfl
 ·cases hx with | imm hx => cases hx; exact mp _ rfl rfl hy.nilm_inv rfl
 ·cases hx with | imm hx => cases hx; exact fnc rfl (.inl ⟨rfl, rfl⟩) (nfn hy)
 ·obtain ⟨us, rfl, _⟩ := hx.fn_inv
  exact fnc rfl (.inr ⟨⟨_, _, _, rfl⟩, rfl⟩) (nfn hy)
theorem asB_rel {x : A} {v : Value} {b : Bool} (h : asB x = some b) (hr : Rel ids im w x v) : v = .bool b := by
 cases x <;> simp [asB] at h
 ·subst h; exact hr.bool_inv
 ·subst h; exact hr.sb_inv

theorem sEq_sound : ∀ (sh : List Nat) (cs cs' : List A) (vs vs' : List Value) (K : Bool → Prop), vs.length = cs.length → vs'.length = cs'.length →
  (∀ j (h : j < cs.length) (h' : j < vs.length), Rel ids im w cs[j] vs[j]) → (∀ j (h : j < cs'.length) (h' : j < vs'.length), Rel ids im w cs'[j] vs'[j]) → sEq sh cs cs' K → ∃ r, okL sh vs vs' r ∧ K r
 | [], [], [], vs, vs', K, h1, h2, _, _, h => by
  have e1 : vs = [] := by cases vs <;> simp at h1 ⊢
  have e2 : vs' = [] := by cases vs' <;> simp at h2 ⊢
  subst e1; subst e2
  exact ⟨true, rfl, h⟩
 | k :: ks, x :: xs, y :: ys, vs, vs', K, h1, h2, h3, h4, h => by
  cases vs with
  | nil => simp at h1
  | cons v vs =>
   cases vs' with
   | nil => simp at h2
   | cons v' vs' =>
    have hx : Rel ids im w x v := h3 0 (by simp) (by simp)
    have hy : Rel ids im w y v' := h4 0 (by simp) (by simp)
    have go : ∀ b, ok1 k v v' b → sEq ks xs ys (fun r => K (b && r)) → ∃ r, okL (k :: ks) (v :: vs) (v' :: vs') r ∧ K r := by
     intro b hb hh
     obtain ⟨r, g1, g2⟩ := sEq_sound ks xs ys vs vs' _ (by simpa using h1) (by simpa using h2)
      (fun j p q => h3 (j + 1) (Nat.succ_lt_succ p) (Nat.succ_lt_succ q)) (fun j p q => h4 (j + 1) (Nat.succ_lt_succ p) (Nat.succ_lt_succ q)) hh
     exact ⟨b && r, ⟨b, r, hb, g1, rfl⟩, g2⟩
    unfold sEq at h
    split at h
    ·split at h
     ·rename_i p a q b
      split at h
      ·rename_i hk; rw [kindEq_iff] at hk; subst hk
       exact go _ (.inl ⟨rfl, p, a, b, hx.int_inv, hy.int_inv, rfl⟩) h
      ·exact h.elim
     ·exact h.elim
    ·split at h
     ·rename_i a b ha hb
      exact go _ (.inr (.inl ⟨rfl, a, b, asB_rel ha hx, asB_rel hb hy, rfl⟩)) h
     ·exact h.elim
    ·split at h
     ·rename_i a b
      refine go (a == b) (.inr (.inr ⟨rfl, ⟨a.toArray⟩, ⟨b.toArray⟩, hx.str_inv, hy.str_inv, by rw [ba_toList, ba_toList]⟩)) h
     ·exact h.elim
    ·exact h.elim
 | [], [], _ :: _, _, _, _, _, _, _, _, h => h.elim
 | [], _ :: _, _, _, _, _, _, _, _, _, h => by unfold sEq at h; exact h.elim
 | _ :: _, [], _, _, _, _, _, _, _, _, h => by unfold sEq at h; exact h.elim
 | _ :: _, _ :: _, [], _, _, _, _, _, _, _, h => by unfold sEq at h; exact h.elim

theorem run_bin (htt : TTok P tt) {op : BinOp} {x y : A} {t t' : TypeId} {X Y : Operand} {o : Oper} {ρ : Operand → Value} (ho : o.op = .binOp op t X Y t') (hx : Rel ids im w x (ρ X)) (hy : Rel ids im w y (ρ Y)) {K : A → Prop}
  (h : sBin tt t op x y K) : ∃ r v, (execOp ρ o).run P w = .ok (.value v) w ∧ K r ∧ Rel ids im w r v := by
 unfold sBin at h
 split at h
 ·split at h
  ·exact run_shift ho hx.int_inv hy.int_inv h
  ·split at h
   ·rename_i hk; rw [kindEq_iff] at hk; subst hk
    exact run_binInt ho hx.int_inv hy.int_inv h
   ·exact h.elim
 ·exact run_binStr ho hx.str_inv hy.str_inv h
 ·rename_i cs cs'
  split at h
  ·rename_i ti ht
   obtain ⟨i, d, z, hi, hd, hz, hsz, hone, hzs, hzero, hag, hk1, hk1', hk2, hk3, hk5, hk4, heq, _⟩ := htt.facts ht
   obtain ⟨vs, hv1, hv2, hv3, hv4⟩ := hx.agg_inv
   obtain ⟨us, hu1, hu2, hu3, hu4⟩ := hy.agg_inv
   have e1 : ∀ op', o.op = .binOp op' t X Y t' → (execOp ρ o) = (do let z ← (do eqGuard op' t X Y (.agg vs.toArray) (.agg us.toArray); binOp op' t (.agg vs.toArray) (.agg us.toArray)); pure (.value z)) := by
    intro op' ho; unfold execOp; rw [ho]; simp only [hv1, hu1]
   have hdep : 6 ≤ P.depth := by unfold Program.depth Made.depth; omega
   have hmk : ti.agg = true → ∀ l : List Value, mkV P t l = .agg l.toArray := by
    intro ha l
    rw [hag] at ha
    unfold mkV; rw [hd]
    cases d <;> simp [isRowD] at ha <;> rfl
   split at h
   ·rename_i sh hag1 hsh
    obtain ⟨r, g1, g2⟩ := sEq_sound (ids := ids) (im := im) (w := w) sh cs cs' vs us _ hv2 hu2 hv4 hu4 h
    have := run_eql_agg (P := P) (w := w) (op := .eql) (.inl rfl) (by rw [← heq]; exact hsh) (by omega) hdep g1 (hmk hag1 _) (hmk hag1 _) X Y
    refine ⟨_, .bool r, ?_, g2, .imm (.sb _)⟩
    rw [e1 _ ho, Sem.run_bind, this]; rfl
   ·rename_i sh hag1 hsh
    obtain ⟨r, g1, g2⟩ := sEq_sound (ids := ids) (im := im) (w := w) sh cs cs' vs us _ hv2 hu2 hv4 hu4 h
    have := run_eql_agg (P := P) (w := w) (op := .neq) (.inr rfl) (by rw [← heq]; exact hsh) (by omega) hdep g1 (hmk hag1 _) (hmk hag1 _) X Y
    refine ⟨_, .bool !r, ?_, g2, .imm (.sb _)⟩
    rw [e1 _ ho, Sem.run_bind, this]; rfl
   ·exact h.elim
  ·exact h.elim
 ·split at h
  ·rename_i k b hnil
   split at h
   ·rename_i ti ht
    have e0 : ∀ op', o.op = .binOp op' t X Y t' → (execOp ρ o) = (do let z ← (do eqGuard op' t X Y (ρ X) (ρ Y); binOp op' t (ρ X) (ρ Y)); pure (.value z)) := by
     intro op' ho; unfold execOp; rw [ho]
    split at h
    ·rename_i hk
     obtain ⟨g1, g2, g3, g4⟩ := nilC_run (P := P) (w := w) htt hnil hx hy ht (Nat.eq_of_beq_eq_true hk)
     refine ⟨_, .bool b, ?_, h, .imm (.bool _)⟩
     rw [e0 _ ho]; simp [g4, g2, g1]
    ·rename_i hk
     obtain ⟨g1, g2, g3, g4⟩ := nilC_run (P := P) (w := w) htt hnil hx hy ht (Nat.eq_of_beq_eq_true hk)
     refine ⟨_, .bool !b, ?_, h, .imm (.bool _)⟩
     rw [e0 _ ho]; simp [g4, g3, g1]
    ·exact h.elim
   ·exact h.elim
  rename_i hnn
  split at h
  rotate_left
  ·exact h.elim
  ·rename_i a b ti ha hb ht
   obtain ⟨i, d, z, hi, hd, hz, hsz, hone, hzs, hzero, hag, hk1, hk1', hk2, hk3, hk5, hk4, heq, hk6⟩ := htt.facts ht
   have hxv := asB_rel ha hx
   have hyv := asB_rel hb hy
   have e1 : ∀ op', o.op = .binOp op' t X Y t' → (execOp ρ o) = (do let z ← (do eqGuard op' t X Y (.bool a) (.bool b); binOp op' t (.bool a) (.bool b)); pure (.value z)) := by
    intro op' ho; unfold execOp; rw [ho]; simp only [hxv, hyv]
   split at h
   ·rename_i hk
    have hdd := hk6 hk
    subst hdd
    have e2 : (eqGuard .eql t X Y (.bool a) (.bool b)).run P w = .ok () w := by unfold eqGuard; rfl
    refine ⟨_, .bool (a == b), ?_, h, .imm (.sb _)⟩
    rw [e1 _ ho]; simp [e2, binOp, run_equal_bool w t a b hd]
   ·rename_i hk
    have hdd := hk6 hk
    subst hdd
    have e2 : (eqGuard .neq t X Y (.bool a) (.bool b)).run P w = .ok () w := by unfold eqGuard; rfl
    refine ⟨_, .bool !(a == b), ?_, h, .imm (.sb _)⟩
    rw [e1 _ ho]; simp [e2, binOp, run_equal_bool w t a b hd]
   ·exact h.elim
end
end Go.Proofs.YtnkbkfjgbejhfaaGreat.Am
namespace Go.Proofs.YtnkbkfjgbejhfaaGreat.Am
variable [Inhabited DRT]
open Go.RowKit (Below)
section
variable {c : Ctx} {s : List A} {m : List Blk} {a : Act} {w w' : World} {ids ids' : Ids} {P : Program} {im im' : Nat → Prop} {tt : TT}
variable {next : Act → World → Prop} {Q : Exit → Act → World → Prop}

/-- A run of cells in memory, each related. -/
def Run (ids : Ids) (im : Nat → Prop) (w : World) (cs : List A) (blk base : Nat) : Prop :=
 ∃ vs : List Value, vs.length = cs.length ∧ (∀ j (h : j < vs.length), w.cell? ⟨blk, base + j, none⟩ = some vs[j]) ∧ (∀ v ∈ vs, oneV v) ∧
  ∀ j (h : j < cs.length) (h' : j < vs.length), Rel ids im w cs[j] vs[j]

theorem run_loadVar_agg {t : TypeId} {d : TypeDesc} {i : TypeInfo} (hi : P.info? t = some i) (hd : P.underlying t = some d)
  (hg : isRowD d = true) (blk off : Nat) (vs : List Value) (hl : vs.length = i.size)
  (hc : ∀ j (h : j < vs.length), w.cell? ⟨blk, off + j, none⟩ = some vs[j]) : (loadVar t ⟨blk, off, none⟩).run P w = .ok (.agg vs.toArray) w := by
 have h1 : (loadCells ⟨blk, off, none⟩ vs.length).run P w = .ok vs.toArray w := run_loadCells_list w ⟨blk, off, none⟩ vs (fun j v hv => by
  have hj : j < vs.length := by
   rcases Nat.lt_or_ge j vs.length with h | h
   ·exact h
   ·rw [List.getElem?_eq_none h] at hv; cases hv
  have e : vs[j] = v := by rw [List.getElem?_eq_getElem hj] at hv; exact Option.some.inj hv
  have := hc j hj
  rw [e] at this
  unfold Addr.add
  split
  ·rename_i h0; subst h0; simpa using this
  ·exact this)
 rw [hl] at h1
 unfold loadVar isAgg
 cases d <;> simp [isRowD] at hg <;> simp [underlying, hd, sizeOf, typeInfo, hi, h1]
theorem run_loadVar_one {t : TypeId} {d : TypeDesc} (hd : P.underlying t = some d)
  (hg : isRowD d = false) (blk off : Nat) (v : Value)
  (hc : w.cell? ⟨blk, off, none⟩ = some v) : (loadVar t ⟨blk, off, none⟩).run P w = .ok v w := by
 unfold loadVar isAgg
 cases d <;> simp [isRowD] at hg <;> simp [underlying, hd, hc]

theorem ldA_sound (htt : TTok P tt) {t : TypeId} {ti : TI} (ht : tt.lookup t = some ti) {cs : List A} {blk base off : Nat} (hrun : Run ids im w cs blk base) {K : A → Prop}
  (h : ldA ti.agg ti.size cs off K) : ∃ r v, (loadVar t ⟨blk, base + off, none⟩).run P w = .ok v w ∧ K r ∧ Rel ids im w r v := by
 obtain ⟨i, d, z, hi, hd, hz, hsz, _, _, _, hag, _⟩ := htt.facts ht
 obtain ⟨vs, hl, hc, ho, hr⟩ := hrun
 unfold ldA at h
 split at h
 ·rename_i hb
  split at h
  ·rename_i hle
   rw [fl_eq, takeL_eq] at h
   have hle := Nat.le_of_ble_eq_true hle
   have hlv : ((vs.drop off).take ti.size).length = ti.size := by simp; omega
   have hlc : ((cs.drop off).take ti.size).length = ti.size := by simp; omega
   refine ⟨_, .agg ((vs.drop off).take ti.size).toArray, ?_, h, ?_⟩
   ·refine run_loadVar_agg hi hd (by rw [← hag]; exact hb) blk (base + off) _ (by rw [hlv, hsz]) ?_
    intro j hj
    rw [hlv] at hj
    have := hc (off + j) (by omega)
    rw [← Nat.add_assoc] at this
    simpa using this
   ·refine .agg _ _ (by rw [hlv, hlc]) ?_ ?_
    ·intro v hv; exact ho v (List.mem_of_mem_drop (List.mem_of_mem_take hv))
    ·intro j h1 h2
     rw [hlc] at h1
     have := hr (off + j) (by omega) (by omega)
     simpa using this
  ·exact h.elim
 ·rename_i hb
  split at h
  ·rename_i hlt
   rw [fv_eq] at h
   have hlt : off < cs.length := Nat.le_of_ble_eq_true hlt
   refine ⟨_, vs[off]'(by omega), ?_, h, ?_⟩
   ·exact run_loadVar_one hd (by rw [← hag]; exact hb) blk _ _ (hc off (by omega))
   ·have := hr off hlt (by omega)
    simpa [List.getD_eq_getElem?_getD, hlt] using this
  ·exact h.elim

theorem getD_of_get {b : Nat} {x : Blk} (h : m[b]? = some x) : m.getD b .dead = x := by simp [List.getD_eq_getElem?_getD, h]

theorem Sim.run_box (hs : Sim c s m a w ids) {b : Nat} {p : Id} (hid : ids[b]? = some (.lv p)) {ty : TypeId} {cs : List A} (hb : m.getD b .dead = .box ty cs) :
  Run ids (imOf c ids w) w cs p.blk 0 := by
 obtain ⟨x, hx, hr⟩ := hs.blk_at hid
 rw [getD_of_get hx] at hb; subst hb
 obtain ⟨vs, h1, h2, h3, h4⟩ := hr
 refine ⟨vs.toList, by simp; omega, ?_, ?_, ?_⟩
 ·intro j hj
  unfold World.cell?
  simp only [h1]
  simp at hj ⊢
 ·intro v hv
  obtain ⟨j, hj, rfl⟩ := List.getElem_of_mem hv
  simp at hj
  have := (h4 j (by omega) hj).2
  simpa using this
 ·intro j hj hj'
  simp at hj'
  have := (h4 j hj hj').1
  simpa using this
theorem Sim.run_row (hs : Sim c s m a w ids) {b : Nat} {p : Id} (hid : ids[b]? = some (.lv p)) {ty : TypeId} {sz n : Nat} {row : Nat → List A} (hb : m.getD b .dead = .row ty sz n row)
  {i : Nat} (hi : i < n) : Run ids (imOf c ids w) w (row i) p.blk (i * p.sz) := by
 obtain ⟨x, hx, hr⟩ := hs.blk_at hid
 rw [getD_of_get hx] at hb; subst hb
 obtain ⟨e1, e2, vs, h1, h2, h3, hl, h4⟩ := hr
 rw [e1]
 have hle : i * sz + sz ≤ n * sz := by
  have : (i + 1) * sz ≤ n * sz := Nat.mul_le_mul_right _ hi
  rw [Nat.add_mul] at this; omega
 refine ⟨(vs.toList.drop (i * sz)).take sz, by simp; rw [hl i hi]; omega, ?_, ?_, ?_⟩
 ·intro j hj
  simp at hj
  unfold World.cell?
  simp only [h1]
  simp
 ·intro v hv
  obtain ⟨j, hj, rfl⟩ := List.getElem_of_mem hv
  simp at hj
  have := (h4 i j hi (by rw [hl i hi]; omega) (by omega)).2
  simpa using this
 ·intro j hj hj'
  simp at hj'
  have := Rel.imm (ids := ids) (h4 i j hi hj (by omega)).1
  simpa using this

theorem sLoad_sound (htt : TTok P tt) (hs : Sim c s m a w ids) {o : Oper} {t : TypeId} {X : Operand} (ho : o.op = .load t X) {K : KT}
  (h : sLoad tt t (ev s X) m K) (hn : ∀ v m' a' w' ids', K v m' → Sim c (putD s o.dst v) m' a' w' ids' → next a' w') : o.wp P a w next Q := by
 have hx := hs.ev X
 unfold sLoad at h
 have e1 : ∀ blk off, a.eval X = .pointer (some ⟨blk, off, none⟩) → execOp a.eval o = (do let z ← loadVar t ⟨blk, off, none⟩; pure (.value z)) := by
  intro blk off he
  unfold execOp; rw [ho]; simp only [he]; rfl
 have fin : ∀ {r : A} {v : Value} {blk off : Nat}, a.eval X = .pointer (some ⟨blk, off, none⟩) → (loadVar t ⟨blk, off, none⟩).run P w = .ok v w → K r m → Rel ids (imOf c ids w) w r v → o.wp P a w next Q := by
  intro r v blk off he hrun hk hr
  refine wp_of_run (v := v) (w' := w) ?_ (hn r m _ _ ids hk (hs.putD o.dst hr))
  rw [e1 _ _ he]; simp [hrun]
 split at h
 ·exact h.elim
 ·rename_i ti ht
  split at h
  ·rename_i b off he
   rw [he] at hx
   split at h
   ·rename_i ty cs hb
    obtain ⟨p, hid, hv⟩ := hs.ref_at hx (by rw [hb]; simp)
    obtain ⟨r, v, h1, h2, h3⟩ := ldA_sound (P := P) htt ht (base := 0) (hs.run_box hid hb) h
    rw [Nat.zero_add] at h1
    exact fin hv h1 h2 h3
   ·exact h.elim
  ·rename_i b i off he
   rw [he] at hx
   split at h
   ·rename_i ty sz n row hb
    obtain ⟨p, hid, hv⟩ := hs.oref_at hx (by rw [hb]; simp)
    obtain ⟨hi, h⟩ := h
    rw [fl_eq] at h
    obtain ⟨r, v, h1, h2, h3⟩ := ldA_sound (P := P) htt ht (hs.run_row hid hb hi) h
    exact fin hv h1 h2 h3
   ·exact h.elim
  ·rename_i cs off he
   rw [he] at hx
   cases hx with
   | imm hx =>
    generalize hv : a.eval X = vv at hx
    cases hx with
    | bref blk base _ _ vs hb hc hov hr =>
     have hrun : Run ids (imOf c ids w) w cs blk base := by
      refine ⟨(List.range cs.length).map vs, by simp, ?_, ?_, ?_⟩
      ·intro j hj; simp at hj; simpa using hc j hj
      ·intro v hv; simp at hv; obtain ⟨j, hj, rfl⟩ := hv; exact hov j hj
      ·intro j hj hj'; simpa using Rel.imm (hr j hj)
     obtain ⟨r, v, h1, h2, h3⟩ := ldA_sound (P := P) htt ht hrun h
     exact fin hv h1 h2 h3
  ·exact h.elim
end
end Go.Proofs.YtnkbkfjgbejhfaaGreat.Am
namespace Go.Proofs.YtnkbkfjgbejhfaaGreat.Am
variable [Inhabited DRT]
open Go.RowKit (Below)
section
variable {c : Ctx} {s : List A} {m : List Blk} {a : Act} {w w' : World} {ids ids' : Ids} {P : Program} {im im' : Nat → Prop} {tt : TT}
variable {next : Act → World → Prop} {Q : Exit → Act → World → Prop}

theorem hasOwn_rel : ∀ (d : Nat) (x : A) (v : Value), hasOwn d x = false → Rel ids im w x v → RelI im w x v
 | 0, x, v, h, _ => by cases h
 | d + 1, x, v, h, hr => by
  cases hr with
  | imm hr => exact hr
  | ref => cases h
  | oref => cases h
  | own0 => cases h
  | own => cases h
  | ownS => cases h
  | refS => cases h
  | orefS => cases h
  | omapS => cases h
  | omap => cases h
  | ent => cases h
  | entS => cases h
  | osl => cases h
  | osl0 => cases h
  | oslS => cases h
  | agg cs vs hl ho hr =>
   refine .agg cs vs hl ho fun j h1 h2 => hasOwn_rel d _ _ ?_ (hr j h1 h2)
   simp only [hasOwn, List.any_eq_false] at h
   simpa using h _ (List.getElem_mem h1)
  | tup cs vs hl hr =>
   refine .tup cs vs hl fun j h1 h2 => hasOwn_rel d _ _ ?_ (hr j h1 h2)
   simp only [hasOwn, List.any_eq_false] at h
   simpa using h _ (List.getElem_mem h1)
  | fn f cs vs hl hr =>
   refine .fn f cs vs hl fun j h1 h2 => hasOwn_rel d _ _ ?_ (hr j h1 h2)
   simp only [hasOwn, List.any_eq_false] at h
   simpa using h _ (List.getElem_mem h1)


theorem one_rel {x : A} {v : Value} (h1 : one x = true) (h : Rel ids im w x v) : oneV v ∧ v.cells = #[v] := by
 cases h with
 | imm h => cases h <;> first | exact ⟨rfl, rfl⟩ | cases h1
 | ref => exact ⟨rfl, rfl⟩
 | oref => exact ⟨rfl, rfl⟩
 | own0 => exact ⟨rfl, rfl⟩
 | own => exact ⟨rfl, rfl⟩
 | ownS => exact ⟨rfl, rfl⟩
 | refS => exact ⟨rfl, rfl⟩
 | orefS => exact ⟨rfl, rfl⟩
 | omapS => exact ⟨rfl, rfl⟩
 | omap => exact ⟨rfl, rfl⟩
 | ent => exact ⟨rfl, rfl⟩
 | entS => exact ⟨rfl, rfl⟩
 | osl => exact ⟨rfl, rfl⟩
 | osl0 => exact ⟨rfl, rfl⟩
 | oslS => exact ⟨rfl, rfl⟩
 | agg => cases h1
 | tup => cases h1
 | fn => exact ⟨rfl, rfl⟩
theorem cells_rel {x : A} {v : Value} {cs : List A} (hc : cellsA x = some cs) (h : Rel ids im w x v) :
  ∃ vs : List Value, v.cells = vs.toArray ∧ vs.length = cs.length ∧ (∀ u ∈ vs, oneV u) ∧ ∀ j (h : j < cs.length) (h' : j < vs.length), Rel ids im w cs[j] vs[j] := by
 have single : one x = true → cs = [x] → ∃ vs : List Value, v.cells = vs.toArray ∧ vs.length = cs.length ∧ (∀ u ∈ vs, oneV u) ∧ ∀ j (h : j < cs.length) (h' : j < vs.length), Rel ids im w cs[j] vs[j] := by
  intro h1 e
  obtain ⟨o1, o2⟩ := one_rel h1 h
  refine ⟨[v], by rw [o2], by rw [e]; rfl, ?_, ?_⟩
  ·intro u hu; rw [List.mem_singleton.1 hu]; exact o1
  ·subst e; intro j hj hj'
   have : j = 0 := by simp at hj; omega
   subst this; exact h
 cases x <;> simp only [cellsA] at hc <;> first | cases hc | skip
 case agg =>
  obtain ⟨vs, rfl, h2, h3, h4⟩ := h.agg_inv
  exact ⟨vs, rfl, h2, h3, h4⟩
 all_goals exact single rfl rfl

/-- A splice of related cells. -/
theorem splice_rel {cs us : List A} {vs xs : List Value} {off : Nat} (h1 : off + us.length ≤ cs.length) (hl : vs.length = cs.length) (hl' : xs.length = us.length)
  (hr : ∀ j (h : j < cs.length) (h' : j < vs.length), Rel ids im w cs[j] vs[j]) (hr' : ∀ j (h : j < us.length) (h' : j < xs.length), Rel ids im w us[j] xs[j])
  (ho : ∀ v ∈ vs, oneV v) (ho' : ∀ v ∈ xs, oneV v) :
  (vs.take off ++ xs ++ vs.drop (off + xs.length)).length = (spl cs off us).length ∧ (∀ v ∈ vs.take off ++ xs ++ vs.drop (off + xs.length), oneV v) ∧
  ∀ j (h : j < (spl cs off us).length) (h' : j < (vs.take off ++ xs ++ vs.drop (off + xs.length)).length), Rel ids im w (spl cs off us)[j] (vs.take off ++ xs ++ vs.drop (off + xs.length))[j] := by
 refine ⟨by simp [spl]; omega, ?_, ?_⟩
 ·intro v hv
  simp only [List.mem_append] at hv
  rcases hv with (hv | hv) | hv
  ·exact ho v (List.mem_of_mem_take hv)
  ·exact ho' v hv
  ·exact ho v (List.mem_of_mem_drop hv)
 ·intro j h h'
  simp only [spl] at h ⊢
  have hlen : (spl cs off us).length = cs.length := by simp [spl]; omega
  by_cases c1 : j < off
  ·have e1 : (cs.take off ++ us ++ cs.drop (off + us.length))[j] = cs[j]'(by omega) := by
    rw [List.getElem_append_left (by simp; omega), List.getElem_append_left (by simp; omega), List.getElem_take]
   have e2 : (vs.take off ++ xs ++ vs.drop (off + xs.length))[j] = vs[j]'(by omega) := by
    rw [List.getElem_append_left (by simp; omega), List.getElem_append_left (by simp; omega), List.getElem_take]
   rw [e1, e2]; exact hr j (by omega) (by omega)
  ·by_cases c2 : j < off + us.length
   ·have e1 : (cs.take off ++ us ++ cs.drop (off + us.length))[j] = us[j - off]'(by omega) := by
     rw [List.getElem_append_left (by simp; omega), List.getElem_append_right (by simp; omega)]
     congr 1; simp; omega
    have e2 : (vs.take off ++ xs ++ vs.drop (off + xs.length))[j] = xs[j - off]'(by omega) := by
     rw [List.getElem_append_left (by simp; omega), List.getElem_append_right (by simp; omega)]
     congr 1; simp; omega
    rw [e1, e2]; exact hr' _ (by omega) (by omega)
   ·have hj : j < cs.length := by
     have : (spl cs off us).length = (cs.take off ++ us ++ cs.drop (off + us.length)).length := rfl
     omega
    have e1 : (cs.take off ++ us ++ cs.drop (off + us.length))[j] = cs[j] := by
     rw [List.getElem_append_right (by simp; omega), List.getElem_drop]
     congr 1; simp; omega
    have e2 : (vs.take off ++ xs ++ vs.drop (off + xs.length))[j] = vs[j]'(by omega) := by
     rw [List.getElem_append_right (by simp; omega), List.getElem_drop]
     congr 1; simp; omega
    rw [e1, e2]; exact hr j hj (by omega)

theorem cells_relI {x : A} {v : Value} {cs : List A} (hc : cellsA x = some cs) (h : RelI im w x v) :
  ∃ vs : List Value, v.cells = vs.toArray ∧ vs.length = cs.length ∧ (∀ u ∈ vs, oneV u) ∧ ∀ j (h : j < cs.length) (h' : j < vs.length), RelI im w cs[j] vs[j] := by
 have single : one x = true → cs = [x] → ∃ vs : List Value, v.cells = vs.toArray ∧ vs.length = cs.length ∧ (∀ u ∈ vs, oneV u) ∧ ∀ j (h : j < cs.length) (h' : j < vs.length), RelI im w cs[j] vs[j] := by
  intro h1 e
  obtain ⟨o1, o2⟩ := one_rel (ids := []) h1 (.imm h)
  refine ⟨[v], by rw [o2], by rw [e]; rfl, ?_, ?_⟩
  ·intro u hu; rw [List.mem_singleton.1 hu]; exact o1
  ·subst e; intro j hj hj'
   have : j = 0 := by simp at hj; omega
   subst this; exact h
 cases x <;> simp only [cellsA] at hc <;> first | cases hc | skip
 case agg =>
  cases h with
  | agg _ vs hl ho hr => exact ⟨vs, rfl, hl, ho, hr⟩
 all_goals exact single rfl rfl
theorem splice_relI {cs us : List A} {vs xs : List Value} {off : Nat} (h1 : off + us.length ≤ cs.length) (hl : vs.length = cs.length) (hl' : xs.length = us.length)
  (hr : ∀ j (h : j < cs.length) (h' : j < vs.length), RelI im w cs[j] vs[j]) (hr' : ∀ j (h : j < us.length) (h' : j < xs.length), RelI im w us[j] xs[j])
  (ho : ∀ v ∈ vs, oneV v) (ho' : ∀ v ∈ xs, oneV v) :
  (vs.take off ++ xs ++ vs.drop (off + xs.length)).length = (spl cs off us).length ∧ (∀ v ∈ vs.take off ++ xs ++ vs.drop (off + xs.length), oneV v) ∧
  ∀ j (h : j < (spl cs off us).length) (h' : j < (vs.take off ++ xs ++ vs.drop (off + xs.length)).length), RelI im w (spl cs off us)[j] (vs.take off ++ xs ++ vs.drop (off + xs.length))[j] := by
 obtain ⟨q1, q2, q3⟩ := splice_rel (ids := []) (im := im) (w := w) (cs := cs) (us := us) (vs := vs) (xs := xs) (off := off) h1 hl hl' (fun j h h' => .imm (hr j h h')) (fun j h h' => .imm (hr' j h h')) ho ho'
 refine ⟨q1, q2, fun j h h' => ?_⟩
 have nilr : ∀ {x : A} {v : Value}, Rel [] im w x v → RelI im w x v := by
  intro x v h
  induction h with
  | imm h => exact h
  | ref b off p h => simp at h
  | oref b i off p h => simp at h
  | own0 b h => simp at h
  | own b cap p h => simp at h
  | ownS b x n cap h => simp at h
  | refS b off x y h => simp at h
  | orefS b i off x y h => simp at h
  | omapS b x h => simp at h
  | omap b p h => simp at h
  | ent b k p n h hn => simp at h
  | entS b k n h => simp at h
  | osl b k cap x p h hx => simp at h
  | osl0 b k h => simp at h
  | oslS b k x n cap h => simp at h
  | agg cs vs hl ho hr ih => exact .agg cs vs hl ho ih
  | tup cs vs hl hr ih => exact .tup cs vs hl ih
  | fn f cs vs hl hr ih => exact .fn f cs vs hl ih
 exact nilr (q3 j h h')

theorem run_storeVar {t : TypeId} {i : TypeInfo} (hi : P.info? t = some i) (blk off : Nat) (ty : TypeId) (cur : Array Value) (v : Value) (vs : List Value) (hv : v.cells = vs.toArray)
  (hl : vs.length = i.size) (ho : ∀ u ∈ vs, oneV u) (hg : w.heap[blk]? = some (.cells cur ty (0, 0))) (hle : off + vs.length ≤ cur.size) :
  (storeVar t ⟨blk, off, none⟩ v).run P w = .ok () (w.setRow blk (cur.toList.take off ++ vs ++ cur.toList.drop (off + vs.length)).toArray) := by
 have h1 := run_storeCells_at (P := P) blk off ty vs 0 cur w hg (by omega) ho
 unfold storeVar
 have e : ¬ (v.cells.size ≠ i.size) := by rw [hv]; simp [hl]
 simp [sizeOf, typeInfo, hi, hv, ← hl] at e ⊢
 simpa using h1
end
end Go.Proofs.YtnkbkfjgbejhfaaGreat.Am
namespace Go.Proofs.YtnkbkfjgbejhfaaGreat.Am
variable [Inhabited DRT]
open Go.RowKit (Below)
section
variable {c : Ctx} {s : List A} {m : List Blk} {a : Act} {w w' : World} {ids ids' : Ids} {P : Program} {im im' : Nat → Prop} {tt : TT}
variable {next : Act → World → Prop} {Q : Exit → Act → World → Prop}

theorem stA_inv {size : Nat} {cs : List A} {off : Nat} {v : A} {K : List A → Prop} (h : stA size cs off v K) :
  ∃ vs, cellsA v = some vs ∧ vs.length = size ∧ off + size ≤ cs.length ∧ K (spl cs off vs) := by
 unfold stA at h
 split at h
 ·rename_i vs hv
  split at h
  ·rename_i h1 h2
   rw [fl_eq] at h
   exact ⟨vs, hv, Nat.eq_of_beq_eq_true h1, Nat.le_of_ble_eq_true h2, h⟩
  ·exact h.elim
 ·exact h.elim

theorem Sim.junk_put (hs : Sim c s m a w ids) (d : Option Nat) (v : Value) : Sim c (_root_.Go.Proofs.YtnkbkfjgbejhfaaGreat.Am.putD s d .junk) m (a.put d v) w ids := hs.putD d (.imm (.junk _))

theorem sStore_sound (htt : TTok P tt) (hs : Sim c s m a w ids) {o : Oper} {t : TypeId} {X Y : Operand} (ho : o.op = .store t X Y) {K : KT}
  (h : sStore tt t (ev s X) (ev s Y) m K) (hn : ∀ v m' a' w' ids', K v m' → Sim c (putD s o.dst v) m' a' w' ids' → next a' w') : o.wp P a w next Q := by
 have hx := hs.ev X
 have hy := hs.ev Y
 unfold sStore at h
 have e1 : ∀ blk off, a.eval X = .pointer (some ⟨blk, off, none⟩) → execOp a.eval o = (do storeVar t ⟨blk, off, none⟩ (a.eval Y); pure .skip) := by
  intro blk off he
  unfold execOp; rw [ho]; simp only [he]; rfl
 split at h
 ·exact h.elim
 ·rename_i ti ht
  obtain ⟨i, d, z, hi, hd, hz, hsz, _⟩ := htt.facts ht
  split at h
  ·rename_i b off he
   rw [he] at hx
   split at h
   ·rename_i ty cs hb
    obtain ⟨p, hid, hv⟩ := hs.ref_at hx (by rw [hb]; simp)
    obtain ⟨us, hu, hul, hle, h⟩ := stA_inv h
    rw [setB_eq] at h
    obtain ⟨xs, hxs, hxl, hxo, hxr⟩ := cells_rel hu hy
    obtain ⟨x, hx', hr⟩ := hs.blk_at hid
    rw [getD_of_get hx'] at hb; subst hb
    obtain ⟨vs, h1, h2, h3, h4⟩ := hr
    have hst := run_storeVar (P := P) (w := w) hi p.blk off ty vs (a.eval Y) xs hxs (by omega) hxo h1 (by omega)
    obtain ⟨q1, q2, q3⟩ := splice_rel (ids := ids) (im := imOf c ids w) (w := w) (cs := cs) (us := us) (vs := vs.toList) (xs := xs) (off := off) (by omega) (by simp; omega) (by omega)
     (fun j hj hj' => by simpa using (h4 j hj (by simpa using hj')).1) hxr
     (fun v hv => by obtain ⟨j, hj, rfl⟩ := List.getElem_of_mem hv; simp at hj; simpa using (h4 j (by omega) hj).2) hxo
    have hs' := hs.setRow b p hid (.box ty (spl cs off us)) vs (vs.toList.take off ++ xs ++ vs.toList.drop (off + xs.length)).toArray ty h1 (fun g1 g2 _ => by
     refine ⟨_, g1, ?_, ?_, ?_⟩
     ·simp; omega
     ·simp [spl]; omega
     ·intro j hj hj'
      simp only [List.size_toArray] at hj'
      refine ⟨g2 _ _ (by simpa using q3 j hj hj'), ?_⟩
      simpa using q2 _ (List.getElem_mem hj'))
    refine wp_of_skip (w' := w.setRow p.blk (vs.toList.take off ++ xs ++ vs.toList.drop (off + xs.length)).toArray) ?_ (hn _ _ _ _ _ h (hs'.junk_put o.dst _))
    rw [e1 _ _ hv]; simp at hst; simp [hst]
   ·exact h.elim
  ·rename_i b i' off he
   rw [he] at hx
   split at h
   ·rename_i ty sz n row hb
    obtain ⟨p, hid, hv⟩ := hs.oref_at hx (by rw [hb]; simp)
    split at h
    case h_2 => exact h.elim
    rename_i hown
    have hy := hasOwn_rel 4 _ _ hown hy
    obtain ⟨hlt, h⟩ := h
    rw [fl_eq] at h
    obtain ⟨us, hu, hul, hle, h⟩ := stA_inv h
    rw [setB_eq] at h
    obtain ⟨xs, hxs, hxl, hxo, hxr⟩ := cells_relI hu hy
    obtain ⟨x, hx', hr⟩ := hs.blk_at hid
    rw [getD_of_get hx'] at hb; subst hb
    obtain ⟨g1, g2, vs, h1, h2, h3, hl, h4⟩ := hr
    have hmul : i' * sz + sz ≤ n * sz := by
     have : (i' + 1) * sz ≤ n * sz := Nat.mul_le_mul_right _ hlt
     rw [Nat.add_mul] at this; omega
    rw [hl i' hlt] at hle
    have hst := run_storeVar (P := P) (w := w) hi p.blk (i' * p.sz + off) ty vs (a.eval Y) xs hxs (by omega) hxo h1 (by rw [g1]; omega)
    rw [g1] at hst
    have hs' := hs.setRow b p hid (.row ty sz n (updRow row i' (spl (row i') off us))) vs (vs.toList.take (i' * sz + off) ++ xs ++ vs.toList.drop (i' * sz + off + xs.length)).toArray ty h1 (fun k1 _ k2 => by
     refine ⟨g1, g2, _, k1, by simp; omega, h3, ?_, ?_⟩
     ·intro j hj
      unfold updRow
      split
      ·simp [spl]; rw [hl i' hlt]; omega
      ·exact hl j hj
     ·intro j j' hj hjl hjs
      simp only [List.size_toArray] at hjs
      have hrowlen : (updRow row i' (spl (row i') off us) j).length = sz := by
       unfold updRow
       split
       ·simp [spl]; rw [hl i' hlt]; omega
       ·exact hl j hj
      have hj'sz : j' < sz := by omega
      have hjm : j * sz + sz ≤ n * sz := by
       have : (j + 1) * sz ≤ n * sz := Nat.mul_le_mul_right _ hj
       rw [Nat.add_mul] at this; omega
      by_cases hji : j = i'
      ·subst hji
       obtain ⟨q1, q2, q3⟩ := splice_relI (im := imOf c ids w) (w := w) (cs := row j) (us := us) (vs := (vs.toList.drop (j * sz)).take sz) (xs := xs) (off := off)
        (by rw [hl j hj]; omega) (by simp; rw [hl j hj]; omega) (by omega)
        (fun k hk hk' => by
         simp at hk'
         simpa using (h4 j k hj hk (by omega)).1) hxr
        (fun v hv => by
         obtain ⟨k, hk, rfl⟩ := List.getElem_of_mem hv
         simp at hk
         simpa using (h4 j k hj (by rw [hl j hj]; omega) (by omega)).2) hxo
       have hrow : updRow row j (spl (row j) off us) j = spl (row j) off us := by simp [updRow]
       have e2 : (vs.toList.take (j * sz + off) ++ xs ++ vs.toList.drop (j * sz + off + xs.length))[j * sz + j'] =
         (((vs.toList.drop (j * sz)).take sz).take off ++ xs ++ ((vs.toList.drop (j * sz)).take sz).drop (off + xs.length))[j']'(by rw [q1]; simp [spl]; rw [hl j hj]; omega) := by
        by_cases c1 : j' < off
        ·rw [List.getElem_append_left (by simp; omega), List.getElem_append_left (by simp; omega), List.getElem_append_left (by simp; omega), List.getElem_append_left (by simp; omega)]
         simp
        ·by_cases c2 : j' < off + xs.length
         ·rw [List.getElem_append_left (by simp; omega), List.getElem_append_right (by simp; omega), List.getElem_append_left (by simp; omega), List.getElem_append_right (by simp; omega)]
          congr 1; simp; omega
         ·rw [List.getElem_append_right (by simp; omega), List.getElem_append_right (by simp; omega)]
          simp
          congr 1; omega
       have hj2 : j' < (spl (row j) off us).length := by simp [spl]; rw [hl j hj]; omega
       have r1 := q3 j' hj2 (by rw [q1]; exact hj2)
       rw [← e2] at r1
       have r2 := q2 _ (List.getElem_mem (by rw [q1]; exact hj2 : j' < _))
       rw [← e2] at r2
       simp only [hrow]
       exact ⟨k2 _ _ (by simpa using r1), by simpa using r2⟩
      ·have hrow : updRow row i' (spl (row i') off us) j = row j := by simp [updRow, hji]
       have e2 : (vs.toList.take (i' * sz + off) ++ xs ++ vs.toList.drop (i' * sz + off + xs.length))[j * sz + j'] = vs[j * sz + j']'(by omega) := by
        rcases Nat.lt_or_ge j i' with hc | hc
        ·have : (j + 1) * sz ≤ i' * sz := Nat.mul_le_mul_right _ hc
         rw [Nat.add_mul] at this
         rw [List.getElem_append_left (by simp; omega), List.getElem_append_left (by simp; omega)]
         simp
        ·have : (i' + 1) * sz ≤ j * sz := Nat.mul_le_mul_right _ (by omega)
         rw [Nat.add_mul] at this
         rw [List.getElem_append_right (by simp; omega)]
         simp
         congr 1; omega
       simp only [hrow] at hjl ⊢
       have := h4 j j' hj hjl (by omega)
       rw [← e2] at this
       exact ⟨k2 _ _ (by simpa using this.1), by simpa using this.2⟩)
    refine wp_of_skip (w' := w.setRow p.blk (vs.toList.take (i' * sz + off) ++ xs ++ vs.toList.drop (i' * sz + off + xs.length)).toArray) ?_ (hn _ _ _ _ _ h (hs'.junk_put o.dst _))
    rw [g1] at hv
    rw [e1 _ _ hv]; simp at hst; simp [hst]
   ·exact h.elim
  ·exact h.elim
end
end Go.Proofs.YtnkbkfjgbejhfaaGreat.Am
namespace Go.Proofs.YtnkbkfjgbejhfaaGreat.Am
variable [Inhabited DRT]
open Go.RowKit (Below)
section
variable {c : Ctx} {s : List A} {m : List Blk} {a : Act} {w w' : World} {ids ids' : Ids} {P : Program} {im im' : Nat → Prop} {tt : TT}
variable {next : Act → World → Prop} {Q : Exit → Act → World → Prop}

theorem foldl_splice : ∀ (vs : List Value) (k off : Nat) (cs : Array Value), off + k + vs.length ≤ cs.size →
  (vs.zipIdx k).foldl (fun cs (p : Value × Nat) => cs.setIfInBounds (off + p.2) p.1) cs = (cs.toList.take (off + k) ++ vs ++ cs.toList.drop (off + k + vs.length)).toArray
 | [], k, off, cs, h => by simp
 | v :: vs, k, off, cs, h => by
  simp only [List.length_cons] at h
  rw [List.zipIdx_cons, List.foldl_cons, foldl_splice vs (k + 1) off _ (by simp; omega)]
  congr 1
  have hlt : off + k < cs.size := by omega
  apply List.ext_getElem
  ·simp; omega
  ·intro j h1 h2
   simp only [Array.toList_setIfInBounds]
   by_cases c1 : j < off + k
   ·rw [List.getElem_append_left (by simp; omega), List.getElem_append_left (by simp; omega), List.getElem_append_left (by simp; omega), List.getElem_append_left (by simp; omega)]
    simp [List.getElem_set]; omega
   ·by_cases c2 : j = off + k
    ·subst c2
     rw [List.getElem_append_left (by simp; omega), List.getElem_append_left (by simp; omega), List.getElem_append_left (by simp; omega), List.getElem_append_right (by simp; omega)]
     simp
     have e : min (off + k) cs.size = off + k := by omega
     simp [e]
    ·by_cases c3 : j < off + k + 1 + vs.length
     ·rw [List.getElem_append_left (by simp; omega), List.getElem_append_right (by simp; omega), List.getElem_append_left (by simp; omega), List.getElem_append_right (by simp; omega)]
      have e1 : min (off + (k + 1)) cs.size = off + k + 1 := by omega
      have e2 : min (off + k) cs.size = off + k := by omega
      simp only [List.length_take, List.length_set, Array.length_toList, e1, e2]
      rw [List.getElem_cons]
      rw [dif_neg (by omega)]
      congr 1
     ·rw [List.getElem_append_right (by simp; omega), List.getElem_append_right (by simp; omega)]
      have e1 : min (off + (k + 1)) cs.size = off + k + 1 := by omega
      have e2 : min (off + k) cs.size = off + k := by omega
      simp only [List.getElem_drop, List.length_append, List.length_take, List.length_set, Array.length_toList, e1, e2, List.length_cons]
      rw [List.getElem_set, if_neg (by omega)]
      congr 1; omega

theorem fill_cons (place : Nat → Option (Nat × Nat)) (cells : Array Value) (i : Nat) (v : Value) (rest : List (Nat × Value)) (off size : Nat) (vs : List Value)
  (hp : place i = some (off, size)) (hv : v.cells = vs.toArray) (hl : vs.length = size) (hle : off + size ≤ cells.size) :
  Instr.fill place cells ((i, v) :: rest) = Instr.fill place (cells.toList.take off ++ vs ++ cells.toList.drop (off + vs.length)).toArray rest := by
 have := foldl_splice vs 0 off cells (by omega)
 rw [Instr.fill, hp]
 simp only [hv]
 rw [if_neg (by simp; omega)]
 congr 1
 simp only [Nat.add_zero] at this
 rw [← this]
 simp

/-- Parts and their values, one by one. -/
def PartsRel (ids : Ids) (im : Nat → Prop) (w : World) (ps : List (Nat × A)) (qs : List (Nat × Value)) : Prop :=
 ps.length = qs.length ∧ ∀ j (h : j < ps.length) (h' : j < qs.length), ps[j].1 = qs[j].1 ∧ Rel ids im w ps[j].2 qs[j].2

theorem PartsRel.cons_inv {p : Nat × A} {ps : List (Nat × A)} {qs : List (Nat × Value)} (h : PartsRel ids im w (p :: ps) qs) :
  ∃ v qs', qs = (p.1, v) :: qs' ∧ Rel ids im w p.2 v ∧ PartsRel ids im w ps qs' := by
 obtain ⟨hl, hr⟩ := h
 cases qs with
 | nil => simp at hl
 | cons q qs =>
  have h0 := hr 0 (by simp) (by simp)
  simp at h0
  refine ⟨q.2, qs, ?_, h0.2, by simpa using hl, ?_⟩
  ·rw [h0.1]
  ·intro j h1 h2
   have := hr (j + 1) (by simpa using h1) (by simpa using h2)
   simpa using this

theorem bldF_sound {ti : TI} : ∀ (ps : List (Nat × A)) (qs : List (Nat × Value)) (cs : List A) (vs : List Value) (K : List A → Prop), PartsRel ids im w ps qs → vs.length = cs.length → (∀ v ∈ vs, oneV v) →
  (∀ j (h : j < cs.length) (h' : j < vs.length), Rel ids im w cs[j] vs[j]) → bldF ti ps cs K →
  ∃ (cs' : List A) (vs' : List Value), Instr.fill (placeOf ti) vs.toArray qs = some vs'.toArray ∧ K cs' ∧ vs'.length = cs'.length ∧ (∀ v ∈ vs', oneV v) ∧ (∀ j (h : j < cs'.length) (h' : j < vs'.length), Rel ids im w cs'[j] vs'[j])
 | [], qs, cs, vs, K, hp, hl, ho, hr, h => by
  have : qs = [] := by have := hp.1; cases qs <;> simp at this ⊢
  subst this
  exact ⟨cs, vs, rfl, h, hl, ho, hr⟩
 | (i, x) :: ps, qs, cs, vs, K, hp, hl, ho, hr, h => by
  obtain ⟨v, qs', rfl, hv, hp'⟩ := hp.cons_inv
  simp only [bldF] at h
  split at h
  ·rename_i off size us hpl hc
   split at h
   ·rename_i h1 h2
    have h1 := Nat.eq_of_beq_eq_true h1
    have h2 := Nat.le_of_ble_eq_true h2
    rw [fl_eq] at h
    obtain ⟨xs, hxs, hxl, hxo, hxr⟩ := cells_rel hc hv
    obtain ⟨q1, q2, q3⟩ := splice_rel (ids := ids) (im := im) (w := w) (cs := cs) (us := us) (vs := vs) (xs := xs) (off := off) (by omega) hl hxl hr hxr ho hxo
    obtain ⟨cs', vs', f1, f2, f3, f4, f5⟩ := bldF_sound ps qs' _ _ K hp' q1 q2 q3 h
    refine ⟨cs', vs', ?_, f2, f3, f4, f5⟩
    rw [fill_cons _ _ i v qs' off size xs hpl hxs (by omega) (by simp; omega)]
    simpa using f1
   ·exact h.elim
  ·exact h.elim
end
end Go.Proofs.YtnkbkfjgbejhfaaGreat.Am
namespace Go.Proofs.YtnkbkfjgbejhfaaGreat.Am
variable [Inhabited DRT]
open Go.RowKit (Below)
section
variable {c : Ctx} {s : List A} {m : List Blk} {a : Act} {w w' : World} {ids ids' : Ids} {P : Program} {im im' : Nat → Prop} {tt : TT}
variable {next : Act → World → Prop} {Q : Exit → Act → World → Prop} {o : Oper}

abbrev NextOk (c : Ctx) (s : List A) (o : Oper) (K : KT) (next : Act → World → Prop) : Prop :=
 ∀ v m' a' w' ids', K v m' → Sim c (putD s o.dst v) m' a' w' ids' → next a' w'

/-- An operation that yields a value, the world as it was. -/
theorem wp_val (hs : Sim c s m a w ids) {K : KT} (hn : NextOk c s o K next)
  (h : ∃ r v, (execOp a.eval o).run P w = .ok (.value v) w ∧ K r m ∧ Rel ids (imOf c ids w) w r v) : o.wp P a w next Q := by
 obtain ⟨r, v, h1, h2, h3⟩ := h
 exact wp_of_run h1 (hn r m _ _ ids h2 (hs.putD o.dst h3))

theorem sMove_sound (hs : Sim c s m a w ids) {X : Operand} (ho : o.op = .move X ∨ o.op = .assign X) {K : KT} (h : K (ev s X) m) (hn : NextOk c s o K next) : o.wp P a w next Q :=
 wp_val hs hn ⟨_, a.eval X, by unfold execOp; rcases ho with ho | ho <;> rw [ho] <;> rfl, h, hs.ev X⟩

theorem sPick_sound (hs : Sim c s m a w ids) {X Y Z : Operand} (ho : o.op = .pick X Y Z) {K : KT} (h : sPick (ev s X) (ev s Y) (ev s Z) fun v => K v m) (hn : NextOk c s o K next) : o.wp P a w next Q := by
 have hx := hs.ev X
 have e : execOp a.eval o = (do pure (.value (if ← asBool (a.eval X) then a.eval Y else a.eval Z))) := by unfold execOp; rw [ho]
 unfold sPick at h
 split at h
 ·rename_i hv; rw [hv] at hx; rw [fv_eq] at h
  exact wp_val hs hn ⟨_, a.eval Y, by rw [e, hx.bool_inv]; rfl, h, hs.ev Y⟩
 ·rename_i hv; rw [hv] at hx; rw [fv_eq] at h
  exact wp_val hs hn ⟨_, a.eval Z, by rw [e, hx.bool_inv]; rfl, h, hs.ev Z⟩
 ·rename_i b hv; rw [hv] at hx
  rw [fv_eq, fv_eq] at h
  cases b
  ·exact wp_val hs hn ⟨_, a.eval Z, by rw [e, hx.sb_inv]; rfl, h.2 rfl, hs.ev Z⟩
  ·exact wp_val hs hn ⟨_, a.eval Y, by rw [e, hx.sb_inv]; rfl, h.1 rfl, hs.ev Y⟩
 ·exact h.elim

theorem sExtract_sound (hs : Sim c s m a w ids) {X : Operand} {ix : Nat} (ho : o.op = .extract X ix) {K : KT} (h : sExtract (ev s X) ix fun v => K v m) (hn : NextOk c s o K next) : o.wp P a w next Q := by
 have hx := hs.ev X
 have e : execOp a.eval o = (do let z ← Instr.extract (a.eval X) ix; pure (.value z)) := by unfold execOp; rw [ho]
 unfold sExtract at h
 split at h
 ·rename_i vs hv; rw [hv] at hx
  split at h
  ·rename_i hlt
   have hlt : ix < vs.length := Nat.le_of_ble_eq_true hlt
   rw [fv_eq] at h
   obtain ⟨us, h1, h2, h3⟩ := hx.tup_inv
   refine wp_val hs hn ⟨_, us[ix]'(by omega), ?_, h, ?_⟩
   ·rw [e, h1]; simp [Instr.extract, List.getElem?_eq_getElem (show ix < us.length by omega)]
   ·simpa [List.getD_eq_getElem?_getD, hlt] using h3 ix hlt (by omega)
  ·exact h.elim
 ·exact h.elim

theorem sNil_sound (hs : Sim c s m a w ids) {X : Operand} (ho : o.op = .nilCheck X) {K : KT} (h : sNil (ev s X) fun v => K v m) (hn : NextOk c s o K next) : o.wp P a w next Q := by
 have hx := hs.ev X
 have fin : ∀ v, a.eval X = v → (∀ p, v = .pointer p → p ≠ none) → ((∃ p, v = .pointer p) ∨ ∃ f us, v = .func (.func f) #[] us) → (execOp a.eval o).run P w = .ok (.value v) w := by
  intro v hv h1 h2
  unfold execOp; rw [ho]; simp only [hv]
  rcases h2 with ⟨p, rfl⟩ | ⟨f, us, rfl⟩
  ·cases p with
   | none => exact absurd rfl (h1 none rfl)
   | some p => rfl
  ·rfl
 unfold sNil at h
 split at h
 ·rename_i hv; rw [hv] at hx
  obtain ⟨q, h2⟩ : ∃ q, a.eval X = .pointer (some q) := by
   rcases hx.ref_inv with ⟨p, _, h2⟩ | ⟨_, x, y, h2⟩ <;> exact ⟨_, h2⟩
  exact wp_val hs hn ⟨_, a.eval X, fin _ rfl (fun q hq => by rw [h2] at hq; cases hq; simp) (.inl ⟨_, h2⟩), h, hx⟩
 ·rename_i hv; rw [hv] at hx
  obtain ⟨q, h2⟩ : ∃ q, a.eval X = .pointer (some q) := by
   rcases hx.oref_inv with ⟨p, _, h2⟩ | ⟨_, x, y, h2⟩ <;> exact ⟨_, h2⟩
  exact wp_val hs hn ⟨_, a.eval X, fin _ rfl (fun q hq => by rw [h2] at hq; cases hq; simp) (.inl ⟨_, h2⟩), h, hx⟩
 ·rename_i hv; rw [hv] at hx
  have h2 : ∃ q, a.eval X = .pointer (some q) := by
   cases hx with | imm hx => generalize a.eval X = vv at hx; cases hx; exact ⟨_, rfl⟩
  obtain ⟨q, h2⟩ := h2
  exact wp_val hs hn ⟨_, a.eval X, fin _ rfl (fun q hq => by rw [h2] at hq; cases hq; simp) (.inl ⟨_, h2⟩), h, hx⟩
 ·rename_i hv; rw [hv] at hx
  obtain ⟨us, h2, _⟩ := hx.fn_inv
  exact wp_val hs hn ⟨_, a.eval X, fin _ rfl (fun q hq => by rw [h2] at hq; cases hq) (.inr ⟨_, _, h2⟩), h, hx⟩
 ·exact h.elim

theorem sConv_sound (htt : TTok P tt) (hs : Sim c s m a w ids) {X : Operand} {src dst : TypeId} (ho : o.op = .convert src dst X) {K : KT} (h : sConv tt src dst (ev s X) fun v => K v m) (hn : NextOk c s o K next) : o.wp P a w next Q := by
 have hx := hs.ev X
 have e : execOp a.eval o = (do let z ← convert src dst (a.eval X); pure (.value z)) := by unfold execOp; rw [ho]
 unfold sConv at h
 split at h
 ·rename_i tj ti hj hi
  obtain ⟨i, d, z, _, hd, _⟩ := htt.facts hj
  obtain ⟨i', d', z', _, hd', _, _, _, _, _, _, _, _, _, _, hk5, hk4, _⟩ := htt.facts hi
  split at h
  ·rename_i k n hk hv; rw [hv] at hx
   rw [hk5 hk] at hd'
   rw [fik_eq] at h
   refine wp_val hs hn ⟨_, .int ti.ik (ti.ik.wrap n), ?_, WR_inv h, .imm (.int _ _)⟩
   rw [e, hx.int_inv]
   simp [convert, underlying, hd, hd', Conv.intToInt]
  ·rename_i st hk hv; rw [hv] at hx
   rw [hk4 hk] at hd'
   refine wp_val hs hn ⟨_, .string ⟨st.toArray⟩, ?_, h, .imm (.str _)⟩
   rw [e, hx.str_inv]
   simp [convert, underlying, hd, hd']
  ·exact h.elim
 ·exact h.elim
end
end Go.Proofs.YtnkbkfjgbejhfaaGreat.Am
namespace Go.Proofs.YtnkbkfjgbejhfaaGreat.Am
variable [Inhabited DRT]
open Go.RowKit (Below)
section
variable {c : Ctx} {s : List A} {m : List Blk} {a : Act} {w w' : World} {ids ids' : Ids} {P : Program} {im im' : Nat → Prop} {tt : TT}
variable {next : Act → World → Prop} {Q : Exit → Act → World → Prop} {o : Oper}

theorem bref_inv {cs : List A} {off : Nat} {v : Value} (h : Rel ids im w (.bref cs off) v) :
  ∃ blk base, v = .pointer (some ⟨blk, base + off, none⟩) ∧ ∀ off', Rel ids im w (.bref cs off') (.pointer (some ⟨blk, base + off', none⟩)) := by
 cases h with
 | imm h => cases h with | bref blk base _ _ vs hb hc ho hr => exact ⟨blk, base, rfl, fun off' => .imm (.bref blk base off' cs vs hb hc ho hr)⟩

theorem sFieldAddr_sound (htt : TTok P tt) (hs : Sim c s m a w ids) {t : TypeId} {X : Operand} {f : Nat} (ho : o.op = .fieldAddr t X f) {K : KT}
  (h : sFieldAddr tt t (ev s X) f m K) (hn : NextOk c s o K next) : o.wp P a w next Q := by
 have hx := hs.ev X
 have e : execOp a.eval o = (do let z ← Instr.fieldAt t (a.eval X) f; pure (.value z)) := by unfold execOp; rw [ho]
 unfold sFieldAddr at h
 split at h
 ·exact h.elim
 ·rename_i ti ht
  obtain ⟨i, d, z, hi, hd, _, _, _, _, _, _, hk1, hk1', _⟩ := htt.facts ht
  split at h
  ·rename_i hk
   obtain ⟨fs, hdf, hoffs⟩ := hk1 hk
   obtain ⟨fs', hdf', hall⟩ := hk1' hk
   have : fs' = fs := by rw [hdf] at hdf'; cases hdf'; rfl
   subst this; subst hdf
   split at h
   ·exact h.elim
   ·rename_i fo fsz hof
    rw [hoffs, List.getElem?_map] at hof
    cases hfd : fs'.toList[f]? with
    | none => rw [hfd] at hof; cases hof
    | some fd =>
     rw [hfd] at hof
     simp only [Option.map_some, Option.some.injEq, Prod.mk.injEq] at hof
     obtain ⟨rfl, rfl⟩ := hof
     have hsz : ((P.info? fd.type).map (·.size)).getD 0 ≠ 0 := by
      have := List.all_eq_true.1 hall fd (List.mem_of_getElem? hfd)
      simpa using this
     have run : ∀ blk off, a.eval X = .pointer (some ⟨blk, off, none⟩) → (execOp a.eval o).run P w = .ok (.value (.pointer (some ⟨blk, off + fd.offset, none⟩))) w := by
      intro blk off hv
      rw [e, hv]
      cases hinf : P.info? fd.type with
      | none => rw [hinf] at hsz; simp at hsz
      | some fi =>
       rw [hinf] at hsz
       simp only [Option.map_some, Option.getD_some] at hsz
       have hfa : fs'[f]? = some fd := by simpa using hfd
       have hadd : Addr.add ⟨blk, off, none⟩ fd.offset = ⟨blk, off + fd.offset, none⟩ := by
        unfold Addr.add; split
        ·rename_i h0; rw [h0]; rfl
        ·rfl
       simp [Instr.fieldAt, underlying, hd, hfa, Instr.sureAddr, fieldPlace, sizeOf, typeInfo, hinf, hsz, hadd]
     split at h
     ·rename_i b off hv; rw [hv] at hx
      rw [fnat_eq] at h
      rcases hx.ref_inv with ⟨p, h1, h2⟩ | ⟨h1, x, y, h2⟩
      ·exact wp_val hs hn ⟨_, _, run _ _ h2, h, .ref b _ p h1⟩
      ·exact wp_val hs hn ⟨_, _, run _ _ h2, h, .refS b _ _ _ h1⟩
     ·rename_i b i' off hv; rw [hv] at hx
      rw [fnat_eq] at h
      rcases hx.oref_inv with ⟨p, h1, h2⟩ | ⟨h1, x, y, h2⟩
      ·refine wp_val hs hn ⟨_, _, run _ _ h2, h, ?_⟩
       rw [Nat.add_assoc]; exact .oref b i' _ p h1
      ·exact wp_val hs hn ⟨_, _, run _ _ h2, h, .orefS b i' _ _ _ h1⟩
     ·rename_i cs off hv; rw [hv] at hx
      obtain ⟨blk, base, h1, h2⟩ := bref_inv hx
      rw [fnat_eq] at h
      refine wp_val hs hn ⟨_, _, run _ _ h1, h, ?_⟩
      rw [Nat.add_assoc]; exact h2 _
     ·exact h.elim
  ·exact h.elim

theorem addr_add (blk off n : Nat) : Addr.add ⟨blk, off, none⟩ n = ⟨blk, off + n, none⟩ := by
 unfold Addr.add; split
 ·rename_i h0; rw [h0]; rfl
 ·rfl

theorem sIndexAddr_sound (htt : TTok P tt) (hs : Sim c s m a w ids) {t : TypeId} {X Y : Operand} (ho : o.op = .indexAddr t X Y) {K : KT}
  (h : sIndexAddr tt t (ev s X) (ev s Y) m K) (hn : NextOk c s o K next) : o.wp P a w next Q := by
 have hx := hs.ev X
 have hy := hs.ev Y
 have e : execOp a.eval o = (do let z ← Instr.indexAt t (a.eval X) (a.eval Y); pure (.value z)) := by unfold execOp; rw [ho]
 unfold sIndexAddr at h
 split at h
 ·exact h.elim
 ·rename_i ti ht
  obtain ⟨i, d, z, hi, hd, _, _, _, _, _, _, _, _, hk2, hk3, _⟩ := htt.facts ht
  split at h
  ·rename_i k ix hk hv; rw [hv] at hy
   obtain ⟨ie, ze, hde, hie, hesz, _⟩ := hk3 hk
   subst hde
   have run : ∀ blk base n cap, a.eval X = .slice (some ⟨blk, base, none⟩) n cap → 0 ≤ ix → ix < n → (execOp a.eval o).run P w = .ok (.value (.pointer (some ⟨blk, base + ix.toNat * ti.esz, none⟩))) w := by
    intro blk base n cap hvx h0 h1
    rw [e, hvx, hy.int_inv]
    simp [Instr.indexAt, asIntOf, underlying, hd, h0, h1, sizeOf, typeInfo, hie, hesz, addr_add]
   split at h
   ·rename_i n sz row hvx; rw [hvx] at hx
    split at h
    ·rename_i hsz
     have hsz : sz = ti.esz := Nat.eq_of_beq_eq_true hsz
     obtain ⟨⟨h0, h1⟩, h⟩ := h
     rw [fl_eq] at h
     cases hx with
     | imm hx =>
      generalize hvv : a.eval X = vv at hx
      cases hx with
      | sl0 => exact absurd h1 (by simp; omega)
      | sle => exact absurd h1 (by simp; omega)
      | sl _ _ _ blk base cap vs hb hcap hl hc hov hr =>
       have hlt : ix.toNat < n := by omega
       refine wp_val hs hn ⟨_, _, run _ _ _ _ hvv h0 h1, h, ?_⟩
       rw [← hsz]
       refine .imm (.bref blk (base + ix.toNat * sz) 0 (row ix.toNat) (vs ix.toNat) hb ?_ ?_ ?_)
       ·intro j hj; rw [hl _ hlt] at hj; exact hc _ _ hlt hj
       ·intro j hj; rw [hl _ hlt] at hj; exact hov _ _ hlt hj
       ·intro j hj; exact hr _ _ hlt hj
    ·exact h.elim
   ·rename_i b hvx; rw [hvx] at hx
    split at h
    ·rename_i ty sz n row hb
     split at h
     ·rename_i hsz
      have hsz : sz = ti.esz := Nat.eq_of_beq_eq_true hsz
      obtain ⟨⟨h0, h1⟩, h⟩ := h
      rcases hs.own_at hx (by rw [hb]; simp) with ⟨g1, g2⟩ | ⟨p, cap, g1, g2, g3, g4⟩
      ·exfalso
       have hbl : b < ids.length := by
        rcases Nat.lt_or_ge b ids.length with h' | h'
        ·exact h'
        ·rw [List.getElem?_eq_none h'] at g1; cases g1
       have hbm : b < m.length := by rw [← hs.mlen]; exact hbl
       have hbr := hs.blks b hbm hbl
       rw [List.getElem?_eq_getElem hbl] at g1
       rw [Option.some.inj g1] at hbr
       have : m[b] = .row ty sz n row := by simpa [List.getD_eq_getElem?_getD, hbm] using hb
       rw [this] at hbr
       have hbr : n = 0 := hbr
       omega
      ·obtain ⟨x, hxm, hbr⟩ := hs.blk_at g1
       rw [getD_of_get hxm] at hb; subst hb
       obtain ⟨q1, q2, _⟩ := hbr
       rw [q2] at g4
       refine wp_val hs hn ⟨_, _, run _ _ _ _ g4 h0 h1, h, ?_⟩
       have := Rel.oref (ids := ids) (im := imOf c ids w) (w := w) b ix.toNat 0 p g1
       rw [← hsz, ← q1]; simpa using this
     ·exact h.elim
    ·exact h.elim
   ·exact h.elim
  ·rename_i k ix hk hv; rw [hv] at hy
   obtain ⟨ie, hde, hie, hesz⟩ := hk2 hk
   subst hde
   have run : ∀ blk off, a.eval X = .pointer (some ⟨blk, off, none⟩) → 0 ≤ ix → ix < (ti.alen : Int) → (execOp a.eval o).run P w = .ok (.value (.pointer (some ⟨blk, off + ix.toNat * ti.esz, none⟩))) w := by
    intro blk off hvx h0 h1
    rw [e, hvx, hy.int_inv]
    simp [Instr.indexAt, asIntOf, underlying, hd, Instr.sureAddr, h0, h1, sizeOf, typeInfo, hie, hesz, addr_add]
   split at h
   ·rename_i b off hvx; rw [hvx] at hx
    obtain ⟨⟨h0, h1⟩, h⟩ := h
    rw [fnat_eq] at h
    rcases hx.ref_inv with ⟨p, g1, g2⟩ | ⟨g1, x, y, g2⟩
    ·exact wp_val hs hn ⟨_, _, run _ _ g2 h0 h1, h, .ref b _ p g1⟩
    ·exact wp_val hs hn ⟨_, _, run _ _ g2 h0 h1, h, .refS b _ _ _ g1⟩
   ·rename_i cs off hvx; rw [hvx] at hx
    obtain ⟨⟨h0, h1⟩, h⟩ := h
    obtain ⟨blk, base, g1, g2⟩ := bref_inv hx
    rw [fnat_eq] at h
    refine wp_val hs hn ⟨_, _, run _ _ g1 h0 h1, h, ?_⟩
    rw [Nat.add_assoc]; exact g2 _
   ·exact h.elim
  ·exact h.elim
end
end Go.Proofs.YtnkbkfjgbejhfaaGreat.Am
namespace Go.Proofs.YtnkbkfjgbejhfaaGreat.Am
variable [Inhabited DRT]
open Go.RowKit (Below)
section
variable {c : Ctx} {s : List A} {m : List Blk} {a : Act} {w w' : World} {ids ids' : Ids} {P : Program} {im im' : Nat → Prop} {tt : TT}
variable {next : Act → World → Prop} {Q : Exit → Act → World → Prop} {o : Oper}

/-- A new block, and a value that names it. -/
theorem wp_new (hs : Sim c s m a w ids) {K : KT} (hn : NextOk c s o K next) (x : Blk) (vs : Array Value) (ty : TypeId) (n sz : Nat) {r : A} {v : Value}
  (hrun : (execOp a.eval o).run P w = .ok (.value v) (w.alloc (.cells vs ty))) (hk : K r (m ++ [x]))
  (hx : ∀ ids' im' w', (∀ b, imOf c ids w b → im' b) → (∀ b, imOf c ids w b → w'.heap[b]? = w.heap[b]?) → (∀ (b : Nat) p, ids[b]? = some p → p ≠ .dead → ids'[b]? = some p) →
   w'.heap[w.heap.size]? = some (.cells vs ty (0, 0)) → BRel ids' im' w' x (.lv (mkId w.heap.size vs.size n sz)))
  (hr : ∀ ids' im' w', ids'[m.length]? = some (.lv (mkId w.heap.size vs.size n sz)) → Rel ids' im' w' r v) : o.wp P a w next Q := by
 have hs' := hs.alloc x vs ty n sz hx
 refine wp_of_run hrun (hn r _ _ _ _ hk (hs'.putD o.dst (hr _ _ _ ?_)))
 rw [← hs.mlen]; simp

theorem sBox_sound (hs : Sim c s m a w ids) {t : TypeId} {X : Operand} (ho : o.op = .box t X) {K : KT} (h : sBox t (ev s X) m K) (hn : NextOk c s o K next) : o.wp P a w next Q := by
 have hx := hs.ev X
 unfold sBox at h
 split at h
 ·rename_i cs hc
  rw [pushB_eq] at h
  obtain ⟨vs, h1, h2, h3, h4⟩ := cells_rel hc hx
  refine wp_new hs hn (.box t cs) vs.toArray t 0 0 (v := .pointer (some ⟨w.heap.size, 0, none⟩)) ?_ h ?_ ?_
  ·unfold execOp; rw [ho]; simp [Instr.box, newVar, newRow, h1]
  ·intro ids' im' w' g1 g2 g3 g4
   refine ⟨vs.toArray, g4, rfl, by simp [h2], ?_⟩
   intro j hj hj'
   simp at hj'
   refine ⟨(by simpa using (h4 j hj hj').mono g1 g2 g3), ?_⟩
   simpa using h3 _ (List.getElem_mem hj')
  ·intro ids' im' w' g; exact .ref _ _ _ g
 ·exact h.elim

theorem sAlloc_sound (htt : TTok P tt) (hs : Sim c s m a w ids) {t : TypeId} (ho : o.op = .alloc t) {K : KT} (h : sAlloc tt t m K) (hn : NextOk c s o K next) : o.wp P a w next Q := by
 unfold sAlloc at h
 split at h
 ·rename_i ti ht
  obtain ⟨i, d, z, hi, hd, hz, hsz, hone, hzs, hzero, _⟩ := htt.facts ht
  rw [pushB_eq] at h
  refine wp_new hs hn (.box t ti.zero) z.cells t 0 0 (v := .pointer (some ⟨w.heap.size, 0, none⟩)) ?_ h ?_ ?_
  ·unfold execOp; rw [ho]; simp [Instr.alloc, zeroValue, typeInfo, hi, hz, newVar, newRow]
  ·intro ids' im' w' g1 g2 g3 g4
   refine ⟨z.cells, g4, rfl, by simp [hzero], ?_⟩
   intro j hj hj'
   refine ⟨?_, hone _ (by simp)⟩
   simp only [hzero, List.getElem_map, Array.getElem_toList]
   exact .imm (ofConst_rel _ _ _)
  ·intro ids' im' w' g; exact .ref _ _ _ g
 ·exact h.elim

theorem parts_rel (hs : Sim c s m a w ids) (ps : List (Nat × Operand)) : PartsRel ids (imOf c ids w) w (ps.map fun p => (p.1, ev s p.2)) (ps.map fun p => (p.1, a.eval p.2)) :=
 ⟨by simp, fun j h h' => by simp; exact hs.ev _⟩

theorem mapM_offs (fs : List Field) (h : fs.all (fun f => ((P.info? f.type).map (·.size)).getD 0 != 0) = true) :
  fs.mapM (fun f => (P.info? f.type).map fun i => (f.offset, i.size)) = some (fs.map fun f => (f.offset, ((P.info? f.type).map (·.size)).getD 0)) := by
 induction fs with
 | nil => rfl
 | cons f fs ih =>
  simp only [List.all_cons, Bool.and_eq_true] at h
  cases hi : P.info? f.type with
  | none => rw [hi] at h; simp at h
  | some i => simp [hi, ih h.2]

theorem sBuild_sound (htt : TTok P tt) (hs : Sim c s m a w ids) {t : TypeId} {ps : Array (Nat × Operand)} (ho : o.op = .build t ps) {K : KT}
  (h : sBuild tt t (ps.toList.map fun p => (p.1, ev s p.2)) m K) (hn : NextOk c s o K next) : o.wp P a w next Q := by
 have hp := parts_rel hs ps.toList
 unfold sBuild at h
 split at h
 ·exact h.elim
 ·rename_i ti ht
  obtain ⟨i, d, z, hi, hd, hz, hsz, hone, hzs, hzero, _, hk1, hk1', hk2, _⟩ := htt.facts ht
  have key : bldF ti (ps.toList.map fun p => (p.1, ev s p.2)) ti.zero (fun cs => K (.agg cs) m) → (∀ parts vs', Instr.fill (placeOf ti) z.cells parts = some vs' → P.built t parts = some vs') → o.wp P a w next Q := by
   intro h hb
   obtain ⟨cs', vs', f1, f2, f3, f4, f5⟩ := bldF_sound (ti := ti) _ _ ti.zero z.cells.toList _ hp (by simp [hzero]) hone
    (fun j h1 h2 => by simp only [hzero, List.getElem_map]; exact .imm (ofConst_rel _ _ _)) h
   refine wp_val hs hn ⟨_, .agg vs'.toArray, ?_, f2, .agg cs' vs' f3 f4 f5⟩
   have := run_build (P := P) w t (ps.map fun p => (p.1, a.eval p.2)) vs'.toArray (hb _ _ (by simpa using f1))
   have e : execOp a.eval o = (do let z ← Instr.build t (ps.map fun p => (p.1, a.eval p.2)); pure (.value z)) := by unfold execOp; rw [ho]
   rw [e]; simp [this]
  split at h
  ·rename_i hk
   obtain ⟨fs, hdf, hoffs⟩ := hk1 hk
   obtain ⟨fs', hdf', hall⟩ := hk1' hk
   have : fs' = fs := by rw [hdf] at hdf'; cases hdf'; rfl
   subst this; subst hdf
   refine key h ?_
   intro parts vs' hf
   unfold Program.built
   simp only [hi, hd, hz, mapM_offs fs'.toList hall]
   have : (fun x => (fs'.toList.map fun f => (f.offset, ((P.info? f.type).map (·.size)).getD 0)).toArray[x]?) = placeOf ti := by
    funext x; unfold placeOf; rw [hk]; simp [hoffs]
   rw [this]; exact hf
  ·rename_i hk
   obtain ⟨ie, hde, hie, hesz⟩ := hk2 hk
   subst hde
   refine key h ?_
   intro parts vs' hf
   unfold Program.built
   simp only [hi, hd, hz, hie]
   have : (fun i => some (i * ie.size, ie.size)) = placeOf ti := by
    funext x; unfold placeOf; rw [hk, hesz]; rfl
   rw [this]; exact hf
  ·exact h.elim

theorem own_len (hs : Sim c s m a w ids) {b : Nat} {v : Value} (hx : Rel ids (imOf c ids w) w (.own b) v) {ty : TypeId} {sz n : Nat} {row : Nat → List A} (hb : m.getD b .dead = .row ty sz n row) :
  (n = 0 ∧ v = .slice none 0 0 ∧ ids[b]? = some .virt) ∨ ∃ p cap, ids[b]? = some (.lv p) ∧ (n ≤ cap ∧ cap ≤ maxLen) ∧ cap * sz = p.k ∧ p.sz = sz ∧ p.n = n ∧ v = .slice (some ⟨p.blk, 0, none⟩) n cap := by
 rcases hs.own_at hx (by rw [hb]; simp) with ⟨g1, g2⟩ | ⟨p, cap, g1, g2, g3, g4⟩
 ·have hbl : b < ids.length := by
   rcases Nat.lt_or_ge b ids.length with h' | h'
   ·exact h'
   ·rw [List.getElem?_eq_none h'] at g1; cases g1
  have hbm : b < m.length := by rw [← hs.mlen]; exact hbl
  have hbr := hs.blks b hbm hbl
  rw [List.getElem?_eq_getElem hbl] at g1
  rw [Option.some.inj g1] at hbr
  have : m[b] = .row ty sz n row := by simpa [List.getD_eq_getElem?_getD, hbm] using hb
  rw [this] at hbr
  exact .inl ⟨hbr, g2, by rw [List.getElem?_eq_getElem hbl]; exact g1⟩
 ·obtain ⟨x, hxm, hbr⟩ := hs.blk_at g1
  rw [getD_of_get hxm] at hb; subst hb
  obtain ⟨q1, q2, _⟩ := hbr
  exact .inr ⟨p, cap, g1, by rw [← q2]; exact g2, by rw [← q1]; exact g3, q1, q2, by rw [← q2]; exact g4⟩

theorem sLen_sound (htt : TTok P tt) (hs : Sim c s m a w ids) {X : Operand} {t : TypeId}
  (ho : o.op = .call { callee := .builtin .len, args := #[X], argTypes := #[t] }) {K : KT} (h : sLen tt t (ev s X) m fun v => K v m) (hn : NextOk c s o K next) : o.wp P a w next Q := by
 have hx := hs.ev X
 have e : (execOp a.eval o) = (do pure (.value (← Builtin.len_ #[t] o.type #[a.eval X]))) := by
  obtain ⟨dst, op, ty, pos, after, guard⟩ := o
  simp only at ho; subst ho
  rw [BigFrame.execOp_builtin, BigFrame.builtin_len]; simp
 unfold sLen at h
 split at h
 ·exact h.elim
 ·rename_i ti ht
  obtain ⟨i, d, z, hi, hd, hz, hsz, hone, hzs, hzero, _, hk1, hk1', hk2, hk3, hk5, hk4, _⟩ := htt.facts ht
  have slen : ∀ ad n cap, a.eval X = .slice ad n cap → ti.kind = 3 → (execOp a.eval o).run P w = .ok (.value (.int .i64 n)) w := by
   intro ad n cap hv hk
   obtain ⟨ie, ze, hde, _⟩ := hk3 hk
   subst hde
   rw [e, hv]; simp [Builtin.len_, underlying, hd, goInt]
  split at h
  ·rename_i n sz row hk hv; rw [hv] at hx
   cases hx with
   | imm hx =>
    generalize hvv : a.eval X = vv at hx
    cases hx with
    | sl0 => exact wp_val hs hn ⟨_, _, slen _ _ _ hvv hk, h, .imm (.int _ _)⟩
    | sle => exact wp_val hs hn ⟨_, _, slen _ _ _ hvv hk, h, .imm (.int _ _)⟩
    | sl => exact wp_val hs hn ⟨_, _, slen _ _ _ hvv hk, h, .imm (.int _ _)⟩
  ·rename_i b hk hv; rw [hv] at hx
   split at h
   ·rename_i ty sz n row hb
    rcases own_len hs hx hb with ⟨rfl, g2, _⟩ | ⟨p, cap, g1, g2, g3, _, _, g4⟩
    ·exact wp_val hs hn ⟨_, _, slen _ _ _ g2 hk, h, .imm (.int _ _)⟩
    ·exact wp_val hs hn ⟨_, _, slen _ _ _ g4 hk, h, .imm (.int _ _)⟩
   ·exact h.elim
  ·rename_i hk hv; rw [hv] at hx
   exact wp_val hs hn ⟨_, _, slen _ _ _ hx.nils_inv hk, h, .imm (.int _ _)⟩
  ·rename_i st hk hv; rw [hv] at hx
   have hdd := hk4 hk
   subst hdd
   refine wp_val hs hn ⟨_, .int .i64 st.length, ?_, h, .imm (.int _ _)⟩
   rw [e, hx.str_inv]; simp [Builtin.len_, underlying, hd, goInt]; rfl
  ·exact h.elim
end
end Go.Proofs.YtnkbkfjgbejhfaaGreat.Am
namespace Go.Proofs.YtnkbkfjgbejhfaaGreat.Am
variable [Inhabited DRT]
open Go.RowKit (Below)
section
variable {c : Ctx} {s : List A} {m : List Blk} {a : Act} {w w' : World} {ids ids' : Ids} {P : Program} {im im' : Nat → Prop} {tt : TT}
variable {next : Act → World → Prop} {Q : Exit → Act → World → Prop} {o : Oper}

theorem sIndex_sound (htt : TTok P tt) (hs : Sim c s m a w ids) {t : TypeId} {X Y : Operand} (ho : o.op = .index t X Y) {K : KT}
  (h : sIndex tt t (ev s X) (ev s Y) fun v => K v m) (hn : NextOk c s o K next) : o.wp P a w next Q := by
 have hx := hs.ev X
 have hy := hs.ev Y
 have e : execOp a.eval o = (do let z ← Instr.index t (a.eval X) (a.eval Y); pure (.value z)) := by unfold execOp; rw [ho]
 unfold sIndex at h
 split at h
 ·rename_i ti k ix ht hv; rw [hv] at hy
  obtain ⟨i, d, z, hi, hd, hz, hsz, hone, hzs, hzero, _, hk1, hk1', hk2, hk3, hk5, hk4, _⟩ := htt.facts ht
  split at h
  ·rename_i st hk hvx; rw [hvx] at hx
   have hdd := hk4 hk
   subst hdd
   obtain ⟨⟨h0, h1⟩, h⟩ := h
   have hlt : ix.toNat < st.length := by omega
   refine wp_val hs hn ⟨_, _, ?_, h, .imm (.int _ _)⟩
   rw [e, hx.str_inv, hy.int_inv]
   have hg : (ByteArray.mk st.toArray)[ix.toNat]? = some (st[ix.toNat]) := by
    have : ix.toNat < (ByteArray.mk st.toArray).size := hlt
    exact (getElem?_pos (ByteArray.mk st.toArray) ix.toNat this)
   simp [Instr.index, asIntOf, underlying, hd, h0, hg, List.getD_eq_getElem?_getD, hlt]
  ·rename_i cs hk hvx; rw [hvx] at hx
   obtain ⟨ie, hde, hie, hesz⟩ := hk2 hk
   subst hde
   split at h
   ·rename_i te hte
    obtain ⟨⟨h0, h1⟩, h⟩ := h
    obtain ⟨i', d', z', hi', hd', _, hsz', _, _, _, hag', _⟩ := htt.facts hte
    have hie' : ie = i' := by rw [hie] at hi'; exact Option.some.inj hi'
    obtain ⟨vs, hv1, hv2, hv3, hv4⟩ := hx.agg_inv
    have run : ∀ v, (part ti.ety vs.toArray (ix.toNat * ti.esz)).run P w = .ok v w → (execOp a.eval o).run P w = .ok (.value v) w := by
     intro v hp
     rw [e, hv1, hy.int_inv]
     simp [Instr.index, asIntOf, underlying, hd, h0, h1, sizeOf, typeInfo, hie, hesz, hp]
    unfold ldA at h
    split at h
    ·rename_i hb
     split at h
     ·rename_i hle
      have hle := Nat.le_of_ble_eq_true hle
      rw [fl_eq, takeL_eq] at h
      have hlv : ((vs.drop (ix.toNat * ti.esz)).take te.size).length = te.size := by simp; omega
      refine wp_val hs hn ⟨_, .agg ((vs.drop (ix.toNat * ti.esz)).take te.size).toArray, run _ ?_, h, .agg _ _ (by rw [hlv]; simp; omega) ?_ ?_⟩
      ·unfold part isAgg
       rw [hag'] at hb
       cases d' <;> simp [isRowD] at hb <;> simp [underlying, hd', sizeOf, typeInfo, hi', hsz']
      ·intro v hv; exact hv3 v (List.mem_of_mem_drop (List.mem_of_mem_take hv))
      ·intro j h1 h2
       simp at h1 h2
       have := hv4 (ix.toNat * ti.esz + j) (by omega) (by omega)
       simpa using this
     ·exact h.elim
    ·rename_i hb
     split at h
     ·rename_i hlt
      have hlt : ix.toNat * ti.esz < cs.length := Nat.le_of_ble_eq_true hlt
      rw [fv_eq] at h
      refine wp_val hs hn ⟨_, vs[ix.toNat * ti.esz]'(by omega), run _ ?_, h, ?_⟩
      ·unfold part isAgg
       rw [hag'] at hb
       cases d' <;> simp [isRowD] at hb <;> simp [underlying, hd', List.getElem?_eq_getElem (show ix.toNat * ti.esz < vs.length by omega)]
      ·simpa [List.getD_eq_getElem?_getD, hlt] using hv4 _ hlt (by omega)
     ·exact h.elim
   ·exact h.elim
  ·exact h.elim
 ·exact h.elim

theorem sField_sound (htt : TTok P tt) (hs : Sim c s m a w ids) {t : TypeId} {X : Operand} {f : Nat} (ho : o.op = .field t X f) {K : KT}
  (h : sField tt t (ev s X) f fun v => K v m) (hn : NextOk c s o K next) : o.wp P a w next Q := by
 have hx := hs.ev X
 have e : execOp a.eval o = (do let z ← Instr.field t (a.eval X) f; pure (.value z)) := by unfold execOp; rw [ho]
 unfold sField at h
 split at h
 ·exact h.elim
 ·rename_i ti ht
  split at h
  ·rename_i fo fsz ft cs hk hfo hft hvx
   rw [hvx] at hx
   obtain ⟨fs, hd, hf1, hf2⟩ := htt.ftys ht hk
   rw [hf1] at hft
   rw [hf2] at hfo
   simp only [List.getElem?_map, Option.map_eq_some_iff] at hft hfo
   obtain ⟨fl1, hg1, rfl⟩ := hft
   obtain ⟨fl2, hg2, hfl2⟩ := hfo
   have e12 : fl1 = fl2 := by rw [hg1] at hg2; exact Option.some.inj hg2
   subst e12
   have hoff : fl1.offset = fo := congrArg Prod.fst hfl2
   subst hoff
   have hg : fs[f]? = some fl1 := by rw [← Array.getElem?_toList]; exact hg1
   split at h
   ·rename_i te hte
    obtain ⟨i', d', z', hi', hd', _, hsz', _, _, _, hag', _⟩ := htt.facts hte
    obtain ⟨vs, hv1, hv2, hv3, hv4⟩ := hx.agg_inv
    have run : ∀ v, (part fl1.type vs.toArray fl1.offset).run P w = .ok v w → (execOp a.eval o).run P w = .ok (.value v) w := by
     intro v hp
     rw [e, hv1]
     simp [Instr.field, underlying, hd, hg, asAgg, hp]
    unfold ldA at h
    split at h
    ·rename_i hb
     split at h
     ·rename_i hle
      have hle := Nat.le_of_ble_eq_true hle
      rw [fl_eq, takeL_eq] at h
      have hlv : ((vs.drop fl1.offset).take te.size).length = te.size := by simp; omega
      refine wp_val hs hn ⟨_, .agg ((vs.drop fl1.offset).take te.size).toArray, run _ ?_, h, .agg _ _ (by rw [hlv]; simp; omega) ?_ ?_⟩
      ·unfold part isAgg
       rw [hag'] at hb
       cases d' <;> simp [isRowD] at hb <;> simp [underlying, hd', sizeOf, typeInfo, hi', hsz']
      ·intro v hv; exact hv3 v (List.mem_of_mem_drop (List.mem_of_mem_take hv))
      ·intro j h1 h2
       simp at h1 h2
       have := hv4 (fl1.offset + j) (by omega) (by omega)
       simpa using this
     ·exact h.elim
    ·rename_i hb
     split at h
     ·rename_i hlt
      have hlt : fl1.offset < cs.length := Nat.le_of_ble_eq_true hlt
      rw [fv_eq] at h
      refine wp_val hs hn ⟨_, vs[fl1.offset]'(by omega), run _ ?_, h, ?_⟩
      ·unfold part isAgg
       rw [hag'] at hb
       cases d' <;> simp [isRowD] at hb <;> simp [underlying, hd', List.getElem?_eq_getElem (show fl1.offset < vs.length by omega)]
      ·simpa [List.getD_eq_getElem?_getD, hlt] using hv4 _ hlt (by omega)
     ·exact h.elim
   ·exact h.elim
  ·exact h.elim

theorem evL_rel (hs : Sim c s m a w ids) (xs : List Operand) : ∀ j (h : j < (xs.map (ev s)).length) (h' : j < (xs.map a.eval).length), Rel ids (imOf c ids w) w (xs.map (ev s))[j] (xs.map a.eval)[j] := by
 intro j h h'
 simp; exact hs.ev _

theorem sMakeFunc_sound (hs : Sim c s m a w ids) {f : FuncId} {xs : Array Operand} (ho : o.op = .makeFunc (.func f) #[] xs) {K : KT}
  (h : K (.fn f (xs.toList.map (ev s))) m) (hn : NextOk c s o K next) : o.wp P a w next Q := by
 refine wp_val hs hn ⟨_, .func (.func f) #[] (xs.toList.map a.eval).toArray, ?_, h, .fn f _ _ (by simp) (evL_rel hs xs.toList)⟩
 have e : (xs.map a.eval) = (xs.toList.map a.eval).toArray := by apply Array.ext'; simp
 unfold execOp; rw [ho]; simp [Instr.makeFunc, e]

def mnL : A → List A → (A → Prop) → Prop
 | x, [], K => fv x K
 | x, y :: ys, K => mn2 x y fun v => mnL v ys K
def mxL : A → List A → (A → Prop) → Prop
 | x, [], K => fv x K
 | x, y :: ys, K => mx2 x y fun v => mxL v ys K
theorem mnL_sound : ∀ (ys : List A) (vs : List Value) (x : A) (v : Value) (K : A → Prop), Rel ids im w x v → ys.length = vs.length → (∀ j (h : j < ys.length) (h' : j < vs.length), Rel ids im w ys[j] vs[j]) → mnL x ys K →
  ∃ r u, (vs.foldlM Builtin.min2 v).run P w = .ok u w ∧ K r ∧ Rel ids im w r u
 | [], vs, x, v, K, hx, hl, hr, h => by
  have : vs = [] := by cases vs <;> simp at hl ⊢
  subst this
  rw [mnL, fv_eq] at h
  exact ⟨x, v, by simp, h, hx⟩
 | y :: ys, vs, x, v, K, hx, hl, hr, h => by
  cases vs with
  | nil => simp at hl
  | cons u us =>
   have hy : Rel ids im w y u := hr 0 (by simp) (by simp)
   simp only [mnL] at h
   unfold mn2 at h
   split at h
   ·rename_i k a' k' b'
    rw [hx.int_inv, hy.int_inv]
    obtain ⟨r, z, h1, h2, h3⟩ := mnL_sound ys us (.int k (if b' < a' then b' else a')) (.int k (if b' < a' then b' else a')) K (.imm (.int _ _)) (by simpa using hl)
     (fun j h1 h2 => hr (j + 1) (Nat.succ_lt_succ h1) (Nat.succ_lt_succ h2)) h
    exact ⟨r, z, by simp [List.foldlM_cons, Builtin.min2, h1], h2, h3⟩
   ·exact h.elim
theorem mxL_sound : ∀ (ys : List A) (vs : List Value) (x : A) (v : Value) (K : A → Prop), Rel ids im w x v → ys.length = vs.length → (∀ j (h : j < ys.length) (h' : j < vs.length), Rel ids im w ys[j] vs[j]) → mxL x ys K →
  ∃ r u, (vs.foldlM Builtin.max2 v).run P w = .ok u w ∧ K r ∧ Rel ids im w r u
 | [], vs, x, v, K, hx, hl, hr, h => by
  have : vs = [] := by cases vs <;> simp at hl ⊢
  subst this
  rw [mxL, fv_eq] at h
  exact ⟨x, v, by simp, h, hx⟩
 | y :: ys, vs, x, v, K, hx, hl, hr, h => by
  cases vs with
  | nil => simp at hl
  | cons u us =>
   have hy : Rel ids im w y u := hr 0 (by simp) (by simp)
   simp only [mxL] at h
   unfold mx2 at h
   split at h
   ·rename_i k a' k' b'
    rw [hx.int_inv, hy.int_inv]
    obtain ⟨r, z, h1, h2, h3⟩ := mxL_sound ys us (.int k (if a' < b' then b' else a')) (.int k (if a' < b' then b' else a')) K (.imm (.int _ _)) (by simpa using hl)
     (fun j h1 h2 => hr (j + 1) (Nat.succ_lt_succ h1) (Nat.succ_lt_succ h2)) h
    exact ⟨r, z, by simp [List.foldlM_cons, Builtin.max2, h1], h2, h3⟩
   ·exact h.elim
end
end Go.Proofs.YtnkbkfjgbejhfaaGreat.Am
namespace Go.Proofs.YtnkbkfjgbejhfaaGreat.Am
variable [Inhabited DRT]
open Go.RowKit (Below)

def fd : Nat → A → (A → Prop) → Prop
 | 0, x, K => fv x K
 | d + 1, x, K => match x with
  | .agg cs => fdl d cs fun c => K (.agg c)
  | .tup cs => fdl d cs fun c => K (.tup c)
  | .fn f cs => fdl d cs fun c => K (.fn f c)
  | .bref cs o => fdl d cs fun c => K (.bref c o)
  | x => fv x K
where fdl (d : Nat) : List A → (List A → Prop) → Prop
 | [], K => K []
 | a :: as, K => fd d a fun a' => fdl d as fun as' => K (a' :: as')
mutual
theorem fd_eq : ∀ (d : Nat) (x : A) (K : A → Prop), fd d x K = K x
 | 0, x, K => by rw [fd, fv_eq]
 | d + 1, x, K => by cases x <;> simp only [fd, fdl_eq, fv_eq]
theorem fdl_eq : ∀ (d : Nat) (l : List A) (K : List A → Prop), fd.fdl d l K = K l
 | _, [], _ => by rw [fd.fdl]
 | d, a :: as, K => by rw [fd.fdl]; simp only [fd_eq, fdl_eq d as]
end

def plain : Nat → A → Bool
 | 0, _ => false
 | d + 1, x => match x with
  | .int _ _ => true
  | .bool _ => true
  | .sb _ => true
  | .str _ => true
  | .nilp => true
  | .nils => true
  | .nilm => true
  | .agg cs => cs.all (plain d)
  | .tup cs => cs.all (plain d)
  | _ => false
/-- A cell of a slice of maps, as a value. -/
def gvA (agg : Bool) (sh : List KS) (x : Nat) (has : List KC → Bool) (val : List KC → A) : A := match x with
 | 0 => .nilm
 | 1 => .mv agg sh has val
 | _ => .junk
def wk (m : List Blk) : Nat → A → A
 | 0, _ => .junk
 | d + 1, x => match x with
  | .ref b off => match m.getD b .dead with
   | .box _ cs => .bref (cs.map (wk m d)) off
   | _ => .junk
  | .oref _ _ _ => .junk
  | .own b => match m.getD b .dead with
   | .row _ sz n row => .sl n sz row
   | .nest _ _ sz n hole len row => match hole with
    | none => .sl n 1 fun i => [.sl (len i) sz (row i)]
    | some _ => .junk
   | .mgrid _ agg sh n _ cs ini has val => match cs.isEmpty with
    | true => .sl n 1 fun i => [gvA agg sh (ini i) (has i) (val i)]
    | false => .junk
   | _ => .junk
  | .omap b => match m.getD b .dead with
   | .mapb g n key val => .mv g n key val
   | _ => .junk
  | .ent _ _ => .junk
  | .osl _ _ => .junk
  | .agg cs => .agg (cs.map (wk m d))
  | .tup cs => .tup (cs.map (wk m d))
  | .fn f cs => .fn f (cs.map (wk m d))
  | x => x

section
variable {c : Ctx} {s : List A} {m : List Blk} {a : Act} {w w' : World} {ids ids' : Ids} {P : Program} {im im' : Nat → Prop} {tt : TT}
variable {next : Act → World → Prop} {Q : Exit → Act → World → Prop} {o : Oper}

theorem plain_rel : ∀ (d : Nat) (x : A) (v : Value), plain d x = true → RelI im w x v → RelI im' w' x v
 | 0, x, v, h, _ => by cases h
 | d + 1, x, v, h, hr => by
  cases hr with
  | int => exact .int _ _
  | bool => exact .bool _
  | sb => exact .sb _
  | str => exact .str _
  | nilp => exact .nilp
  | nils => exact .nils
  | agg cs vs hl ho hr =>
   refine .agg cs vs hl ho fun j h1 h2 => plain_rel d _ _ ?_ (hr j h1 h2)
   simp only [plain, List.all_eq_true] at h
   exact h _ (List.getElem_mem h1)
  | tup cs vs hl hr =>
   refine .tup cs vs hl fun j h1 h2 => plain_rel d _ _ ?_ (hr j h1 h2)
   simp only [plain, List.all_eq_true] at h
   exact h _ (List.getElem_mem h1)
  | bref => cases h
  | sl0 => cases h
  | sle => cases h
  | sl => cases h
  | fn => cases h
  | nilfn => cases h
  | nilm => exact .nilm
  | mv => cases h
  | junk => cases h

/-- What may be read through a value, all that is the call's own besides. -/
def imAll (c : Ctx) (ids : Ids) (w : World) : Nat → Prop := fun b => imOf c ids w b ∨ ∃ p, IdE.lv p ∈ ids ∧ p.has b

theorem grid_imm {ty : TypeId} {agg : Bool} {sh : List KS} {n hi : Nat} {cs : List A} {ini : Nat → Nat} {has : Nat → List KC → Bool} {val : Nat → List KC → A} {p : Id} {cap : Nat}
  (hB : BRel ids im w (.mgrid ty agg sh n hi cs ini has val) (.lv p)) (he : cs.isEmpty = true) (hc : p.n ≤ cap) (hA : ∀ x, im x → im' x) (hZ : ∀ x, p.has x → im' x) :
  RelI im' w (.sl n 1 fun i => [gvA agg sh (ini i) (has i) (val i)]) (.slice (some ⟨p.blk, 0, none⟩) p.n cap) := by
 obtain ⟨q1, q2, q3, vs0, g1, g2, g3, g4, kb, g5⟩ := hB
 subst q2
 have he : cs.length = 0 := by cases cs with | nil => rfl | cons x xs => cases he
 refine .sl p.n 1 _ p.blk 0 cap (fun i j => vs0.getD (i * 1 + j) undef) (hZ _ (.inl rfl)) hc (fun _ _ => rfl) ?_ ?_ ?_
 ·intro i j hi hj
  rw [Nat.zero_add, cell_of_row w p.blk _ vs0 ty (0, 0) g1]
  simp [Array.getD_eq_getD_getElem?, show i + j < vs0.size by omega]
 ·intro i j hi hj
  have hj0 : j = 0 := by omega
  subst hj0
  have hk : i < vs0.size := by omega
  simp only [Nat.mul_one, Nat.add_zero, Array.getD_eq_getD_getElem?, Array.getElem?_eq_getElem hk, Option.getD_some]
  obtain ⟨⟨x, e⟩, _⟩ := g5 i hi hk
  rw [e]; rfl
 ·intro i j hi hj
  have hj0 : j = 0 := by simp at hj; omega
  subst hj0
  have hk : i < vs0.size := by omega
  simp only [Nat.mul_one, Nat.add_zero, Array.getD_eq_getD_getElem?, Array.getElem?_eq_getElem hk, Option.getD_some, List.getElem_cons_zero]
  obtain ⟨_, k1⟩ := g5 i hi hk
  obtain ⟨k2, k3⟩ := k1 (.inl he)
  unfold gvA
  split
  ·rename_i e; rw [k2 e]; exact .nilm
  ·rename_i e
   obtain ⟨e1, e2, ⟨es, clock, f, m1, m2, m3, m4, m5, m6, m7⟩, _⟩ := k3 e
   rw [e1]
   exact .mv _ _ _ _ _ es clock f (hZ _ (.inr e2)) m1 m2 m3 m4 (fun i hi => (m5 i hi).mono hA (fun _ _ => rfl)) m6 m7
  ·exact .junk _
theorem wk_rel (hs : Sim c s m a w ids) : ∀ (d : Nat) (x : A) (v : Value), Rel ids (imOf c ids w) w x v → RelI (imAll c ids w) w (wk m d x) v
 | 0, x, v, _ => .junk _
 | d + 1, x, v, hr => by
  have up : RelI (imOf c ids w) w x v → RelI (imAll c ids w) w x v := fun h => h.mono (fun _ h => .inl h) (fun _ _ => rfl)
  cases hr with
  | imm hr =>
   cases hr with
   | agg cs vs hl ho hr => exact .agg _ vs (by simp [hl]) ho fun j h1 h2 => by simpa using wk_rel hs d _ _ (.imm (hr j (by simpa using h1) h2))
   | tup cs vs hl hr => exact .tup _ vs (by simp [hl]) fun j h1 h2 => by simpa using wk_rel hs d _ _ (.imm (hr j (by simpa using h1) h2))
   | fn f cs vs hl hr => exact .fn f _ vs (by simp [hl]) fun j h1 h2 => by simpa using wk_rel hs d _ _ (.imm (hr j (by simpa using h1) h2))
   | int => exact .int _ _
   | bool => exact .bool _
   | sb => exact .sb _
   | str => exact .str _
   | nilp => exact .nilp
   | nils => exact .nils
   | nilfn => exact .nilfn
   | nilm => exact .nilm
   | mv g n key val r es clock f hb hh hk hd hc hv hbn hbu => exact up (.mv g n key val r es clock f hb hh hk hd hc hv hbn hbu)
   | junk => exact .junk _
   | sl0 => exact .sl0 _ _
   | sle => exact .sle _ _ _ _
   | sl n sz row blk base cap vs hb hcap hl hc ho hr => exact up (.sl n sz row blk base cap vs hb hcap hl hc ho hr)
   | bref blk base off cs vs hb hc ho hr => exact up (.bref blk base off cs vs hb hc ho hr)
  | ref b off p h =>
   simp only [wk]
   split
   ·rename_i ty cs hb
    obtain ⟨vs, h1, h2, h3, h4⟩ := hs.run_box h hb
    have := RelI.bref (im := imAll c ids w) (w := w) p.blk 0 off (cs.map (wk m d)) (fun j => vs.getD j undef) (.inr ⟨p, List.mem_of_getElem? h, .inl rfl⟩)
     (fun j hj => by simp at hj; have := h2 j (by omega); simpa [List.getD_eq_getElem?_getD, show j < vs.length by omega] using this)
     (fun j hj => by simp at hj; have := h3 _ (List.getElem_mem (show j < vs.length by omega)); simpa [List.getD_eq_getElem?_getD, show j < vs.length by omega] using this)
     (fun j hj => by
      simp at hj
      have := wk_rel hs d _ _ (h4 j hj (by omega))
      simpa [List.getD_eq_getElem?_getD, show j < vs.length by omega] using this)
    simpa using this
   ·exact .junk _
  | oref => exact .junk _
  | ent => exact .junk _
  | entS => exact .junk _
  | osl => exact .junk _
  | osl0 => exact .junk _
  | oslS => exact .junk _
  | ownS b x n cap h => simp only [wk, hs.stale_gone h]; exact .junk _
  | refS b off x y h => simp only [wk, hs.stale_gone h]; exact .junk _
  | orefS => exact .junk _
  | omapS b x h => simp only [wk, hs.stale_gone h]; exact .junk _
  | own0 b h =>
   simp only [wk]
   split
   ·rename_i ty sz n row hb
    rcases own_len hs (.own0 b h) hb with ⟨rfl, _, _⟩ | ⟨p, cap, g1, _⟩
    ·exact .sl0 _ _
    ·rw [h] at g1; cases g1
   ·rename_i hb
    have hlt : b < ids.length := by
     rcases Nat.lt_or_ge b ids.length with h' | h'
     ·exact h'
     ·rw [List.getElem?_eq_none h'] at h; cases h
    have := hs.blks b (by rw [← hs.mlen]; exact hlt) hlt
    rw [List.getElem?_eq_getElem hlt] at h
    have e : m[b]'(by rw [← hs.mlen]; exact hlt) = m.getD b .dead := by
     rw [List.getD_eq_getElem?_getD, List.getElem?_eq_getElem (by rw [← hs.mlen]; exact hlt)]; rfl
    rw [e, hb, Option.some.inj h] at this
    have this : _ = 0 := this
    subst this
    split
    ·exact .sl0 _ _
    ·exact .junk _
   ·rename_i ty agg sh n hi2 cs ini has val hb
    have hlt : b < ids.length := by
     rcases Nat.lt_or_ge b ids.length with h' | h'
     ·exact h'
     ·rw [List.getElem?_eq_none h'] at h; cases h
    have := hs.blks b (by rw [← hs.mlen]; exact hlt) hlt
    rw [List.getElem?_eq_getElem hlt] at h
    have e : m[b]'(by rw [← hs.mlen]; exact hlt) = m.getD b .dead := by
     rw [List.getD_eq_getElem?_getD, List.getElem?_eq_getElem (by rw [← hs.mlen]; exact hlt)]; rfl
    rw [e, hb, Option.some.inj h] at this
    have this : _ = 0 := this
    subst this
    split
    ·exact .sl0 _ _
    ·exact .junk _
   ·exact .junk _
  | own b cap p h hn hm =>
   simp only [wk]
   split
   ·rename_i ty sz n row hb
    obtain ⟨x, hxm, hbr⟩ := hs.blk_at h
    rw [getD_of_get hxm] at hb; subst hb
    obtain ⟨q1, q2, vs0, g1, g2, g3, hl, g5⟩ := hbr
    subst q1; subst q2
    have hlt : ∀ i j, i < p.n → j < p.sz → i * p.sz + j < vs0.size := by
     intro i j hi hj
     have := Nat.mul_le_mul_right p.sz (show i + 1 ≤ p.n from hi)
     rw [Nat.add_mul] at this; omega
    refine .sl p.n p.sz row p.blk 0 cap (fun i j => vs0.getD (i * p.sz + j) undef) (.inr ⟨p, List.mem_of_getElem? h, .inl rfl⟩) hn.1 hl ?_ ?_ ?_
    ·intro i j hi hj
     have hk := hlt i j hi hj
     rw [Nat.zero_add, cell_of_row w p.blk _ vs0 ty (0, 0) g1]
     simp [Array.getD_eq_getD_getElem?, hk]
    ·intro i j hi hj
     have hk := hlt i j hi hj
     have := (g5 i j hi (by rw [hl i hi]; exact hj) hk).2
     simpa [Array.getD_eq_getD_getElem?, hk] using this
    ·intro i j hi hj
     have hk := hlt i j hi (by rw [← hl i hi]; exact hj)
     have := (g5 i j hi hj hk).1
     simp only [Array.getD_eq_getD_getElem?, Array.getElem?_eq_getElem hk, Option.getD_some]
     exact this.mono (fun _ h => .inl h) (fun _ _ => rfl)
   ·rename_i ty ety sz n hole len row hb
    split
    ·skip
     obtain ⟨x, hxm, hbr⟩ := hs.blk_at h
     rw [getD_of_get hxm] at hb; subst hb
     obtain ⟨q1, q2, q3, vs0, g1, g2, g3, kb, g5⟩ := hbr
     subst q2
     refine .sl p.n 1 _ p.blk 0 cap (fun i j => vs0.getD (i * 1 + j) undef) (.inr ⟨p, List.mem_of_getElem? h, .inl rfl⟩) hn.1 (fun _ _ => rfl) ?_ ?_ ?_
     ·intro i j hi hj
      rw [Nat.zero_add, cell_of_row w p.blk _ vs0 ty (0, 0) g1]
      simp [Array.getD_eq_getD_getElem?, show i + j < vs0.size by omega]
     ·intro i j hi hj
      have hj0 : j = 0 := by omega
      subst hj0
      have hk : i < vs0.size := by omega
      simp only [Nat.mul_one, Nat.add_zero, Array.getD_eq_getD_getElem?, Array.getElem?_eq_getElem hk, Option.getD_some]
      rcases (g5 i hi (by simp) hk).1 with ⟨e, _⟩ | ⟨q, cap', vs', e, _⟩ <;> rw [e] <;> rfl
     ·intro i j hi hj
      have hj0 : j = 0 := by simp at hj; omega
      subst hj0
      have hk : i < vs0.size := by omega
      simp only [Nat.mul_one, Nat.add_zero, Array.getD_eq_getD_getElem?, Array.getElem?_eq_getElem hk, Option.getD_some, List.getElem_cons_zero]
      obtain ⟨k1, k2, _⟩ := g5 i hi (by simp) hk
      rcases k1 with ⟨e1, e2, _⟩ | ⟨q, cap', vs', e1, e2, e3, e4, e5, e6, e7, e8⟩
      ·rw [e1, e2]; exact .sl0 _ _
      ·rw [e1]
       have hlt : ∀ i' j, i' < len i → j < sz → i' * sz + j < vs'.size := by
        intro i' j hi' hj
        have h1 := Nat.mul_le_mul_right sz (show i' + 1 ≤ len i from hi')
        have h2 := Nat.mul_le_mul_right sz e5
        rw [Nat.add_mul] at h1; omega
       refine .sl (len i) sz (row i) q 0 cap' (fun i' j => vs'.getD (i' * sz + j) undef) (.inr ⟨p, List.mem_of_getElem? h, .inr (k2 q e2)⟩) e5 e7 ?_ ?_ ?_
       ·intro i' j hi' hj
        have hk := hlt i' j hi' hj
        rw [Nat.zero_add, cell_of_row w q _ vs' ety (0, 0) e3]
        simp [Array.getD_eq_getD_getElem?, hk]
       ·intro i' j hi' hj
        have hk := hlt i' j hi' hj
        have := (e8 i' j hi' (by rw [e7 i' hi']; exact hj) hk).2
        simpa [Array.getD_eq_getD_getElem?, hk] using this
       ·intro i' j hi' hj
        have hk := hlt i' j hi' (by rw [← e7 i' hi']; exact hj)
        have := (e8 i' j hi' hj hk).1
        simp only [Array.getD_eq_getD_getElem?, Array.getElem?_eq_getElem hk, Option.getD_some]
        exact this.mono (fun _ h => .inl h) (fun _ _ => rfl)
    ·exact .junk _
   ·rename_i ty agg sh n hi2 cs ini has val hb
    split
    ·rename_i he
     obtain ⟨x, hxm, hbr⟩ := hs.blk_at h
     rw [getD_of_get hxm] at hb; subst hb
     exact grid_imm hbr he hn.1 (fun _ h => .inl h) (fun x hx => .inr ⟨p, List.mem_of_getElem? h, hx⟩)
    ·exact .junk _
   ·exact .junk _
  | omap b p h =>
   simp only [wk]
   split
   ·rename_i g n key val hb
    obtain ⟨x, hxm, hbr⟩ := hs.blk_at h
    rw [getD_of_get hxm] at hb; subst hb
    obtain ⟨es, clock, f, g1, g2, g3, g4, g5, g6, g7⟩ := hbr
    exact .mv g n key val p.blk es clock f (.inr ⟨p, List.mem_of_getElem? h, .inl rfl⟩) g1 g2 g3 g4 (fun i hi => (g5 i hi).mono (fun _ h => .inl h) (fun _ _ => rfl)) g6 g7
   ·exact .junk _
  | agg cs vs hl ho hr => exact .agg _ vs (by simp [hl]) ho fun j h1 h2 => by simpa using wk_rel hs d _ _ (hr j (by simpa using h1) h2)
  | tup cs vs hl hr => exact .tup _ vs (by simp [hl]) fun j h1 h2 => by simpa using wk_rel hs d _ _ (hr j (by simpa using h1) h2)
  | fn f cs vs hl hr => exact .fn f _ vs (by simp [hl]) fun j h1 h2 => by simpa using wk_rel hs d _ _ (hr j (by simpa using h1) h2)
end
end Go.Proofs.YtnkbkfjgbejhfaaGreat.Am
namespace Go.Proofs.YtnkbkfjgbejhfaaGreat.Am
variable [Inhabited DRT]
open Go.RowKit (Below)

/-! ### Slices of texts and of plain slices -/
def evO (s : List A) : Option Operand → Option A
 | none => none
 | some x => some (ev s x)
def bnd (x : Option A) (d y : Nat) (K : Nat → Prop) : Prop :=
 match x with
 | none => K d
 | some v => match v with
  | .int _ i => (0 ≤ i ∧ i ≤ (y : Int)) ∧ K i.toNat
  | _ => False
def sSlice (tt : TT) (t : TypeId) (x : A) (lo hi : Option A) (K : A → Prop) : Prop :=
 match tt.lookup t with
 | none => False
 | some ti => match ti.kind, x with
  | 4, .str s => bnd hi s.length s.length fun h => bnd lo 0 h fun l => K (.str ((s.take h).drop l))
  | 3, .sl n sz row => match Nat.beq sz ti.esz with
   | true => bnd hi n n fun h => bnd lo 0 h fun l => K (.sl (h - l) sz fun i => row (l + i))
   | false => False
  | 3, .nils => bnd hi 0 0 fun h => bnd lo 0 h fun _ => K .nils
  | _, _ => False

section
variable {c : Ctx} {s : List A} {m : List Blk} {a : Act} {w w' : World} {ids ids' : Ids} {P : Program} {im im' : Nat → Prop} {tt : TT}
variable {next : Act → World → Prop} {Q : Exit → Act → World → Prop} {o : Oper}

theorem bnd_run (hs : Sim c s m a w ids) {x : Option Operand} {d y y' : Nat} {K : Nat → Prop} (h : bnd (evO s x) d y K) (hy : y ≤ y') :
  ∃ n, K n ∧ (x = none → n = d) ∧ (x.isSome → n ≤ y) ∧ ∀ X, x = some X → ∃ k i, a.eval X = .int k i ∧ i.toNat = n ∧ 0 ≤ i ∧ i ≤ (y' : Int) := by
 cases x with
 | none => exact ⟨d, h, fun _ => rfl, fun h => by simp at h, fun _ h => by simp at h⟩
 | some X =>
  simp only [bnd, evO] at h
  split at h
  ·rename_i v k i hv
   have hx := hs.ev X; rw [hv] at hx
   exact ⟨i.toNat, h.2, fun h => by simp at h, fun _ => by omega, fun X' hX' => by cases hX'; exact ⟨k, i, hx.int_inv, rfl, h.1.1, by omega⟩⟩
  ·exact h.elim

theorem bounds_run {isS : Bool} {len cap : Nat} {lo hi : Option Operand} {h l : Nat} (hh : hi = none → h = len) (hl : lo = none → l = 0)
  (eh : ∀ X, hi = some X → ∃ k i, a.eval X = .int k i ∧ i.toNat = h ∧ 0 ≤ i ∧ i ≤ (cap : Int))
  (el : ∀ X, lo = some X → ∃ k i, a.eval X = .int k i ∧ i.toNat = l ∧ 0 ≤ i ∧ i ≤ (h : Int)) :
  (Instr.sliceBounds isS len cap (lo.map a.eval) (hi.map a.eval) none).run P w = .ok (l, h, cap) w := by
 cases hi with
 | none =>
  have := hh rfl; subst this
  cases lo with
  | none => have := hl rfl; subst this; simp [Instr.sliceBounds]
  | some L =>
   obtain ⟨k, i, e1, e2, e3, e4⟩ := el L rfl
   simp [Instr.sliceBounds, e1, run_sliceBound, e3, e4, e2]
 | some H =>
  obtain ⟨k, i, e1, e2, e3, e4⟩ := eh H rfl
  cases lo with
  | none => have := hl rfl; subst this; simp [Instr.sliceBounds, e1, run_sliceBound, e3, e4, e2]
  | some L =>
   obtain ⟨k', i', f1, f2, f3, f4⟩ := el L rfl
   simp [Instr.sliceBounds, e1, run_sliceBound, e3, e4, e2, f1, f3, f4, f2]

theorem sSlice_sound (htt : TTok P tt) (hs : Sim c s m a w ids) {t : TypeId} {X : Operand} {lo hi : Option Operand} (ho : o.op = .slice t X lo hi none) {K : KT}
  (h : sSlice tt t (ev s X) (evO s lo) (evO s hi) fun v => K v m) (hn : NextOk c s o K next) : o.wp P a w next Q := by
 have hx := hs.ev X
 have e : execOp a.eval o = (do let z ← Instr.sliceAt t (a.eval X) (lo.map a.eval) (hi.map a.eval) none; pure (.value z)) := by unfold execOp; rw [ho]; rfl
 unfold sSlice at h
 split at h
 ·exact h.elim
 ·rename_i ti hti
  obtain ⟨i, d, z, _, hd, _, _, _, _, _, _, _, _, _, hk3, hk5, hk4, _⟩ := htt.facts hti
  split at h
  ·rename_i st hk hv; rw [hv] at hx
   rw [hk4 hk] at hd
   obtain ⟨hb, h, b1, b2, b3⟩ := bnd_run hs h (Nat.le_refl _)
   obtain ⟨lb, h, c1, c2, c3⟩ := bnd_run hs h (Nat.le_refl _)
   refine wp_val hs hn ⟨_, .string ⟨((st.take hb).drop lb).toArray⟩, ?_, h, .imm (.str _)⟩
   have hsz : (ByteArray.mk st.toArray).size = st.length := by simp [ByteArray.size]
   rw [e, hx.str_inv, Sem.run_bind, run_sliceAt_string _ _ _ _ _ _ hd]
   have := bounds_run (P := P) (w := w) (a := a) (isS := false) (len := st.length) (cap := st.length) b1 c1 b3 c3
   simp [Instr.slice, underlying, hd, hsz, this]
   apply ByteArray.ext
   have : lb ≤ hb := by
    cases lo with
    | none => have := c1 rfl; omega
    | some L => exact c2 rfl
   have : hb ≤ st.length := by
    cases hi with
    | none => have := b1 rfl; omega
    | some L => exact b2 rfl
   simp [ByteArray.data_extract]
   rw [List.drop_take]
  ·rename_i n sz row hk hv; rw [hv] at hx
   obtain ⟨ie, ze, hd', hie, hsz, _, _, _, _⟩ := hk3 hk
   subst hd'
   split at h
   ·rename_i hb
    have hb := Nat.eq_of_beq_eq_true hb
    have hun : P.underlying t = some (.slice (P.elem t)) := by
     have : P.elem t = ti.ety := by simp [Program.elem, hd]
     rw [this]; exact hd
    have hel : P.elem t = ti.ety := by simp [Program.elem, hd]
    cases hx with
    | imm hx =>
     have key : ∀ (ba : Option Addr) (cap : Nat), n ≤ cap → a.eval X = .slice ba n cap →
       (∀ (l h : Nat), l ≤ h → h ≤ n → RelI (imOf c ids w) w (.sl (h - l) sz fun i => row (l + i)) (.slice (if cap = l then ba else ba.map (·.add (l * sz))) (h - l) (cap - l))) → o.wp P a w next Q := by
      intro ba cap hcap hX hrel
      obtain ⟨hb', h, b1, b2, b3⟩ := bnd_run hs h hcap
      obtain ⟨lb, h, c1, c2, c3⟩ := bnd_run hs h (Nat.le_refl _)
      have q1 : lb ≤ hb' := by
       cases lo with
       | none => have := c1 rfl; omega
       | some L => exact c2 rfl
      have q2 : hb' ≤ n := by
       cases hi with
       | none => have := b1 rfl; omega
       | some L => exact b2 rfl
      refine wp_val hs hn ⟨_, _, ?_, h, .imm (hrel lb hb' q1 q2)⟩
      rw [e, hX, Sem.run_bind, run_sliceAt_slice _ _ _ _ _ _ hun, run_slice_any _ _ _ _ _ hun]
      have := bounds_run (P := P) (w := w) (a := a) (isS := true) (len := n) (cap := cap) b1 c1 b3 c3
      simp [this, hel, sizeOf, typeInfo, hie, hsz, sliced, hb]
     generalize hX : a.eval X = V at hx
     cases hx with
     | sl0 =>
      refine key none 0 (by omega) hX (fun l h h1 h2 => ?_)
      have : l = 0 := by omega
      subst this
      have : h = 0 := by omega
      subst this
      exact .sl0 _ _
     | sle _ _ ad cap =>
      refine key (some ad) cap (by omega) hX (fun l h h1 h2 => ?_)
      have : l = 0 := by omega
      subst this
      have : h = 0 := by omega
      subst this
      split
      ·exact .sle _ _ _ _
      ·exact .sle _ _ _ _
     | sl _ _ _ blk base cap vs hb hcap hl hc hoo hr =>
      refine key _ cap hcap hX (fun l h h1 h2 => ?_)
      by_cases hcl : cap = l
      ·have e1 : h - l = 0 := by omega
       rw [if_pos hcl, e1]
       exact .sl 0 sz _ blk base _ vs hb (by omega) (fun _ h => by omega) (fun _ _ h => by omega) (fun _ _ h => by omega) (fun _ _ h => by omega)
      ·rw [if_neg hcl]
       show RelI _ _ _ (.slice (some (Addr.add ⟨blk, base, none⟩ (l * sz))) _ _)
       rw [show Addr.add ⟨blk, base, none⟩ (l * sz) = ⟨blk, base + l * sz, none⟩ from by simp [Addr.add]]
       refine .sl (h - l) sz (fun i => row (l + i)) blk (base + l * sz) (cap - l) (fun i j => vs (l + i) j) hb (by omega) (fun i hi => hl (l + i) (by omega)) (fun i j hi hj => ?_) (fun i j hi hj => hoo (l + i) j (by omega) hj) (fun i j hi hj => hr (l + i) j (by omega) hj)
       rw [← hc (l + i) j (by omega) hj, Nat.add_mul, Nat.add_assoc base]
   ·exact h.elim
  ·rename_i hk hv; rw [hv] at hx
   obtain ⟨ie, ze, hd', hie, hsz, _, _, _, _⟩ := hk3 hk
   subst hd'
   have hun : P.underlying t = some (.slice (P.elem t)) := by
    have : P.elem t = ti.ety := by simp [Program.elem, hd]
    rw [this]; exact hd
   have hel : P.elem t = ti.ety := by simp [Program.elem, hd]
   obtain ⟨hb', h, b1, b2, b3⟩ := bnd_run hs h (Nat.le_refl _)
   obtain ⟨lb, h, c1, c2, c3⟩ := bnd_run hs h (Nat.le_refl _)
   refine wp_val hs hn ⟨_, .slice none 0 0, ?_, h, .imm .nils⟩
   have q2 : hb' ≤ 0 := by
    cases hi with
    | none => have := b1 rfl; omega
    | some L => exact b2 rfl
   have q1 : lb ≤ hb' := by
    cases lo with
    | none => have := c1 rfl; omega
    | some L => exact c2 rfl
   have : hb' = 0 := by omega
   subst this
   have : lb = 0 := by omega
   subst this
   rw [e, hx.nils_inv, Sem.run_bind, run_sliceAt_slice _ _ _ _ _ _ hun, run_slice_any _ _ _ _ _ hun]
   have := bounds_run (P := P) (w := w) (a := a) (isS := true) (len := 0) (cap := 0) b1 c1 b3 c3
   simp [this, hel, sizeOf, typeInfo, hie, hsz, sliced]
  ·exact h.elim
end
end Go.Proofs.YtnkbkfjgbejhfaaGreat.Am
namespace Go.Proofs.YtnkbkfjgbejhfaaGreat.Am
variable [Inhabited DRT]
open Go.RowKit (Below)

/-- What is known of the world at each moment: it hangs on the first n blocks alone. -/
structure GInv where
 G : World → Prop
 n : Nat
 lt : ∀ w, G w → n ≤ w.heap.size
 st : ∀ w w', G w → w.heap.size ≤ w'.heap.size → (∀ b, b < n → w'.heap[b]? = w.heap[b]?) → G w'
def GInv.ok (G : GInv) (c : Ctx) : Prop := G.G c.w0 ∧ ∀ b, c.mu b → G.n ≤ b
theorem GInv.ok.now {G : GInv} {c : Ctx} {w : World} (h : G.ok c) (hf : Fr c w) : G.G w :=
 G.st _ _ h.1 hf.size fun b hb => hf.block b (Nat.lt_of_lt_of_le hb (G.lt _ h.1)) fun hm => by have := h.2 b hm; omega

def ACalls (P : Program) (G : GInv) (f : FuncId) (args : List A) (r : A) : Prop :=
 (∃ fn cd, P.funcs[f]? = some fn ∧ fn.body = some cd ∧ (fn.name == "runtime.NumGoroutine") = false) ∧
 ∀ (im : Nat → Prop) (w : World) (vs : List Value), (∀ b, im b → b < w.heap.size) → G.G w → vs.length = args.length →
  (∀ j (h : j < args.length) (h' : j < vs.length), RelI im w args[j] vs[j]) →
  Calls P f vs.toArray w fun e w' => ∃ v, e = .returned v ∧ RelI (fun b => im b ∨ (w.heap.size ≤ b ∧ b < w'.heap.size)) w' r v ∧ Bw w.heap.size w w'

def sCall (P : Program) (G : GInv) (f : A) (args : List A) (m : List Blk) (K : KT) : Prop :=
 match f with
 | .fn g cap => fd.fdl 4 (args ++ cap) fun as => match as.any (hasOwn 4) with
  | false => ∃ r, ACalls P G g as r ∧ fd 3 r fun r' => K r' m
  | true => fd.fdl 4 (as.map (wk m 5)) fun as' => ∃ r, ACalls P G g as' r ∧ plain 4 r = true ∧ fd 3 r fun r' => K r' m
 | _ => False

section
variable {c : Ctx} {s : List A} {m : List Blk} {a : Act} {w w' : World} {ids ids' : Ids} {P : Program} {im im' : Nat → Prop} {tt : TT} {G : GInv}
variable {next : Act → World → Prop} {Q : Exit → Act → World → Prop} {o : Oper}

theorem Calls_mono {f : FuncId} {args : Array Value} {R R' : Ending → World → Prop} (h : Calls P f args w R) (hr : ∀ e w', R e w' → R' e w') : Calls P f args w R' := by
 intro cs
 obtain ⟨e, w', fr, h1, h2⟩ := h cs
 exact ⟨e, w', fr, hr _ _ h1, h2⟩

theorem sCall_sound (hs : Sim c s m a w ids) (hG : G.ok c) {F : Operand} {xs : Array Operand} {ts : Array TypeId} (ho : o.op = .call { callee := .value F, args := xs, argTypes := ts }) {K : KT}
  (h : sCall P G (ev s F) (xs.toList.map (ev s)) m K) (hn : NextOk c s o K next) : o.wp P a w next Q := by
 have hf := hs.ev F
 have hGw : G.G w := hG.now hs.frame
 unfold sCall at h
 split at h
 ·rename_i g cap hv; rw [hv] at hf
  obtain ⟨us, hu1, hu2, hu3⟩ := hf.fn_inv
  rw [fdl_eq] at h
  have hrel : ∀ j (h : j < (xs.toList.map (ev s) ++ cap).length) (h' : j < (xs.toList.map a.eval ++ us).length), Rel ids (imOf c ids w) w (xs.toList.map (ev s) ++ cap)[j] (xs.toList.map a.eval ++ us)[j] := by
   intro j h h'
   by_cases hj : j < xs.toList.length
   ·rw [List.getElem_append_left (by simpa using hj), List.getElem_append_left (by simpa using hj)]
    exact evL_rel hs xs.toList j (by simpa using hj) (by simpa using hj)
   ·rw [List.getElem_append_right (by simpa using hj), List.getElem_append_right (by simpa using hj)]
    simp at h h' hj
    have := hu3 (j - xs.size) (by omega) (by omega)
    simpa using this
  have hlen : (xs.toList.map a.eval ++ us).length = (xs.toList.map (ev s) ++ cap).length := by simp [hu2]
  have run : ∀ fn cd, P.funcs[g]? = some fn → fn.body = some cd → (fn.name == "runtime.NumGoroutine") = false → (execOp a.eval o).run P w = .ok (.enter g (xs.toList.map a.eval ++ us).toArray) w := by
   intro fn cd h1 h2 h3
   have e : execOp a.eval o = (do let d ← resolve a.eval { callee := .value F, args := xs, argTypes := ts } o.type; invoke d.target d.args) := by unfold execOp; rw [ho]
   have e2 : (xs.map a.eval ++ us.toArray) = (xs.toList.map a.eval ++ us).toArray := by apply Array.ext'; simp
   have h4 : ¬ fn.name = "runtime.NumGoroutine" := by simpa using h3
   rw [e]
   simp [resolve, hu1, Deferred.ofValue, invoke, callFunc, h1, h2, h4, e2]
  split at h
  ·rename_i hown
   obtain ⟨r, hc, hk⟩ := h
   rw [fd_eq] at hk
   obtain ⟨⟨fn, cd, h1, h2, h3⟩, hc⟩ := hc
   unfold Oper.wp
   rw [run fn cd h1 h2 h3]
   show Calls P g _ w _
   refine Calls_mono (hc (imOf c ids w) w (xs.toList.map a.eval ++ us) (fun b hb => imOf_lt hs hb) hGw hlen (fun j h h' => hasOwn_rel 4 _ _ ?_ (hrel j h h'))) ?_
   ·have := List.any_eq_false.1 hown _ (List.getElem_mem h)
    simpa using this
   ·rintro e w' ⟨v, rfl, hr, hb⟩
    refine hn r m _ _ ids hk ((hs.same hb).putD o.dst (.imm (hr.mono ?_ (fun _ _ => rfl))))
    rintro b (hb' | ⟨hb1, hb2⟩)
    ·rcases hb' with h | ⟨q1, q2, q3⟩
     ·exact .inl h
     ·exact .inr ⟨q1, Nat.lt_of_lt_of_le q2 hb.size, q3⟩
    ·refine .inr ⟨.inl (Nat.le_trans hs.frame.size hb1), hb2, fun p hp => ?_⟩
     intro hx; have := (hs.freshX p hp b hx).2; omega
  ·rw [fdl_eq] at h
   obtain ⟨r, hc, hpl, hk⟩ := h
   rw [fd_eq] at hk
   obtain ⟨⟨fn, cd, h1, h2, h3⟩, hc⟩ := hc
   unfold Oper.wp
   rw [run fn cd h1 h2 h3]
   show Calls P g _ w _
   refine Calls_mono (hc (imAll c ids w) w (xs.toList.map a.eval ++ us) ?_ hGw (by simp [hu2]) (fun j h h' => ?_)) ?_
   ·rintro b (hb | ⟨p, hp, hx⟩)
    ·exact imOf_lt hs hb
    ·exact (hs.freshX p hp b hx).2
   ·have := wk_rel hs 5 _ _ (hrel j (by simpa using h) h')
    rw [List.getElem_map]; exact this
   ·rintro e w' ⟨v, rfl, hr, hb⟩
    exact hn r m _ _ ids hk ((hs.same hb).putD o.dst (.imm (plain_rel 4 _ _ hpl hr)))
 ·exact h.elim

def step (P : Program) (G : GInv) (tt : TT) (o : Oper) (s : List A) (m : List Blk) (K : KT) : Prop :=
 match o.op with
 | .move x => fv (ev s x) fun v => K v m
 | .assign x => fv (ev s x) fun v => K v m
 | .pick x y z => sPick (ev s x) (ev s y) (ev s z) fun v => K v m
 | .alloc t => sAlloc tt t m K
 | .box t x => sBox t (ev s x) m K
 | .build t ps => sBuild tt t (ps.toList.map fun p => (p.1, ev s p.2)) m K
 | .load t x => sLoad tt t (ev s x) m K
 | .store t x y => sStore tt t (ev s x) (ev s y) m K
 | .nilCheck x => sNil (ev s x) fun v => K v m
 | .binOp op t x y _ => sBin tt t op (ev s x) (ev s y) fun v => K v m
 | .unOp op _ x => sUn op (ev s x) fun v => K v m
 | .convert src dst x => sConv tt src dst (ev s x) fun v => K v m
 | .makeFunc (.func f) first cap => match first.toList with
  | [] => K (.fn f (cap.toList.map (ev s))) m
  | _ => False
 | .fieldAddr t x f => sFieldAddr tt t (ev s x) f m K
 | .indexAddr t x i => sIndexAddr tt t (ev s x) (ev s i) m K
 | .index t x i => sIndex tt t (ev s x) (ev s i) fun v => K v m
 | .field t x f => sField tt t (ev s x) f fun v => K v m
 | .extract x ix => sExtract (ev s x) ix fun v => K v m
 | .slice t x lo hi mx => match mx with
  | none => sSlice tt t (ev s x) (evO s lo) (evO s hi) fun v => K v m
  | some _ => False
 | .call { callee := .builtin .len, args, argTypes } => match args.toList, argTypes.toList with
  | [x], [t] => sLen tt t (ev s x) m fun v => K v m
  | _, _ => False
 | .call { callee := .builtin .min, args, .. } => match args.toList with
  | x :: xs => mnL (ev s x) (xs.map (ev s)) fun v => K v m
  | _ => False
 | .call { callee := .builtin .max, args, .. } => match args.toList with
  | x :: xs => mxL (ev s x) (xs.map (ev s)) fun v => K v m
  | _ => False
 | .call { callee := .value f, args, .. } => sCall P G (ev s f) (args.toList.map (ev s)) m K
 | _ => False

theorem toList_one {α : Type} {xs : Array α} {x : α} (h : xs.toList = [x]) : xs = #[x] := by apply Array.ext'; simpa using h

theorem step_sound (htt : TTok P tt) (hG : G.ok c) (hs : Sim c s m a w ids) {K : KT} (h : step P G tt o s m K) (hn : NextOk c s o K next) : o.wp P a w next Q := by
 unfold step at h
 split at h
 ·rename_i x ho; rw [fv_eq] at h; exact sMove_sound hs (.inl ho) h hn
 ·rename_i x ho; rw [fv_eq] at h; exact sMove_sound hs (.inr ho) h hn
 ·rename_i ho; exact sPick_sound hs ho h hn
 ·rename_i ho; exact sAlloc_sound htt hs ho h hn
 ·rename_i ho; exact sBox_sound hs ho h hn
 ·rename_i ho; exact sBuild_sound htt hs ho h hn
 ·rename_i ho; exact sLoad_sound htt hs ho h hn
 ·rename_i ho; exact sStore_sound htt hs ho h hn
 ·rename_i ho; exact sNil_sound hs ho h hn
 ·rename_i ho; exact wp_val hs hn (run_bin htt ho (hs.ev _) (hs.ev _) h)
 ·rename_i ho; exact wp_val hs hn (run_un ho (hs.ev _) h)
 ·rename_i ho; exact sConv_sound htt hs ho h hn
 ·rename_i f first cap ho
  split at h
  ·rename_i hf
   have : first = #[] := by apply Array.ext'; simpa using hf
   subst this
   exact sMakeFunc_sound hs ho h hn
  ·exact h.elim
 ·rename_i ho; exact sFieldAddr_sound htt hs ho h hn
 ·rename_i ho; exact sIndexAddr_sound htt hs ho h hn
 ·rename_i ho; exact sIndex_sound htt hs ho h hn
 ·rename_i ho; exact sField_sound htt hs ho h hn
 ·rename_i ho; exact sExtract_sound hs ho h hn
 ·rename_i ho
  split at h
  ·exact sSlice_sound htt hs ho h hn
  ·exact h.elim
 ·rename_i args ts ho
  split at h
  ·rename_i x t hx ht
   rw [toList_one hx, toList_one ht] at ho
   exact sLen_sound htt hs ho h hn
  ·exact h.elim
 ·rename_i args ts ho
  split at h
  ·rename_i x xs hx
   have e : (execOp a.eval o) = (do pure (.value (← Builtin.min_ ts o.type (args.map a.eval)))) := by
    obtain ⟨dst, op, ty, pos, after, guard⟩ := o
    simp only at ho; subst ho
    rw [BigFrame.execOp_builtin, BigFrame.builtin_min]
   obtain ⟨r, v, h1, h2, h3⟩ := mnL_sound (P := P) (xs.map (ev s)) (xs.map a.eval) (ev s x) (a.eval x) _ (hs.ev x) (by simp) (evL_rel hs xs) h
   refine wp_val hs hn ⟨r, v, ?_, h2, h3⟩
   rw [e]; simp [Builtin.min_] at h1 ⊢; simp [hx, h1]
  ·exact h.elim
 ·rename_i args ts ho
  split at h
  ·rename_i x xs hx
   have e : (execOp a.eval o) = (do pure (.value (← Builtin.max_ ts o.type (args.map a.eval)))) := by
    obtain ⟨dst, op, ty, pos, after, guard⟩ := o
    simp only at ho; subst ho
    rw [BigFrame.execOp_builtin, BigFrame.builtin_max]
   obtain ⟨r, v, h1, h2, h3⟩ := mxL_sound (P := P) (xs.map (ev s)) (xs.map a.eval) (ev s x) (a.eval x) _ (hs.ev x) (by simp) (evL_rel hs xs) h
   refine wp_val hs hn ⟨r, v, ?_, h2, h3⟩
   rw [e]; simp [Builtin.max_] at h1 ⊢; simp [hx, h1]
  ·exact h.elim
 ·rename_i ho; exact sCall_sound hs hG ho h hn
 ·exact h.elim
end
end Go.Proofs.YtnkbkfjgbejhfaaGreat.Am
namespace Go.Proofs.YtnkbkfjgbejhfaaGreat.Am
variable [Inhabited DRT]
open Go.RowKit (Below)

/-! ### A row that moves: names of it that are out of date are struck -/
def scr (b : Nat) : Nat → A → A
 | 0, _ => .junk
 | d + 1, x => match x with
  | .ref b' o => match Nat.beq b' b with
   | true => .junk
   | false => .ref b' o
  | .oref b' i o => match Nat.beq b' b with
   | true => .junk
   | false => .oref b' i o
  | .own b' => match Nat.beq b' b with
   | true => .junk
   | false => .own b'
  | .omap b' => match Nat.beq b' b with
   | true => .junk
   | false => .omap b'
  | .ent _ _ => .junk
  | .osl _ _ => .junk
  | .agg cs => .agg (cs.map (scr b d))
  | .tup cs => .tup (cs.map (scr b d))
  | .fn f cs => .fn f (cs.map (scr b d))
  | x => x
def scrB (b d : Nat) : Blk → Blk
 | .box ty cs => .box ty (cs.map (scr b d))
 | .ghost cs => .ghost (cs.map (scr b d))
 | .mgrid ty g sh n hi cs ini has val => .mgrid ty g sh n hi (cs.map (scr b d)) ini has val
 | x => x

section
variable {c : Ctx} {s : List A} {m : List Blk} {a : Act} {w w' : World} {ids ids' : Ids} {P : Program} {im im' : Nat → Prop} {tt : TT} {G : GInv}
variable {next : Act → World → Prop} {Q : Exit → Act → World → Prop} {o : Oper}

theorem scr_rel {b : Nat} (hi : ∀ b, im b → im' b) (hw : ∀ b, im b → w'.heap[b]? = w.heap[b]?) (hd : ∀ (b' : Nat) p, b' ≠ b → ids[b']? = some p → ids'[b']? = some p) :
  ∀ (d : Nat) (x : A) (v : Value), Rel ids im w x v → Rel ids' im' w' (scr b d x) v
 | 0, x, v, _ => .imm (.junk _)
 | d + 1, x, v, h => by
  have keep : ∀ y, RelI im w y v → Rel ids' im' w' y v := fun y hy => .imm (hy.mono hi hw)
  cases x with
  | ref b' o =>
   simp only [scr]
   split
   ·exact .imm (.junk _)
   ·rename_i hb
    rcases h.ref_inv with ⟨p, h1, rfl⟩ | ⟨h1, x, y, rfl⟩
    rotate_left
    ·exact .refS _ _ x y (hd b' _ (fun e => by subst e; simp at hb) h1)
    exact .ref _ _ p (hd b' _ (fun e => by subst e; simp at hb) h1)
  | oref b' i o =>
   simp only [scr]
   split
   ·exact .imm (.junk _)
   ·rename_i hb
    rcases h.oref_inv with ⟨p, h1, rfl⟩ | ⟨h1, x, y, rfl⟩
    rotate_left
    ·exact .orefS _ _ _ x y (hd b' _ (fun e => by subst e; simp at hb) h1)
    exact .oref _ _ _ p (hd b' _ (fun e => by subst e; simp at hb) h1)
  | own b' =>
   simp only [scr]
   split
   ·exact .imm (.junk _)
   ·rename_i hb
    have hne : b' ≠ b := fun e => by subst e; simp at hb
    rcases h.own_inv with ⟨h1, rfl⟩ | ⟨p, cap, h1, h2, h3, rfl⟩ | ⟨h1, x, n, cap, rfl⟩
    ·exact .own0 _ (hd b' _ hne h1)
    ·exact .own _ cap p (hd b' _ hne h1) h2 h3
    ·exact .ownS _ x n cap (hd b' _ hne h1)
  | omap b' =>
   simp only [scr]
   split
   ·exact .imm (.junk _)
   ·rename_i hb
    rcases h.omap_inv with ⟨p, h1, rfl⟩ | ⟨h1, x, rfl⟩
    rotate_left
    ·exact .omapS _ x (hd b' _ (fun e => by subst e; simp at hb) h1)
    exact .omap _ p (hd b' _ (fun e => by subst e; simp at hb) h1)
  | agg cs =>
   obtain ⟨vs, rfl, hl, ho, hr⟩ := h.agg_inv
   exact .agg _ vs (by simpa using hl) ho (fun j h h' => by rw [List.getElem_map]; exact scr_rel hi hw hd d _ _ (hr j (by simpa using h) h'))
  | tup cs =>
   obtain ⟨vs, rfl, hl, hr⟩ := h.tup_inv
   exact .tup _ vs (by simpa using hl) (fun j h h' => by rw [List.getElem_map]; exact scr_rel hi hw hd d _ _ (hr j (by simpa using h) h'))
  | fn f cs =>
   obtain ⟨vs, rfl, hl, hr⟩ := h.fn_inv
   exact .fn f _ vs (by simpa using hl) (fun j h h' => by rw [List.getElem_map]; exact scr_rel hi hw hd d _ _ (hr j (by simpa using h) h'))
  | int k n => cases h with | imm h => exact keep _ h
  | bool k => cases h with | imm h => exact keep _ h
  | sb k => cases h with | imm h => exact keep _ h
  | str k => cases h with | imm h => exact keep _ h
  | nilp => cases h with | imm h => exact keep _ h
  | bref cs off => cases h with | imm h => exact keep _ h
  | nils => cases h with | imm h => exact keep _ h
  | sl n sz row => cases h with | imm h => exact keep _ h
  | nilfn => cases h with | imm h => exact keep _ h
  | nilm => cases h with | imm h => exact keep _ h
  | mv g n k v => cases h with | imm h => exact keep _ h
  | junk => exact .imm (.junk _)
  | ent => exact .imm (.junk _)
  | osl => exact .imm (.junk _)

/-- Block b becomes another one: written in place, or moved to a new block. -/
theorem Sim.rebind (hs : Sim c s m a w ids) (b : Nat) (q : IdE) (x : Blk) (d : Nat) (hb : b < m.length)
  (hos : w'.os = w.os) (htp : w'.tape = w.tape) (hou : w'.output = w.output) (hsz : w.heap.size ≤ w'.heap.size)
  (hbl : ∀ k, k < w.heap.size → (∀ p, ids[b]? = some (.lv p) → ¬ p.has k) → w'.heap[k]? = w.heap[k]?)
  (hqg : ∀ vs, q ≠ .gho vs)
  (hq : ∀ p', q = .lv p' → ∀ x, p'.has x → x < w'.heap.size ∧ (w.heap.size ≤ x ∨ ∃ p, ids[b]? = some (.lv p) ∧ p.has x))
  (hx : (∀ u v, RelI (imOf c ids w) w u v → RelI (imOf c (ids.set b q) w') w' u v) → BRel (ids.set b q) (imOf c (ids.set b q) w') w' x q) (hdr : drLe w.drawn w'.drawn := by exact drLe.refl _) :
  Sim c (s.map (scr b d)) ((m.map (scrB b d)).set b x) a w' (ids.set b q) := by
 have hbi : b < ids.length := by rw [hs.mlen]; exact hb
 have hmem : ∀ p', IdE.lv p' ∈ ids.set b q → IdE.lv p' ∈ ids ∨ q = .lv p' := by
  intro p' h
  rcases List.mem_or_eq_of_mem_set h with h | h
  ·exact .inl h
  ·exact .inr h.symm
 have hi : ∀ k, imOf c ids w k → imOf c (ids.set b q) w' k := by
  intro k h
  rcases h with h | ⟨h1, h2, h3⟩
  ·exact .inl h
  ·refine .inr ⟨h1, Nat.lt_of_lt_of_le h2 hsz, fun p hp => ?_⟩
   rcases hmem p hp with hp | hp
   ·exact h3 p hp
   ·intro hx
    rcases (hq p hp k hx).2 with h | ⟨p0, h4, h5⟩
    ·omega
    ·exact h3 p0 (List.mem_of_getElem? h4) h5
 have hh : ∀ k, imOf c ids w k → w'.heap[k]? = w.heap[k]? := by
  intro k h
  refine hbl k (imOf_lt hs h) (fun p hp e => ?_)
  rcases h with h | ⟨_, _, h3⟩
  ·exact hs.im0new h (hs.freshX p (List.mem_of_getElem? hp) k e).1
  ·exact h3 p (List.mem_of_getElem? hp) e
 have hd : ∀ (b' : Nat) p, b' ≠ b → ids[b']? = some p → (ids.set b q)[b']? = some p := by
  intro b' p hne h
  rw [List.getElem?_set_ne (fun e => hne e.symm)]; exact h
 refine ⟨hs.defers, by simp [hs.len], ?_, by simp [hs.mlen], ?_, ?_, ?_, ?_, hs.im0lt, ?_⟩
 ·intro i h h'
  rw [List.getElem_map]
  exact scr_rel hi hh hd d _ _ (hs.slots i (by simpa using h) h')
 ·intro i h h'
  rw [List.getElem_set, List.getElem_set]
  split
  ·rename_i he; subst he
   exact hx (fun u v h => h.mono hi hh)
  ·rename_i he
   have h1 : i < m.length := by simpa using h
   have h2 : i < ids.length := by simpa using h'
   have hB := hs.blks i h1 h2
   rw [List.getElem_map]
   have hkX : ∀ p, ids[i] = .lv p → ∀ k, p.has k → w'.heap[k]? = w.heap[k]? := by
    intro p hp k hk
    have hpi : ids[i]? = some (.lv p) := by rw [List.getElem?_eq_getElem h2, hp]
    refine hbl _ (hs.freshX p (List.mem_of_getElem? hpi) k hk).2 (fun p0 hp0 e => ?_)
    exact he (hs.distinctX b i p0 p k hp0 hpi e hk)
   have hk : ∀ p, ids[i] = .lv p → w'.heap[p.blk]? = w.heap[p.blk]? := fun p hp => hkX p hp _ (.inl rfl)
   cases hm : m[i] with
   | dead => rw [hm] at hB; exact hB
   | gone => rw [hm] at hB; exact hB
   | box ty cs =>
    rw [hm] at hB
    cases hp : ids[i] with
    | dead => rw [hp] at hB; exact hB.elim
    | stale => rw [hp] at hB; exact hB.elim
    | virt => rw [hp] at hB; exact hB.elim
    | gho vs => rw [hp] at hB; exact hB.elim
    | lv p =>
     rw [hp] at hB
     obtain ⟨vs, g1, g2, g3, g4⟩ := hB
     refine ⟨vs, by rw [hk p hp]; exact g1, g2, by simpa using g3, ?_⟩
     intro j hj hj'
     have := g4 j (by simpa using hj) hj'
     rw [List.getElem_map]
     exact ⟨scr_rel hi hh hd d _ _ this.1, this.2⟩
   | row ty sz n row =>
    rw [hm] at hB
    cases hp : ids[i] with
    | dead => rw [hp] at hB; exact hB.elim
    | stale => rw [hp] at hB; exact hB.elim
    | virt => rw [hp] at hB; exact hB
    | gho vs => rw [hp] at hB; exact hB.elim
    | lv p =>
     rw [hp] at hB
     obtain ⟨e1, e2, vs, g1, g2, g3, g4, g5⟩ := hB
     exact ⟨e1, e2, vs, by rw [hk p hp]; exact g1, g2, g3, g4, fun i' j hi' h h' => ⟨(g5 i' j hi' h h').1.mono hi hh, (g5 i' j hi' h h').2⟩⟩
   | nest ty ety sz n hole len row =>
    rw [hm] at hB
    cases hp : ids[i] with
    | dead => rw [hp] at hB; exact hB.elim
    | stale => rw [hp] at hB; exact hB.elim
    | virt => rw [hp] at hB; exact hB
    | gho vs => rw [hp] at hB; exact hB.elim
    | lv p =>
     rw [hp] at hB
     obtain ⟨e1, e2, e3, vs, g1, g2, g3, kb, g5⟩ := hB
     refine ⟨e1, e2, e3, vs, by rw [hk p hp]; exact g1, g2, g3, kb, fun i' hi' hh' h => ?_⟩
     obtain ⟨k1, k2, k3⟩ := g5 i' hi' hh' h
     exact ⟨k1.mono hi hh (fun x hx => hkX p hp _ (.inr (k2 x hx))), k2, k3⟩
   | mapb g n key val =>
    rw [hm] at hB
    cases hp : ids[i] with
    | dead => rw [hp] at hB; exact hB.elim
    | stale => rw [hp] at hB; exact hB.elim
    | virt => rw [hp] at hB; exact hB.elim
    | gho vs => rw [hp] at hB; exact hB.elim
    | lv p =>
     rw [hp] at hB
     obtain ⟨es, clock, f, h1, h2, h3, h4, h5, h6⟩ := hB
     exact ⟨es, clock, f, by rw [hk p hp]; exact h1, h2, h3, h4, fun i h => (h5 i h).mono hi hh, h6⟩
   | mapx g n key val =>
    rw [hm] at hB
    cases hp : ids[i] with
    | dead => rw [hp] at hB; exact hB.elim
    | stale => rw [hp] at hB; exact hB.elim
    | virt => rw [hp] at hB; exact hB.elim
    | gho vs => rw [hp] at hB; exact hB.elim
    | lv p =>
     rw [hp] at hB
     obtain ⟨es, clock, f, h1, h2, h3, h4, h5, h6⟩ := hB
     exact ⟨es, clock, f, by rw [hk p hp]; exact h1, h2, h3, h4, fun i h => (h5 i h).mono hi hh, h6⟩
   | mit g n key val se =>
    rw [hm] at hB
    cases hp : ids[i] with
    | dead => rw [hp] at hB; exact hB.elim
    | stale => rw [hp] at hB; exact hB.elim
    | virt => rw [hp] at hB; exact hB.elim
    | gho vs => rw [hp] at hB; exact hB.elim
    | lv p =>
     rw [hp] at hB
     obtain ⟨r, es, clock, f, sb, h1, h2, h3, h4, h5, h6, h7, h8⟩ := hB
     exact ⟨r, es, clock, f, sb, by rw [hk p hp]; exact h1, hi _ h2, by rw [hh _ h2]; exact h3, h4, h5, h6, fun i h => (h7 i h).mono hi hh, h8⟩
   | mgrid ty g sh c hi2 cs ini has val =>
    rw [hm] at hB
    cases hp : ids[i] with
    | dead => rw [hp] at hB; exact hB.elim
    | stale => rw [hp] at hB; exact hB.elim
    | virt => rw [hp] at hB; exact hB
    | gho vs => rw [hp] at hB; exact hB.elim
    | lv p =>
     rw [hp] at hB
     exact grid_map (scr b d) (hkX p hp) (fun _ _ h => h.mono hi hh) (fun x v h => scr_rel hi hh hd d x v h) hB
   | rowE ty sz n Φ =>
    rw [hm] at hB
    cases hp : ids[i] with
    | dead => rw [hp] at hB; exact hB.elim
    | stale => rw [hp] at hB; exact hB.elim
    | virt => rw [hp] at hB; exact hB
    | gho vs => rw [hp] at hB; exact hB.elim
    | lv p =>
     rw [hp] at hB
     obtain ⟨row, h0, e1, e2, vs, g1, g2, g3, g4, g5⟩ := hB
     exact ⟨row, h0, e1, e2, vs, by rw [hk p hp]; exact g1, g2, g3, g4, fun i' j hi' h h' => ⟨(g5 i' j hi' h h').1.mono hi hh, (g5 i' j hi' h h').2⟩⟩
   | ghost cs =>
    rw [hm] at hB
    cases hp : ids[i] with
    | dead => rw [hp] at hB; exact hB.elim
    | stale => rw [hp] at hB; exact hB.elim
    | virt => rw [hp] at hB; exact hB.elim
    | lv p => rw [hp] at hB; exact hB.elim
    | gho vs =>
     rw [hp] at hB
     refine ⟨by simpa using hB.1, fun j hj hj' => ?_⟩
     rw [List.getElem_map]
     exact scr_rel hi hh hd d _ _ (hB.2 j (by simpa using hj) hj')
 ·intro i j p p2 x h1 h2 h3 h3'
  by_cases hib : i = b <;> by_cases hjb : j = b
  ·rw [hib, hjb]
  ·subst hib
   rw [List.getElem?_set_self hbi] at h1
   rw [List.getElem?_set_ne (fun e => hjb e.symm)] at h2
   have hqp := Option.some.inj h1
   have f2 := hs.freshX p2 (List.mem_of_getElem? h2) x h3'
   rcases (hq p hqp x h3).2 with h | ⟨p0, h4, h5⟩
   ·omega
   ·exact hs.distinctX i j p0 p2 x h4 h2 h5 h3'
  ·subst hjb
   rw [List.getElem?_set_self hbi] at h2
   rw [List.getElem?_set_ne (fun e => hib e.symm)] at h1
   have hqp := Option.some.inj h2
   have f2 := hs.freshX p (List.mem_of_getElem? h1) x h3
   rcases (hq p2 hqp x h3').2 with h | ⟨p0, h4, h5⟩
   ·omega
   ·exact hs.distinctX i j p p0 x h1 h4 h3 h5
  ·rw [List.getElem?_set_ne (fun e => hib e.symm)] at h1
   rw [List.getElem?_set_ne (fun e => hjb e.symm)] at h2
   exact hs.distinctX i j p p2 x h1 h2 h3 h3'
 ·intro p hp x hx
  rcases hmem p hp with hp | hp
  ·have := hs.freshX p hp x hx
   exact ⟨this.1, Nat.lt_of_lt_of_le this.2 hsz⟩
  ·refine ⟨?_, (hq p hp x hx).1⟩
   rcases (hq p hp x hx).2 with h | ⟨p0, h4, h5⟩
   ·exact .inl (Nat.le_trans hs.frame.size h)
   ·exact (hs.freshX p0 (List.mem_of_getElem? h4) x h5).1
 ·refine hs.frame.go hos htp hou hsz (fun k hk hm => ?_) hdr
  refine hbl k (Nat.lt_of_lt_of_le hk hs.frame.size) (fun p hp e => ?_)
  rcases (hs.freshX p (List.mem_of_getElem? hp) k e).1 with h | h
  ·omega
  ·exact hm h
 ·intro vs h
  rcases List.mem_or_eq_of_mem_set h with h | h
  ·exact hs.gho vs h
  ·exact absurd h.symm (hqg vs)
end
end Go.Proofs.YtnkbkfjgbejhfaaGreat.Am
namespace Go.Proofs.YtnkbkfjgbejhfaaGreat.Am
variable [Inhabited DRT]
open Go.RowKit (Below)

section
variable {P : Program}
theorem append_none {w : World} (t ty e : TypeId) (i : TypeInfo) (ht : P.underlying t = some (.slice e)) (hi : P.info? e = some i) (ad : Option Addr) (n cap : Nat) (hn : n ≤ cap) :
  (Builtin.append_ #[t, t] ty #[.slice ad n cap, .slice none 0 0]).run P w = .ok (.slice ad n cap) w := by
 cases ad <;> simp [Builtin.append_, run_underlying ht, sizeOf, typeInfo, hi, Builtin.lenOf, Builtin.firstCells, hn, storeCells]
theorem append_zero {w : World} (t ty e : TypeId) (i : TypeInfo) (ht : P.underlying t = some (.slice e)) (hi : P.info? e = some i) (a : Addr) (c : Nat) :
  (Builtin.append_ #[t, t] ty #[.slice none 0 0, .slice (some a) 0 c]).run P w = .ok (.slice none 0 0) w := by
 simp [Builtin.append_, run_underlying ht, sizeOf, typeInfo, hi, Builtin.lenOf, Builtin.firstCells, loadCells, loadCellsFrom]

/-- What an append leaves: nothing new; or a block of cells that begin with the old ones and the new ones: the old block, or a new one. -/
def AppOut (w : World) (v : Value) (e : TypeId) (size n m : Nat) (xs news : List Value) (v' : Value) (w' : World) : Prop :=
 w'.os = w.os ∧ w'.tape = w.tape ∧ w'.output = w.output ∧ w.heap.size ≤ w'.heap.size ∧ (∀ k, k < w.heap.size → v.ownBlock ≠ some k → w'.heap[k]? = w.heap[k]?) ∧ drLe w.drawn w'.drawn ∧
 ((v' = .slice none 0 0 ∧ n + m = 0) ∨
  ∃ g cap cur, v' = .slice (some ⟨g, 0, none⟩) (n + m) cap ∧ w'.heap[g]? = some (.cells cur e (0, 0)) ∧ n + m ≤ cap ∧ cap ≤ maxLen ∧ cur.size = cap * size ∧ cur.toList.take ((n + m) * size) = xs ++ news ∧
   g < w'.heap.size ∧ (w.heap.size ≤ g ∨ v.ownBlock = some g))

theorem append_out {w : World} (t ty e : TypeId) (i : TypeInfo) (z : Value) (ht : P.underlying t = some (.slice e)) (hi : P.info? e = some i) (hz : i.zero = some z) (hzs : z.cells.size = i.size)
  (v : Value) (n : Nat) (xs : List Value) (hv : (v = .slice none 0 0 ∧ n = 0 ∧ xs = []) ∨ ∃ g cap cur, v = .slice (some ⟨g, 0, none⟩) n cap ∧ w.heap[g]? = some (.cells cur e (0, 0)) ∧ n ≤ cap ∧ cap ≤ maxLen ∧ cur.size = cap * i.size ∧ cur.toList.take (n * i.size) = xs)
  (y : Value) (m : Nat) (news : List Value) (hy : (y = .slice none 0 0 ∧ m = 0 ∧ news = []) ∨ ∃ a c, y = .slice (some a) m c ∧ news.length = m * i.size ∧ (∀ j u, news[j]? = some u → w.cell? (a.add j) = some u)) (h1 : ∀ u ∈ news, u.oneCell' = true)
  (h63 : n + m ≤ 140737488355328) (hbytes : (n + m) * i.bytes ≤ 140737488355328) :
  ∃ v' w', (Builtin.append_ #[t, t] ty #[v, y]).run P w = .ok v' w' ∧ AppOut w v e i.size n m xs news v' w' := by
 have h63' : n + m ≤ maxLen := by simp only [maxLen]; omega
 have newb : ∀ (old : Nat) (v : Value), xs.length = n * i.size → news.length = m * i.size → AppOut w v e i.size n m xs news (.slice (some ⟨w.heap.size, 0, none⟩) (n + m) (grownCap w (n + m) old e))
   (w.drew.alloc (.cells (xs.toArray ++ news.toArray ++ Builtin.zeroCells z.cells (grownCap w (n + m) old e - (n + m))) e)) := by
  intro old v hx hnw
  have hge := grownCap_ge w (n + m) old e
  have hlen : (xs ++ news).length = (n + m) * i.size := by rw [List.length_append, hx, hnw, Nat.add_mul]
  refine ⟨rfl, rfl, rfl, by simp, fun k hk _ => Below.heap_alloc w.drew _ k hk, drLe.succ _, .inr ⟨w.heap.size, _, _, rfl, heap_alloc_new w.drew _, hge, grownCap_le_maxLen w (n + m) old e h63', ?_, ?_, by simp, .inl (Nat.le_refl _)⟩⟩
  ·simp only [Array.size_append, List.size_toArray, size_zeroCells, hzs, hx, hnw, ← Nat.add_mul]
   congr 1; omega
  ·simp only [Array.toList_append, List.append_assoc]
   rw [← List.append_assoc, ← hlen]
   exact List.take_left
 rcases hv with ⟨rfl, rfl, rfl⟩ | ⟨g, cap, cur, rfl, hg, hnc, hcm, hcs, htake⟩
 ·rcases hy with ⟨rfl, rfl, rfl⟩ | ⟨a, c, rfl, hl, hnews⟩
  ·exact ⟨_, _, append_none t ty e i ht hi none 0 0 (Nat.le_refl _), rfl, rfl, rfl, Nat.le_refl _, fun _ _ _ => rfl, drLe.refl _, .inl ⟨rfl, rfl⟩⟩
  ·by_cases hm : m = 0
   ·subst hm
    exact ⟨_, _, append_zero t ty e i ht hi a c, rfl, rfl, rfl, Nat.le_refl _, fun _ _ _ => rfl, drLe.refl _, .inl ⟨rfl, rfl⟩⟩
   ·have hr := run_append_nil (P := P) w t ty e i z ht hi hz a m c news hl hnews (by omega) (by omega) (by have hb := hbytes; simp only [Nat.zero_add] at hb; omega)
    have := newb 0 (.slice none 0 0) (by simp) hl
    simp only [Nat.zero_add, Array.empty_append] at this hr ⊢
    exact ⟨_, _, hr, this⟩
 ·have hxl : xs.length = n * i.size := by
   rw [← htake, List.length_take, Array.length_toList, hcs]
   exact Nat.min_eq_left (Nat.mul_le_mul_right _ hnc)
  have holds : ∀ j u, xs[j]? = some u → w.cell? ((⟨g, 0, none⟩ : Addr).add j) = some u := by
   intro j u hu
   have hadd : (⟨g, 0, none⟩ : Addr).add j = ⟨g, j, none⟩ := by unfold Addr.add; split <;> simp_all
   rw [hadd, cell_of_row w g j cur e (0, 0) hg]
   rw [← htake, List.getElem?_take] at hu
   split at hu
   ·simpa using hu
   ·cases hu
  rcases hy with ⟨rfl, rfl, rfl⟩ | ⟨a, c, rfl, hl, hnews⟩
  ·refine ⟨_, _, append_none t ty e i ht hi _ n cap hnc, rfl, rfl, rfl, Nat.le_refl _, fun _ _ _ => rfl, drLe.refl _, .inr ⟨g, cap, cur, rfl, hg, hnc, hcm, hcs, by simpa using htake, (Array.getElem?_eq_some_iff.1 hg).1, .inr rfl⟩⟩
  ·by_cases hroom : n + m ≤ cap
   ·have hfit : n * i.size + news.length ≤ cur.size := by rw [hl, hcs, ← Nat.add_mul]; exact Nat.mul_le_mul_right _ hroom
    have hr := run_append_room (P := P) w t ty e i ht hi g n cap cur hg a m c news hl hnews h1 hroom hfit
    refine ⟨_, _, hr, rfl, rfl, rfl, by simp, fun k _ hk => setRow_other w g k _ (fun e => hk (by simp [Value.ownBlock, e])), drLe.refl _, .inr ⟨g, cap, _, rfl, setRow_heap w g cur _ e _ hg, hroom, hcm, ?_, ?_, ?_, .inr rfl⟩⟩
    ·simp only [List.size_toArray, List.length_append, List.length_take, List.length_drop, Array.length_toList]
     omega
    ·have hlen : (xs ++ news).length = (n + m) * i.size := by rw [List.length_append, hxl, hl, Nat.add_mul]
     rw [htake, ← hlen]
     exact List.take_left
    ·have := (Array.getElem?_eq_some_iff.1 hg).1
     simpa [World.setRow] using this
   ·have hr := run_append_grow (P := P) w t ty e i z ht hi hz ⟨g, 0, none⟩ n cap xs hxl holds a m c news hl hnews (by omega) (by omega) (growslice_fits (by omega) hbytes)
    exact ⟨_, _, hr, newb cap _ hxl hl⟩
end
end Go.Proofs.YtnkbkfjgbejhfaaGreat.Am
namespace Go.Proofs.YtnkbkfjgbejhfaaGreat.Am
variable [Inhabited DRT]
open Go.RowKit (Below)

/-- The rows of what is appended. -/
def vrow (m : List Blk) (esz : Nat) (y : A) : Option (Nat × (Nat → List A)) :=
 match y with
 | .own b => match m.getD b .dead with
  | .row _ sz n row => match Nat.beq sz esz with
   | true => some (n, row)
   | false => none
  | _ => none
 | .sl n sz row => match Nat.beq sz esz with
  | true => some (n, row)
  | false => none
 | .nils => some (0, fun _ => [])
 | .osl b k => match m.getD b .dead with
  | .row _ sz n row => match Nat.beq sz esz with
   | true => some (n - k, fun i => row (k + i))
   | false => none
  | _ => none
 | _ => none
def rowCat (n : Nat) (r1 r2 : Nat → List A) : Nat → List A := fun i => match Nat.blt i n with
 | true => r1 i
 | false => r2 (i - n)
def fbs : List Blk → (List Blk → Prop) → Prop
 | [], K => K []
 | x :: xs, K => match x with
  | .box ty cs => fd.fdl 3 cs fun cs' => fbs xs fun ys => K (.box ty cs' :: ys)
  | .row ty sz n r => fbs xs fun ys => K (.row ty sz n r :: ys)
  | .nest ty ety sz n ho le r => fbs xs fun ys => K (.nest ty ety sz n ho le r :: ys)
  | .mapb g n k v => fbs xs fun ys => K (.mapb g n k v :: ys)
  | .mapx g n k v => fbs xs fun ys => K (.mapx g n k v :: ys)
  | .mit g n k v se => fbs xs fun ys => K (.mit g n k v se :: ys)
  | .mgrid ty g sh n hi cs ini has val => fd.fdl 3 cs fun cs' => fbs xs fun ys => K (.mgrid ty g sh n hi cs' ini has val :: ys)
  | .rowE ty sz n Φ => fbs xs fun ys => K (.rowE ty sz n Φ :: ys)
  | .ghost cs => fd.fdl 3 cs fun cs' => fbs xs fun ys => K (.ghost cs' :: ys)
  | .gone => fbs xs fun ys => K (.gone :: ys)
  | .dead => fbs xs fun ys => K (.dead :: ys)
theorem fbs_eq : ∀ (l : List Blk) (K : List Blk → Prop), fbs l K = K l
 | [], K => rfl
 | x :: xs, K => by cases x <;> simp only [fbs, fdl_eq, fbs_eq xs]
def sApp (tt : TT) (t : TypeId) (x y : A) (s : List A) (m : List Blk) (K : List A → A → List Blk → Prop) : Prop :=
 match tt.lookup t with
 | none => False
 | some ti => match ti.kind, vrow m ti.esz y with
  | 3, some (n2, row2) => match x with
   | .own b => match m.getD b .dead with
    | .row ty sz n row => match Nat.beq sz ti.esz, Nat.beq ty ti.ety with
     | true, true => fnat ti.ebytes fun eb => (n + n2 ≤ 140737488355328 ∧ (n + n2) * eb ≤ 140737488355328) ∧
      fd.fdl 4 (s.map (scr b 4)) fun s' => fbs ((m.map (scrB b 4)).set b (.row ty sz (n + n2) (rowCat n row row2))) fun m' => K s' (.own b) m'
     | _, _ => False
    | _ => False
   | .nils => fnat ti.ebytes fun eb => fnat ti.ety fun ety => fnat ti.esz fun esz => (n2 ≤ 140737488355328 ∧ n2 * eb ≤ 140737488355328) ∧ pushB m (.row ety esz n2 row2) fun b m' => K s (.own b) m'
   | _ => False
  | _, _ => False

section
variable {c : Ctx} {s : List A} {m : List Blk} {a : Act} {w w' : World} {ids ids' : Ids} {P : Program} {im im' : Nat → Prop} {tt : TT} {G : GInv}
variable {next : Act → World → Prop} {Q : Exit → Act → World → Prop} {o : Oper}

theorem getD_row {b : Nat} {ty : TypeId} {sz n : Nat} {row : Nat → List A} (h : m.getD b .dead = .row ty sz n row) : ∃ hb : b < m.length, m[b] = .row ty sz n row := by
 rcases Nat.lt_or_ge b m.length with hb | hb
 ·exact ⟨hb, by rw [List.getD_eq_getElem?_getD, List.getElem?_eq_getElem hb] at h; simpa using h⟩
 ·rw [List.getD_eq_getElem?_getD, List.getElem?_eq_none hb] at h; cases h

/-- Values that stand for rows. -/
def RowsV (im : Nat → Prop) (w : World) (n sz : Nat) (row : Nat → List A) (vs : List Value) : Prop :=
 vs.length = n * sz ∧ (∀ u ∈ vs, oneV u) ∧ (∀ i, i < n → (row i).length = sz) ∧ ∀ i j, i < n → ∀ (h : j < (row i).length) (h' : i * sz + j < vs.length), RelI im w (row i)[j] vs[i * sz + j]

theorem RowsV.nil (im : Nat → Prop) (w : World) (sz : Nat) (row : Nat → List A) : RowsV im w 0 sz row [] :=
 ⟨by simp, by simp, fun i h => by omega, fun i j h => by omega⟩

theorem RowsV.cat {n n2 sz : Nat} {r1 r2 : Nat → List A} {xs ys : List Value} (h1 : RowsV im w n sz r1 xs) (h2 : RowsV im w n2 sz r2 ys) : RowsV im w (n + n2) sz (rowCat n r1 r2) (xs ++ ys) := by
 obtain ⟨a1, a2, a3, a4⟩ := h1
 obtain ⟨b1, b2, b3, b4⟩ := h2
 have rc : ∀ i, i < n → rowCat n r1 r2 i = r1 i := fun i hi => by simp only [rowCat]; rw [show Nat.blt i n = true from Nat.ble_eq_true_of_le hi]
 have rc2 : ∀ i, ¬ i < n → rowCat n r1 r2 i = r2 (i - n) := fun i hi => by
  simp only [rowCat]
  have : Nat.blt i n = false := by
   cases h : Nat.blt i n with
   | false => rfl
   | true => exact absurd (Nat.le_of_ble_eq_true h) hi
  rw [this]
 refine ⟨by rw [List.length_append, a1, b1, Nat.add_mul], ?_, ?_, ?_⟩
 ·intro u hu
  rcases List.mem_append.1 hu with h | h
  ·exact a2 u h
  ·exact b2 u h
 ·intro i hi
  by_cases h : i < n
  ·rw [rc i h]; exact a3 i h
  ·rw [rc2 i h]; exact b3 _ (by omega)
 ·intro i j hi h h'
  by_cases hin : i < n
  ·have e := rc i hin
   have hl := a3 i hin
   have hj : j < (r1 i).length := by rw [e] at h; exact h
   have hlt : i * sz + j < n * sz := by
    have := Nat.mul_le_mul_right sz (show i + 1 ≤ n from hin)
    rw [Nat.add_mul] at this; omega
   rw [List.getElem_append_left (by omega)]
   have := a4 i j hin hj (by omega)
   simpa only [e] using this
  ·have e := rc2 i hin
   have hl := b3 (i - n) (by omega)
   have hj : j < (r2 (i - n)).length := by rw [e] at h; exact h
   have hge : n * sz ≤ i * sz + j := Nat.le_trans (Nat.mul_le_mul_right sz (by omega)) (Nat.le_add_right _ _)
   rw [List.getElem_append_right (by omega)]
   have e2 : i * sz + j - xs.length = (i - n) * sz + j := by
    rw [a1, Nat.sub_mul]
    have := Nat.mul_le_mul_right sz (show n ≤ i by omega)
    omega
   have := b4 (i - n) j (by omega) hj (by rw [← e2]; rw [List.length_append] at h'; omega)
   simpa only [e, e2] using this

theorem add_at (g o j : Nat) : (⟨g, o, none⟩ : Addr).add j = ⟨g, o + j, none⟩ := by unfold Addr.add; split <;> simp_all

theorem divmod {i j sz n k : Nat} (hk : k < n * sz) (hi : i = k / sz) (hj : j = k % sz) : i < n ∧ j < sz ∧ i * sz + j = k := by
 have hs : 0 < sz := by
  rcases Nat.eq_zero_or_pos sz with h | h
  ·subst h; omega
  ·exact h
 subst hi; subst hj
 refine ⟨(Nat.div_lt_iff_lt_mul hs).2 hk, Nat.mod_lt _ hs, ?_⟩
 have := Nat.div_add_mod k sz
 rw [Nat.mul_comm] at this; exact this

theorem BRel.rowsV {ty : TypeId} {sz n : Nat} {row : Nat → List A} {p : Id} (h : BRel ids im w (.row ty sz n row) (.lv p)) :
  ∃ cur : Array Value, p.sz = sz ∧ p.n = n ∧ w.heap[p.blk]? = some (.cells cur ty (0, 0)) ∧ cur.size = p.k ∧ n * sz ≤ p.k ∧ RowsV im w n sz row (cur.toList.take (n * sz)) := by
 obtain ⟨e1, e2, vs, g1, g2, g3, g4, g5⟩ := h
 have hl : (vs.toList.take (n * sz)).length = n * sz := by simp; omega
 refine ⟨vs, e1, e2, g1, g2, g3, hl, ?_, g4, ?_⟩
 ·intro u hu
  obtain ⟨k, hk, rfl⟩ := List.getElem_of_mem hu
  rw [hl] at hk
  obtain ⟨q1, q2, q3⟩ := divmod hk rfl rfl
  have hlt : k < vs.size := by omega
  have := (g5 (k / sz) (k % sz) q1 (by rw [g4 _ q1]; exact q2) (by rw [q3]; exact hlt)).2
  simp only [List.getElem_take, Array.getElem_toList]
  simpa only [q3] using this
 ·intro i j hi h h'
  rw [hl] at h'
  have := (g5 i j hi h (by omega)).1
  simpa using this

theorem RowsV.tail {im : Nat → Prop} {w : World} {n sz : Nat} {row : Nat → List A} {vs : List Value} (h : RowsV im w n sz row vs) (k : Nat) : RowsV im w (n - k) sz (fun i => row (k + i)) (vs.drop (k * sz)) := by
 obtain ⟨h1, h2, h3, h4⟩ := h
 refine ⟨by rw [List.length_drop, h1, Nat.sub_mul], fun u hu => h2 u (List.mem_of_mem_drop hu), fun i hi => h3 _ (by omega), fun i j hi hj h' => ?_⟩
 have := h4 (k + i) j (by omega) hj (by rw [List.length_drop] at h'; rw [Nat.add_mul]; omega)
 rw [List.getElem_drop]
 have e : (k + i) * sz + j = k * sz + (i * sz + j) := by rw [Nat.add_mul]; omega
 simpa only [e] using this
theorem vrow_sound (hs : Sim c s m a w ids) {esz n : Nat} {row : Nat → List A} {y : A} {v : Value} (h : vrow m esz y = some (n, row)) (hy : Rel ids (imOf c ids w) w y v) :
  ∃ news, RowsV (imOf c ids w) w n esz row news ∧ ((v = .slice none 0 0 ∧ n = 0 ∧ news = []) ∨ ∃ ad cp, v = .slice (some ad) n cp ∧ (∀ j u, news[j]? = some u → w.cell? (ad.add j) = some u)) := by
 unfold vrow at h
 split at h
 ·rename_i b
  split at h
  ·rename_i ty sz n' row' hb
   split at h
   ·rename_i he
    have he := Nat.eq_of_beq_eq_true he
    cases h
    subst he
    obtain ⟨hlt, hm⟩ := getD_row hb
    have hbi : b < ids.length := by rw [hs.mlen]; exact hlt
    have hB := hs.blks b hlt hbi
    rw [hm] at hB
    rcases hs.own_at hy (by rw [hb]; simp) with ⟨h1, rfl⟩ | ⟨p, cap, h1, h2, h3, rfl⟩
    ·have : ids[b] = .virt := by rw [List.getElem?_eq_getElem hbi] at h1; exact Option.some.inj h1
     rw [this] at hB
     have hB : n = 0 := hB
     subst hB
     exact ⟨[], RowsV.nil _ _ _ _, .inl ⟨rfl, rfl, rfl⟩⟩
    ·have : ids[b] = .lv p := by rw [List.getElem?_eq_getElem hbi] at h1; exact Option.some.inj h1
     rw [this] at hB
     obtain ⟨cur, e1, e2, g1, g2, g3, hR⟩ := hB.rowsV
     refine ⟨_, hR, .inr ⟨_, cap, by rw [e2], fun j u hu => ?_⟩⟩
     rw [add_at, Nat.zero_add, cell_of_row w p.blk j cur ty (0, 0) g1]
     rw [List.getElem?_take] at hu
     split at hu
     ·simpa using hu
     ·cases hu
   ·cases h
  ·cases h
 ·rename_i n' sz row'
  split at h
  ·rename_i he
   have he := Nat.eq_of_beq_eq_true he
   cases h
   subst he
   cases hy with
   | imm hy =>
    cases hy with
    | sl0 => exact ⟨[], RowsV.nil _ _ _ _, .inl ⟨rfl, rfl, rfl⟩⟩
    | sle _ _ ad cap => exact ⟨[], RowsV.nil _ _ _ _, .inr ⟨ad, cap, rfl, fun j u hu => by simp at hu⟩⟩
    | sl _ _ _ blk base cap vs hb hcap hl hc ho hr =>
     refine ⟨(List.range (n * sz)).map fun k => vs (k / sz) (k % sz), ⟨by simp, ?_, hl, ?_⟩, .inr ⟨_, cap, rfl, ?_⟩⟩
     ·intro u hu
      simp only [List.mem_map, List.mem_range] at hu
      obtain ⟨k, hk, rfl⟩ := hu
      obtain ⟨q1, q2, q3⟩ := divmod hk rfl rfl
      exact ho _ _ q1 q2
     ·intro i j hi hj h'
      have hjs : j < sz := by rw [← hl i hi]; exact hj
      have hs0 : 0 < sz := by omega
      have e1 : (i * sz + j) / sz = i := by rw [Nat.mul_comm, Nat.mul_add_div hs0, Nat.div_eq_of_lt hjs]; simp
      have e2 : (i * sz + j) % sz = j := by rw [Nat.mul_comm, Nat.mul_add_mod, Nat.mod_eq_of_lt hjs]
      simp only [List.getElem_map, List.getElem_range, e1, e2]
      exact hr i j hi hj
     ·intro k u hu
      rw [List.getElem?_map] at hu
      rcases Nat.lt_or_ge k (n * sz) with hk | hk
      ·rw [List.getElem?_eq_getElem (by simpa using hk)] at hu
       simp at hu
       obtain ⟨q1, q2, q3⟩ := divmod hk rfl rfl
       rw [add_at, ← hu, ← hc _ _ q1 q2, Nat.add_assoc, q3]
      ·rw [List.getElem?_eq_none (by simpa using hk)] at hu; cases hu
  ·cases h
 ·cases h
  exact ⟨[], RowsV.nil _ _ _ _, .inl ⟨hy.nils_inv, rfl, rfl⟩⟩
 ·rename_i b k
  split at h
  ·rename_i ty sz n' row' hb
   split at h
   ·rename_i he
    have he := Nat.eq_of_beq_eq_true he
    cases h
    subst he
    obtain ⟨hlt, hm⟩ := getD_row hb
    have hbi : b < ids.length := by rw [hs.mlen]; exact hlt
    have hB := hs.blks b hlt hbi
    rw [hm] at hB
    rcases hs.osl_at hy (by rw [hb]; simp) with ⟨h1, rfl⟩ | ⟨p, cap, x, h1, hx, rfl⟩
    ·have : ids[b] = .virt := by rw [List.getElem?_eq_getElem hbi] at h1; exact Option.some.inj h1
     rw [this] at hB
     have hB : n' = 0 := hB
     subst hB
     rw [Nat.zero_sub]
     exact ⟨[], RowsV.nil _ _ _ _, .inl ⟨rfl, rfl, rfl⟩⟩
    ·have : ids[b] = .lv p := by rw [List.getElem?_eq_getElem hbi] at h1; exact Option.some.inj h1
     rw [this] at hB
     obtain ⟨cur, e1, e2, g1, g2, g3, hR⟩ := hB.rowsV
     refine ⟨_, hR.tail k, .inr ⟨_, cap, by rw [e2], fun j u hu => ?_⟩⟩
     rw [List.getElem?_drop, List.getElem?_take] at hu
     split at hu
     ·rename_i hj
      have hkn : k < p.n := by
       rw [e2]
       rcases Nat.lt_or_ge k n' with hk | hk
       ·exact hk
       ·have := Nat.mul_le_mul_right sz hk
        omega
      rw [hx hkn, e1, add_at, cell_of_row w p.blk _ cur ty (0, 0) g1]
      simpa using hu
     ·cases hu
   ·cases h
  ·cases h
 ·cases h

theorem RowsV.mono {n sz : Nat} {row : Nat → List A} {vs : List Value} (h : RowsV im w n sz row vs) (hm : ∀ u v, RelI im w u v → RelI im' w' u v) : RowsV im' w' n sz row vs :=
 ⟨h.1, h.2.1, h.2.2.1, fun i j hi hj hj' => hm _ _ (h.2.2.2 i j hi hj hj')⟩

/-- A block whose first cells stand for rows. -/
theorem BRel.ofRowsV {ty : TypeId} {sz n cap : Nat} {row : Nat → List A} {g : Nat} {cur : Array Value} {vs : List Value} (hg : w.heap[g]? = some (.cells cur ty (0, 0))) (hcs : cur.size = cap * sz) (hn : n ≤ cap)
  (ht : cur.toList.take (n * sz) = vs) (hR : RowsV im w n sz row vs) : BRel ids im w (.row ty sz n row) (.lv (mkId g cur.size n sz)) := by
 have hle : n * sz ≤ cur.size := by rw [hcs]; exact Nat.mul_le_mul_right _ hn
 refine ⟨rfl, rfl, cur, hg, rfl, hle, hR.2.2.1, ?_⟩
 intro i j hi hj hj'
 have hlt : i * sz + j < n * sz := by
  have := Nat.mul_le_mul_right sz (show i + 1 ≤ n from hi)
  have := hR.2.2.1 i hi
  rw [Nat.add_mul] at *; omega
 have hvl := hR.1
 have e : vs[i * sz + j]'(by omega) = cur[i * sz + j] := by subst ht; simp
 refine ⟨by rw [← e]; exact hR.2.2.2 i j hi hj (by omega), ?_⟩
 rw [← e]; exact hR.2.1 _ (List.getElem_mem _)

theorem sApp_sound (htt : TTok P tt) (hs : Sim c s m a w ids) {t : TypeId} {X Y : Operand} (ho : o.op = .call { callee := .builtin .append, args := #[X, Y], argTypes := #[t, t] })
  {K : List A → A → List Blk → Prop} (h : sApp tt t (ev s X) (ev s Y) s m K)
  (hn : ∀ s1 v m' a' w' ids', K s1 v m' → Sim c (putD s1 o.dst v) m' a' w' ids' → next a' w') : o.wp P a w next Q := by
 have hx := hs.ev X
 have hy := hs.ev Y
 have e : (execOp a.eval o) = (do pure (.value (← Builtin.append_ #[t, t] o.type #[a.eval X, a.eval Y]))) := by
  obtain ⟨dst, op, ty, pos, after, guard⟩ := o
  simp only at ho; subst ho
  simp [execOp, resolve, invoke, builtin]
 unfold sApp at h
 split at h
 ·exact h.elim
 ·rename_i ti hti
  obtain ⟨i0, d, z0, _, hd, _, _, _, _, _, _, _, _, _, hk3, _⟩ := htt.facts hti
  split at h
  ·rename_i n2 row2 hk hv
   obtain ⟨ie, ze, hd', hie, hsz, hby, hz, hzs, hne⟩ := hk3 hk
   subst hd'
   obtain ⟨news, hR2, hyv⟩ := vrow_sound hs hv hy
   have hyv' : (a.eval Y = .slice none 0 0 ∧ n2 = 0 ∧ news = []) ∨ ∃ ad cp, a.eval Y = .slice (some ad) n2 cp ∧ news.length = n2 * ie.size ∧ (∀ j u, news[j]? = some u → w.cell? (ad.add j) = some u) := by
    rcases hyv with h | ⟨ad, cp, h1, h2⟩
    ·exact .inl h
    ·exact .inr ⟨ad, cp, h1, by rw [hsz]; exact hR2.1, h2⟩
   have hzs' : ze.cells.size = ie.size := by rw [hzs, hsz]
   split at h
   ·rename_i b hxv
    rw [hxv] at hx
    split at h
    ·rename_i ty sz n row hb
     split at h
     ·rename_i hb1 hb2
      have hb1 := Nat.eq_of_beq_eq_true hb1
      have hb2 := Nat.eq_of_beq_eq_true hb2
      subst hb1; subst hb2
      rw [fnat_eq] at h
      obtain ⟨⟨hc1, hc2⟩, h⟩ := h
      rw [fdl_eq, fbs_eq] at h
      obtain ⟨hlt, hm⟩ := getD_row hb
      have hbi : b < ids.length := by rw [hs.mlen]; exact hlt
      have hB := hs.blks b hlt hbi
      rw [hm] at hB
      have hxs : ∃ xs, RowsV (imOf c ids w) w n ti.esz row xs ∧ ((a.eval X = .slice none 0 0 ∧ n = 0 ∧ xs = []) ∨ ∃ g cap cur, a.eval X = .slice (some ⟨g, 0, none⟩) n cap ∧ w.heap[g]? = some (.cells cur ti.ety (0, 0)) ∧ n ≤ cap ∧ cap ≤ maxLen ∧ cur.size = cap * ie.size ∧ cur.toList.take (n * ie.size) = xs) ∧
        ((a.eval X).ownBlock = none ∨ ∃ p, ids[b]? = some (.lv p) ∧ (a.eval X).ownBlock = some p.blk) := by
       rcases hs.own_at hx (by rw [hb]; simp) with ⟨h1, h2⟩ | ⟨p, cap, h1, h2, h3, h4⟩
       ·have : ids[b] = .virt := by rw [List.getElem?_eq_getElem hbi] at h1; exact Option.some.inj h1
        rw [this] at hB
        have hB : n = 0 := hB
        subst hB
        exact ⟨[], RowsV.nil _ _ _ _, .inl ⟨h2, rfl, rfl⟩, .inl (by rw [h2]; rfl)⟩
       ·have : ids[b] = .lv p := by rw [List.getElem?_eq_getElem hbi] at h1; exact Option.some.inj h1
        rw [this] at hB
        obtain ⟨cur, e1, e2, g1, g2, g3, hR⟩ := hB.rowsV
        subst e2
        exact ⟨_, hR, .inr ⟨p.blk, cap, cur, h4, g1, h2.1, h2.2, by rw [g2, ← h3, e1, hsz], by rw [hsz]⟩, .inr ⟨p, h1, by rw [h4]; rfl⟩⟩
      obtain ⟨xs, hR1, hxv', hown⟩ := hxs
      obtain ⟨v', w', hrun, o1, o2, o3, o4, o5, odr, o6⟩ := append_out (P := P) (w := w) t o.type ti.ety ie ze hd hie hz hzs' (a.eval X) n xs hxv' (a.eval Y) n2 news hyv' hR2.2.1 hc1 (by rw [hby]; exact hc2)
      have hRR := hR1.cat hR2
      have hblk : ∀ k, k < w.heap.size → (∀ p, ids[b]? = some (.lv p) → ¬ p.has k) → w'.heap[k]? = w.heap[k]? := by
       intro k hk hp
       refine o5 k hk (fun e => ?_)
       rcases hown with h | ⟨p, h1, h2⟩
       ·rw [h] at e; cases e
       ·rw [h2] at e; exact hp p h1 (.inl (Option.some.inj e).symm)
      rcases o6 with ⟨rfl, hnil⟩ | ⟨g, cap, cur, rfl, q1, q2, q3, q4, q5, q6, q7⟩
      ·have hs' := hs.rebind (w' := w') b .virt (.row ti.ety ti.esz (n + n2) (rowCat n row row2)) 4 hlt o1 o2 o3 o4 hblk (fun _ h => by cases h) (fun p' h => by cases h) (fun _ => hnil) odr
       refine wp_of_run (by rw [e]; simp [hrun]) (hn _ _ _ _ _ _ h (hs'.putD o.dst (.own0 b ?_)))
       rw [List.getElem?_set_self hbi]
      ·rw [hsz] at q4 q5
       have hs' := hs.rebind (w' := w') b (.lv (mkId g cur.size (n + n2) ti.esz)) (.row ti.ety ti.esz (n + n2) (rowCat n row row2)) 4 hlt o1 o2 o3 o4 hblk (fun _ h => by cases h)
        (fun p' h x hx => by
         cases h
         have := mkId_has hx
         subst this
         refine ⟨q6, ?_⟩
         rcases q7 with h | h
         ·exact .inl h
         ·rcases hown with h' | ⟨p, h1, h2⟩
          ·rw [h'] at h; cases h
          ·rw [h2] at h; exact .inr ⟨p, h1, .inl (Option.some.inj h).symm⟩)
        (fun hm => BRel.ofRowsV q1 q4 q2 q5 (hRR.mono hm)) odr
       refine wp_of_run (by rw [e]; simp [hrun]) (hn _ _ _ _ _ _ h (hs'.putD o.dst (.own b cap (mkId g cur.size (n + n2) ti.esz) ?_ ⟨q2, q3⟩ q4.symm)))
       rw [List.getElem?_set_self hbi]
     ·exact h.elim
    ·exact h.elim
   ·rename_i hxv
    rw [hxv] at hx
    simp only [fnat_eq] at h
    obtain ⟨⟨hc1, hc2⟩, h⟩ := h
    rw [pushB_eq] at h
    obtain ⟨v', w', hrun, o1, o2, o3, o4, o5, odr, o6⟩ := append_out (P := P) (w := w) t o.type ti.ety ie ze hd hie hz hzs' (a.eval X) 0 [] (.inl ⟨hx.nils_inv, rfl, rfl⟩) (a.eval Y) n2 news hyv' hR2.2.1 (by omega) (by rw [hby]; simpa using hc2)
    have hbel : Bw w.heap.size w w' := ⟨o1, o2, o3, o4, fun k hk => o5 k hk (by rw [hx.nils_inv]; simp [Value.ownBlock]), odr⟩
    simp only [Nat.zero_add, List.nil_append] at o6
    have hmono : ∀ js : Ids, (∀ p, IdE.lv p ∈ js → ∀ x, p.has x → w.heap.size ≤ x) → ∀ u v, RelI (imOf c ids w) w u v → RelI (imOf c (ids ++ js) w') w' u v := by
     intro js hjs u v hu
     refine hu.mono ?_ (fun k hk => hbel.block k (imOf_lt hs hk))
     intro k hk
     rcases hk with hk | ⟨h1, h2, h3⟩
     ·exact .inl hk
     ·refine .inr ⟨h1, Nat.lt_of_lt_of_le h2 o4, fun p hp => ?_⟩
      rcases List.mem_append.1 hp with hp | hp
      ·exact h3 p hp
      ·intro hx; have := hjs p hp k hx; omega
    rcases o6 with ⟨rfl, hnil⟩ | ⟨g, cap, cur, rfl, q1, q2, q3, q4, q5, q6, q7⟩
    ·have hs' := hs.grow hbel [.row ti.ety ti.esz n2 row2] [.virt] rfl (fun i h1 h2 => by
       have : i = 0 := by simp at h1; omega
       subst this; exact hnil) (fun p h => by simp at h) (fun vs h => by simp at h) (fun i j p q x h1 => by
       cases i with
       | zero => simp at h1
       | succ i => simp at h1)
     refine wp_of_run (by rw [e]; simp [hrun]) (hn _ _ _ _ _ _ h (hs'.putD o.dst (.own0 m.length ?_)))
     rw [← hs.mlen]; simp
    ·rw [hsz] at q4 q5
     have hge : w.heap.size ≤ g := by
      rcases q7 with h | h
      ·exact h
      ·rw [hx.nils_inv] at h; simp [Value.ownBlock] at h
     have hs' := hs.grow hbel [.row ti.ety ti.esz n2 row2] [.lv (mkId g cur.size n2 ti.esz)] rfl (fun i h1 h2 => by
       have : i = 0 := by simp at h1; omega
       subst this
       exact BRel.ofRowsV q1 q4 q2 q5 (hR2.mono (hmono _ (fun p hp x hx => by simp at hp; subst hp; rw [mkId_has hx]; exact hge)))) (fun p h x hx => by simp at h; subst h; rw [mkId_has hx]; exact ⟨hge, q6⟩) (fun vs h => by simp at h) (fun i j p q x h1 h2 _ _ => by
       cases i with
       | zero => cases j with
        | zero => rfl
        | succ j => simp at h2
       | succ i => simp at h1)
     refine wp_of_run (by rw [e]; simp [hrun]) (hn _ _ _ _ _ _ h (hs'.putD o.dst (.own m.length cap (mkId g cur.size n2 ti.esz) ?_ ⟨q2, q3⟩ q4.symm)))
     rw [← hs.mlen]; simp
   ·exact h.elim
  ·exact h.elim
end
end Go.Proofs.YtnkbkfjgbejhfaaGreat.Am
namespace Go.Proofs.YtnkbkfjgbejhfaaGreat.Am
variable [Inhabited DRT]
open Go.RowKit (Below)

def zer (z : List A) : Nat → List A
 | 0 => []
 | n + 1 => z ++ zer z n
theorem zer_len (z : List A) : ∀ n, (zer z n).length = n * z.length
 | 0 => by simp [zer]
 | n + 1 => by simp [zer, zer_len z n, Nat.add_mul]; omega
theorem zer_get (z : List A) : ∀ (n k : Nat) (h : k < (zer z n).length) (h' : k % z.length < z.length), (zer z n)[k] = z[k % z.length]
 | 0, k, h, _ => by simp [zer] at h
 | n + 1, k, h, h' => by
  simp only [zer]
  by_cases hk : k < z.length
  ·rw [List.getElem_append_left hk]; simp [Nat.mod_eq_of_lt hk]
  ·rw [List.getElem_append_right (by omega)]
   have e : (k - z.length) % z.length = k % z.length := (Nat.mod_eq_sub_mod (by omega)).symm
   rw [zer_get z n (k - z.length) (by simp [zer] at h; omega) (by rw [e]; exact h')]
   simp only [e]

def sMake (tt : TT) (t : TypeId) (l k : A) (m : List Blk) (K : KT) : Prop :=
 match tt.lookup t, l, k with
 | some ti, .int _ l, .int _ k => match ti.kind, tt.lookup ti.ety with
  | 3, some te => fnat ti.ebytes fun eb => fnat ti.ety fun ety => fnat ti.esz fun esz => fl te.zero fun z => (0 ≤ l ∧ l ≤ k ∧ k ≤ 140737488355328 ∧ k * (eb : Int) ≤ 140737488355328) ∧ pushB m (.row ety esz l.toNat fun _ => z) fun b m' => K (.own b) m'
  | _, _ => False
 | _, _, _ => False
def sBuildSl (tt : TT) (t : TypeId) (len : Nat) (parts : List (Nat × A)) (m : List Blk) (K : KT) : Prop :=
 match tt.lookup t with
 | none => False
 | some ti => match ti.kind, tt.lookup ti.ety, Nat.ble (len * ti.esz) 1000000 with
  | 3, some te, true => bldF ti parts (zer te.zero len) fun cs => match cs.any (hasOwn 4), Nat.beq cs.length (len * ti.esz) with
   | false, true => fnat ti.ety fun ety => fnat ti.esz fun esz => pushB m (.row ety esz len fun i => takeL esz (cs.drop (i * esz))) fun b m' => K (.own b) m'
   | _, _ => False
  | _, _, _ => False
/-- A slice of a row of ours: the row itself, shorter. -/
def sOwnSl (tt : TT) (t : TypeId) (b : Nat) (lo hi : Option A) (s : List A) (m : List Blk) (K : List A → A → List Blk → Prop) : Prop :=
 match tt.lookup t, lo with
 | some ti, none => match ti.kind, m.getD b .dead with
  | 3, .row ty sz n row => bnd hi n n fun h =>
   fd.fdl 4 (s.map (scr b 4)) fun s' => fbs ((m.map (scrB b 4)).set b (.row ty sz h row)) fun m' => K s' (.own b) m'
  | _, _ => False
 | some ti, some l => match ti.kind, hi, m.getD b .dead with
  | 3, none, .row _ sz n _ => match Nat.beq sz ti.esz with
   | true => bnd (some l) 0 n fun k => fnat b fun b' => K s (.osl b' k) m
   | false => False
  | _, _, _ => False
 | _, _ => False
/-- An operation that may strike names. -/
def stepS (P : Program) (G : GInv) (tt : TT) (o : Oper) (s : List A) (m : List Blk) (K : List A → A → List Blk → Prop) : Prop :=
 match o.op with
 | .call { callee := .builtin .append, args, argTypes } => match args.toList, argTypes.toList with
  | [x, y], [t, t'] => match Nat.beq t' t with
   | true => sApp tt t (ev s x) (ev s y) s m K
   | false => False
  | _, _ => False
 | .makeSlice t l k => sMake tt t (ev s l) (ev s k) m (K s)
 | .buildSlice t len ps => sBuildSl tt t len (ps.toList.map fun p => (p.1, ev s p.2)) m (K s)
 | .slice t x lo hi mx => match mx, ev s x with
  | none, .own b => sOwnSl tt t b (evO s lo) (evO s hi) s m K
  | _, _ => step P G tt o s m (K s)
 | _ => step P G tt o s m (K s)

section
variable {c : Ctx} {s : List A} {m : List Blk} {a : Act} {w w' : World} {ids ids' : Ids} {P : Program} {im im' : Nat → Prop} {tt : TT} {G : GInv}
variable {next : Act → World → Prop} {Q : Exit → Act → World → Prop} {o : Oper}

theorem RowsV_made {z : Array Value} {sz n N : Nat} (hz : z.size = sz) (hn : n ≤ N) (hone : ∀ v ∈ z.toList, v.oneCell' = true) :
  RowsV im w n sz (fun _ => z.toList.map ofConst) ((madeCells z (N * sz)).toList.take (n * sz)) := by
 have hle : n * sz ≤ N * sz := Nat.mul_le_mul_right _ hn
 have hl : ((madeCells z (N * sz)).toList.take (n * sz)).length = n * sz := by rw [List.length_take, Array.length_toList, size_madeCells]; exact Nat.min_eq_left hle
 have hat : ∀ k (h : k < ((madeCells z (N * sz)).toList.take (n * sz)).length) (h' : k % sz < z.toList.length), ((madeCells z (N * sz)).toList.take (n * sz))[k] = z.toList[k % sz] := by
  intro k h h'
  simp [madeCells, hz]
  rw [getElem!_pos z (k % sz) (by simpa using h')]
 refine ⟨hl, ?_, fun i _ => by simp [hz], ?_⟩
 ·intro u hu
  obtain ⟨k, hk, rfl⟩ := List.getElem_of_mem hu
  have hk2 := hk
  rw [hl] at hk2
  obtain ⟨q1, q2, q3⟩ := divmod hk2 rfl rfl
  rw [hat k hk (by simpa [hz] using q2)]
  exact hone _ (List.getElem_mem _)
 ·intro i j hi hj h'
  have hjs : j < sz := by simpa [hz] using hj
  have e2 : (i * sz + j) % sz = j := by rw [Nat.mul_comm, Nat.mul_add_mod, Nat.mod_eq_of_lt hjs]
  rw [hat _ h' (by rw [e2]; simpa [hz] using hjs)]
  simp only [e2, List.getElem_map]
  exact ofConst_rel _ _ _

theorem sMake_sound (htt : TTok P tt) (hs : Sim c s m a w ids) {t : TypeId} {L C : Operand} (ho : o.op = .makeSlice t L C) {K : KT} (h : sMake tt t (ev s L) (ev s C) m K) (hn : NextOk c s o K next) : o.wp P a w next Q := by
 have hl := hs.ev L
 have hc := hs.ev C
 unfold sMake at h
 split at h
 ·rename_i ti k1 l k2 k hti hL hC
  rw [hL] at hl; rw [hC] at hc
  obtain ⟨i0, d, z0, _, hd, _, _, _, _, _, _, _, _, _, hk3, _⟩ := htt.facts hti
  split at h
  ·rename_i te hk hte
   obtain ⟨ie, ze, hd', hie, hsz, hby, hz, hzs, hne⟩ := hk3 hk
   subst hd'
   obtain ⟨i1, d1, z1, hi1, _, hz1, _, hone, _, hzero, _⟩ := htt.facts hte
   have e1 : i1 = ie := by rw [hie] at hi1; exact (Option.some.inj hi1).symm
   subst e1
   have e2 : z1 = ze := by rw [hz] at hz1; exact (Option.some.inj hz1).symm
   subst e2
   simp only [fnat_eq, fl_eq] at h
   obtain ⟨⟨c1, c2, c3, c4⟩, h⟩ := h
   rw [pushB_eq] at h
   have hrun := run_make (P := P) w t ti.ety i1 z1 hd hie hz k1 k2 l k c1 c2 (by rw [hby, Int.mul_comm]; omega) (by omega)
   refine wp_new hs hn (.row ti.ety ti.esz l.toNat fun _ => te.zero) (madeCells z1.cells (k.toNat * i1.size)) ti.ety l.toNat ti.esz (v := .slice (some ⟨w.heap.size, 0, none⟩) l.toNat k.toNat) ?_ h ?_ ?_
   ·unfold execOp; rw [ho]; simp only [hl.int_inv, hc.int_inv, Sem.run_bind, hrun]; rfl
   ·intro ids' im' w' g1 g2 g3 g4
    rw [hsz] at g4 ⊢
    refine BRel.ofRowsV (cap := k.toNat) g4 (by simp [size_madeCells]) (by omega) rfl ?_
    rw [hzero]
    exact RowsV_made hzs (by omega) hone
   ·intro ids' im' w' g
    refine .own _ k.toNat _ g ⟨by show l.toNat ≤ k.toNat; omega, by simp only [maxLen]; omega⟩ ?_
    simp [size_madeCells, hsz]
  ·exact h.elim
 ·exact h.elim

/-- A slice literal: the new block, and what it stands for. -/
theorem bsl_run (htt : TTok P tt) (hs : Sim c s m a w ids) {t : TypeId} {len : Nat} {ps : Array (Nat × Operand)} {ti te : TI} (hti : tt.lookup t = some ti) (hk : ti.kind = 3) (hte : tt.lookup ti.ety = some te) (hble : len * ti.esz ≤ 1000000)
  {K : List A → Prop} (h : bldF ti (ps.toList.map fun p => (p.1, ev s p.2)) (zer te.zero len) K) :
  ∃ cs' vs', K cs' ∧ (cs'.any (hasOwn 4) = false → cs'.length = len * ti.esz →
   (Instr.buildSlice t len (ps.map fun p => (p.1, a.eval p.2))).run P w = .ok (.slice (some ⟨w.heap.size, 0, none⟩) len len) (w.alloc (.cells vs' ti.ety)) ∧ vs'.size = len * ti.esz ∧ len ≤ maxLen ∧
   ∀ ids' im' w', (∀ b, imOf c ids w b → im' b) → (∀ b, imOf c ids w b → w'.heap[b]? = w.heap[b]?) → (∀ (b : Nat) p, ids[b]? = some p → p ≠ .dead → ids'[b]? = some p) →
    w'.heap[w.heap.size]? = some (.cells vs' ti.ety (0, 0)) → BRel ids' im' w' (.row ti.ety ti.esz len fun i => takeL ti.esz (cs'.drop (i * ti.esz))) (.lv (mkId w.heap.size vs'.size len ti.esz))) := by
 have hp := parts_rel hs ps.toList
 obtain ⟨i0, d, z0, _, hd, _, _, _, _, _, _, _, _, _, hk3, _⟩ := htt.facts hti
 obtain ⟨ie, ze, hd', hie, hsz, hby, hz, hzs, hne⟩ := hk3 hk
 subst hd'
 obtain ⟨i1, d1, z1, hi1, _, hz1, _, hone, _, hzero, _⟩ := htt.facts hte
 have e1 : i1 = ie := by rw [hie] at hi1; exact (Option.some.inj hi1).symm
 subst e1
 have e2 : z1 = ze := by rw [hz] at hz1; exact (Option.some.inj hz1).symm
 subst e2
 have hzl : te.zero.length = ti.esz := by rw [hzero]; simp [hzs]
 have hM := RowsV_made (im := imOf c ids w) (w := w) (n := len) (N := len) hzs (Nat.le_refl _) hone
 have hml : (madeCells z1.cells (len * ti.esz)).toList.length = len * ti.esz := by simp [size_madeCells]
 rw [List.take_of_length_le (by omega)] at hM
 obtain ⟨cs', vs', f1, f2, f3, f4, f5⟩ := bldF_sound (ti := ti) (ids := ids) (im := imOf c ids w) (w := w) _ _ (zer te.zero len) (madeCells z1.cells (len * ti.esz)).toList _ hp (by rw [hml, zer_len, hzl])
  hM.2.1 (fun j h1 h2 => by
   rw [hml] at h2
   obtain ⟨q1, q2, q3⟩ := divmod h2 rfl rfl
   have := hM.2.2.2 (j / ti.esz) (j % ti.esz) q1 (by simp [hzs]; exact q2) (by rw [q3, hml]; exact h2)
   rw [zer_get _ _ _ h1 (by rw [hzl]; exact q2)]
   simp only [hzl, q3] at this ⊢
   have e : te.zero[j % ti.esz]'(by rw [hzl]; exact q2) = (z1.cells.toList.map ofConst)[j % ti.esz]'(by simp [hzs]; exact q2) := by simp only [hzero]
   rw [e]; exact .imm this) h
 refine ⟨cs', vs'.toArray, f2, fun hown hlen => ?_⟩
 have hvl : vs'.length = len * ti.esz := by rw [f3, hlen]
 have hfill : ∀ zero : Array Value, (len * ti.esz = 0 ∨ zero = z1.cells) → (Array.range (len * ti.esz)).map (zero[· % zero.size]!) = madeCells z1.cells (len * ti.esz) := by
  intro zero h
  rcases h with h | h
  ·rw [h]; simp [madeCells]
  ·rw [h]; rfl
 have hpl : (fun i => some (i * ti.esz, ti.esz)) = placeOf ti := by
  funext x; unfold placeOf; rw [hk]; rfl
 have hrun : (Instr.buildSlice t len (ps.map fun p => (p.1, a.eval p.2))).run P w = .ok (.slice (some ⟨w.heap.size, 0, none⟩) len len) (w.alloc (.cells vs'.toArray ti.ety)) := by
  have hf : Instr.fill (placeOf ti) (madeCells z1.cells (len * ti.esz)) (ps.toList.map fun p => (p.1, a.eval p.2)) = some vs'.toArray := by simpa using f1
  have hle : ¬ 16777216 < len * ti.esz := by omega
  by_cases h0 : len * ti.esz = 0
  ·have := hfill #[] (.inl h0)
   rw [← this] at hf
   simp [Instr.buildSlice, underlying, hd, sizeOf, typeInfo, hie, hsz, h0, hpl, newRow]
   rw [h0] at hf
   simp at hf
   simp [hf]
  ·have := hfill z1.cells (.inr rfl)
   rw [← this] at hf
   simp [Instr.buildSlice, underlying, hd, sizeOf, typeInfo, hie, hsz, hle, h0, hpl, newRow, zeroValue, hz]
   simp [hf]
 refine ⟨hrun, by simpa using hvl, ?_, ?_⟩
 ·have : len ≤ len * ti.esz := Nat.le_mul_of_pos_right _ (Nat.pos_of_ne_zero hne)
  simp only [maxLen]; omega
 ·intro ids' im' w' g1 g2 g3 g4
  refine BRel.ofRowsV (cap := len) (vs := vs') g4 (by simpa using hvl) (Nat.le_refl _) (by rw [← hvl]; simp) ⟨hvl, f4, ?_, ?_⟩
  ·intro i hi
   simp only [takeL_eq]
   simp
   have := Nat.mul_le_mul_right ti.esz (show i + 1 ≤ len from hi)
   rw [Nat.add_mul] at this; omega
  ·intro i j hi hj h'
   have hc : i * ti.esz + j < cs'.length := by omega
   have e : (takeL ti.esz (cs'.drop (i * ti.esz)))[j] = cs'[i * ti.esz + j] := by simp [takeL_eq]
   rw [e]
   refine (hasOwn_rel 4 _ _ ?_ (f5 _ hc h')).mono g1 g2
   have := List.any_eq_false.1 hown _ (List.getElem_mem hc)
   simpa using this

theorem sBuildSl_sound (htt : TTok P tt) (hs : Sim c s m a w ids) {t : TypeId} {len : Nat} {ps : Array (Nat × Operand)} (ho : o.op = .buildSlice t len ps) {K : KT}
  (h : sBuildSl tt t len (ps.toList.map fun p => (p.1, ev s p.2)) m K) (hn : NextOk c s o K next) : o.wp P a w next Q := by
 unfold sBuildSl at h
 split at h
 ·exact h.elim
 ·rename_i ti hti
  split at h
  ·rename_i te hk hte hble
   obtain ⟨cs', vs', f2, hrest⟩ := bsl_run (P := P) htt hs hti hk hte (Nat.le_of_ble_eq_true hble) h
   split at f2
   ·rename_i hown hlen
    rw [fnat_eq, fnat_eq, pushB_eq] at f2
    obtain ⟨hrun, hvl, hmx, hB⟩ := hrest hown (Nat.eq_of_beq_eq_true hlen)
    refine wp_new hs hn _ vs' ti.ety len ti.esz (v := .slice (some ⟨w.heap.size, 0, none⟩) len len) ?_ f2 hB ?_
    ·unfold execOp; rw [ho]; simp only [Sem.run_bind, hrun]; rfl
    ·intro ids' im' w' g
     exact .own _ len _ g ⟨Nat.le_refl _, hmx⟩ hvl.symm
   ·exact f2.elim
  ·exact h.elim

theorem sOwnSl_sound (htt : TTok P tt) (hs : Sim c s m a w ids) {t : TypeId} {X : Operand} {lo hi : Option Operand} {b : Nat} (ho : o.op = .slice t X lo hi none) (hX : ev s X = .own b)
  {K : List A → A → List Blk → Prop} (h : sOwnSl tt t b (evO s lo) (evO s hi) s m K)
  (hn : ∀ s1 v m' a' w' ids', K s1 v m' → Sim c (putD s1 o.dst v) m' a' w' ids' → next a' w') : o.wp P a w next Q := by
 have hx := hs.ev X
 rw [hX] at hx
 have e : execOp a.eval o = (do let z ← Instr.sliceAt t (a.eval X) (lo.map a.eval) (hi.map a.eval) none; pure (.value z)) := by unfold execOp; rw [ho]; rfl
 unfold sOwnSl at h
 split at h
 ·rename_i ti hti hlo
  have hlo : lo = none := by cases lo with | none => rfl | some => simp [evO] at hlo
  subst hlo
  obtain ⟨i0, d, z0, _, hd, _, _, _, _, _, _, _, _, _, hk3, _⟩ := htt.facts hti
  split at h
  ·rename_i ty sz n row hk hb
   obtain ⟨ie, ze, hd', hie, hsz, hby, hz, hzs, hne⟩ := hk3 hk
   subst hd'
   have hun : P.underlying t = some (.slice (P.elem t)) := by
    have : P.elem t = ti.ety := by simp [Program.elem, hd]
    rw [this]; exact hd
   have hel : P.elem t = ti.ety := by simp [Program.elem, hd]
   obtain ⟨hlt, hm⟩ := getD_row hb
   have hbi : b < ids.length := by rw [hs.mlen]; exact hlt
   have hB := hs.blks b hlt hbi
   rw [hm] at hB
   rcases hs.own_at hx (by rw [hb]; simp) with ⟨h1, h2⟩ | ⟨p, cap, h1, h2, h3, h4⟩
   ·have : ids[b] = .virt := by rw [List.getElem?_eq_getElem hbi] at h1; exact Option.some.inj h1
    rw [this] at hB
    have hB : n = 0 := hB
    subst hB
    obtain ⟨hb', h, b1, b2, b3⟩ := bnd_run hs h (Nat.le_refl _)
    rw [fdl_eq, fbs_eq] at h
    have h0 : hb' = 0 := by
     cases hi with
     | none => exact b1 rfl
     | some L => have := b2 rfl; omega
    subst h0
    have hs' := hs.rebind (w' := w) b .virt (.row ty sz 0 row) 4 hlt rfl rfl rfl (Nat.le_refl _) (fun _ _ _ => rfl) (fun _ h => by cases h) (fun p' h => by cases h) (fun _ => rfl)
    refine wp_of_run ?_ (hn _ _ _ _ _ _ h (hs'.putD o.dst (v := .slice none 0 0) (.own0 b ?_)))
    ·rw [e, h2, Sem.run_bind, run_sliceAt_slice _ _ _ _ _ _ hun, run_slice_any _ _ _ _ _ hun]
     have := bounds_run (P := P) (w := w) (a := a) (isS := true) (len := 0) (cap := 0) (lo := none) b1 (fun _ => rfl) b3 (fun X h => by cases h)
     simp only [Option.map_none] at this
     simp [this, hel, sizeOf, typeInfo, hie, hsz, sliced]
    ·rw [List.getElem?_set_self hbi]
   ·have : ids[b] = .lv p := by rw [List.getElem?_eq_getElem hbi] at h1; exact Option.some.inj h1
    rw [this] at hB
    obtain ⟨hb', h, b1, b2, b3⟩ := bnd_run hs h (show n ≤ cap by have := hB.2.1; omega)
    rw [fdl_eq, fbs_eq] at h
    obtain ⟨e1, e2, vs, g1, g2, g3, g4, g5⟩ := hB
    have hle : hb' ≤ n := by
     cases hi with
     | none => have := b1 rfl; omega
     | some L => exact b2 rfl
    have hs' := hs.rebind (w' := w) b (.lv (mkId p.blk p.k hb' p.sz)) (.row ty sz hb' row) 4 hlt rfl rfl rfl (Nat.le_refl _) (fun _ _ _ => rfl) (fun _ h => by cases h)
     (fun p' h x hx => by cases h; rw [mkId_has hx]; exact ⟨(hs.fresh p (List.mem_of_getElem? h1)).2, .inr ⟨p, h1, .inl rfl⟩⟩)
     (fun hmm => ⟨e1, rfl, vs, g1, g2, Nat.le_trans (Nat.mul_le_mul_right _ hle) g3, fun i hi => g4 i (by omega), fun i j hi h h' => ⟨hmm _ _ (g5 i j (by omega) h h').1, (g5 i j (by omega) h h').2⟩⟩)
    refine wp_of_run ?_ (hn _ _ _ _ _ _ h (hs'.putD o.dst (v := .slice (some ⟨p.blk, 0, none⟩) hb' cap) (.own b cap (mkId p.blk p.k hb' p.sz) ?_ ⟨by show hb' ≤ cap; omega, h2.2⟩ h3)))
    ·rw [e, h4, Sem.run_bind, run_sliceAt_slice _ _ _ _ _ _ hun, run_slice_any _ _ _ _ _ hun, e2]
     have := bounds_run (P := P) (w := w) (a := a) (isS := true) (len := n) (cap := cap) (lo := none) b1 (fun _ => rfl) b3 (fun X h => by cases h)
     simp only [Option.map_none] at this
     have e3 : (⟨p.blk, 0, none⟩ : Addr).add 0 = ⟨p.blk, 0, none⟩ := rfl
     simp [this, hel, sizeOf, typeInfo, hie, hsz, sliced, e3]
    ·rw [List.getElem?_set_self hbi]
  ·exact h.elim
 ·rename_i ti l hti hlo
  obtain ⟨L, rfl⟩ : ∃ L, lo = some L := by cases lo with | none => simp [evO] at hlo | some L => exact ⟨L, rfl⟩
  obtain ⟨i0, d, z0, _, hd, _, _, _, _, _, _, _, _, _, hk3, _⟩ := htt.facts hti
  split at h
  ·rename_i ty sz n row hk hh hb
   have hhi : hi = none := by cases hi with | none => rfl | some => simp [evO] at hh
   subst hhi
   split at h
   ·rename_i hez
    have hez := Nat.eq_of_beq_eq_true hez
    subst hez
    obtain ⟨ie, ze, hd', hie, hsz, hby, hz, hzs, hne⟩ := hk3 hk
    subst hd'
    have hun : P.underlying t = some (.slice (P.elem t)) := by
     have : P.elem t = ti.ety := by simp [Program.elem, hd]
     rw [this]; exact hd
    have hel : P.elem t = ti.ety := by simp [Program.elem, hd]
    obtain ⟨hlt, hm⟩ := getD_row hb
    have hbi : b < ids.length := by rw [hs.mlen]; exact hlt
    have hB := hs.blks b hlt hbi
    rw [hm] at hB
    rw [← hlo] at h
    rcases hs.own_at hx (by rw [hb]; simp) with ⟨h1, h2⟩ | ⟨p, cap, h1, h2, h3, h4⟩
    ·have : ids[b] = .virt := by rw [List.getElem?_eq_getElem hbi] at h1; exact Option.some.inj h1
     rw [this] at hB
     have hB : n = 0 := hB
     subst hB
     obtain ⟨k, h, c1, c2, c3⟩ := bnd_run hs h (Nat.le_refl _)
     rw [fnat_eq] at h
     have h0 : k = 0 := by have := c2 rfl; omega
     subst h0
     refine wp_of_run ?_ (hn _ _ _ _ _ _ h (hs.putD o.dst (v := .slice none 0 0) (.osl0 b 0 h1)))
     rw [e, h2, Sem.run_bind, run_sliceAt_slice _ _ _ _ _ _ hun, run_slice_any _ _ _ _ _ hun]
     have := bounds_run (P := P) (w := w) (a := a) (isS := true) (len := 0) (cap := 0) (hi := none) (h := 0) (fun _ => rfl) c1 (fun X h => by cases h) c3
     simp only [Option.map_none, Option.map_some] at this
     simp [this, hel, sizeOf, typeInfo, hie, hsz, sliced]
    ·have : ids[b] = .lv p := by rw [List.getElem?_eq_getElem hbi] at h1; exact Option.some.inj h1
     rw [this] at hB
     obtain ⟨k, h, c1, c2, c3⟩ := bnd_run hs h (Nat.le_refl _)
     rw [fnat_eq] at h
     have e1 : p.sz = ti.esz := hB.1
     have e2 : p.n = n := hB.2.1
     refine wp_of_run ?_ (hn _ _ _ _ _ _ h (hs.putD o.dst (v := .slice (some ⟨p.blk, if cap = k then 0 else k * p.sz, none⟩) (p.n - k) (cap - k)) (.osl b k _ _ p h1 (fun hk => if_neg (by have := h2.1; omega)))))
     rw [e, h4, Sem.run_bind, run_sliceAt_slice _ _ _ _ _ _ hun, run_slice_any _ _ _ _ _ hun, e2]
     have := bounds_run (P := P) (w := w) (a := a) (isS := true) (len := n) (cap := cap) (hi := none) (h := n) (fun _ => rfl) c1 (fun X h => by cases h) c3
     simp only [Option.map_none, Option.map_some] at this
     have e3 : (⟨p.blk, 0, none⟩ : Addr).add (k * ti.esz) = ⟨p.blk, k * ti.esz, none⟩ := by rw [add_at, Nat.zero_add]
     by_cases hck : cap = k
     ·subst hck; simp [this, hel, sizeOf, typeInfo, hie, hsz, sliced, e3, e1]
     ·simp [this, hel, sizeOf, typeInfo, hie, hsz, sliced, e3, e1, hck]
   ·exact h.elim
  ·exact h.elim
 ·exact h.elim

theorem stepS_sound (htt : TTok P tt) (hG : G.ok c) (hs : Sim c s m a w ids) {K : List A → A → List Blk → Prop} (h : stepS P G tt o s m K)
  (hn : ∀ s1 v m' a' w' ids', K s1 v m' → Sim c (putD s1 o.dst v) m' a' w' ids' → next a' w') : o.wp P a w next Q := by
 unfold stepS at h
 split at h
 ·rename_i args ts ho
  split at h
  ·rename_i x y t t' hx ht
   split at h
   ·rename_i hb
    have hb := Nat.eq_of_beq_eq_true hb
    subst hb
    have e1 : args = #[x, y] := by apply Array.ext'; simpa using hx
    have e2 : ts = #[t', t'] := by apply Array.ext'; simpa using ht
    rw [e1, e2] at ho
    exact sApp_sound htt hs ho h hn
   ·exact h.elim
  ·exact h.elim
 ·rename_i ho; exact sMake_sound htt hs ho h (fun v m' a' w' ids' => hn s v m' a' w' ids')
 ·rename_i ho; exact sBuildSl_sound htt hs ho h (fun v m' a' w' ids' => hn s v m' a' w' ids')
 ·rename_i ho
  split at h
  ·rename_i hX; exact sOwnSl_sound htt hs ho hX h hn
  ·exact step_sound htt hG hs h (fun v m' a' w' ids' => hn s v m' a' w' ids')
 ·exact step_sound htt hG hs h (fun v m' a' w' ids' => hn s v m' a' w' ids')
end
end Go.Proofs.YtnkbkfjgbejhfaaGreat.Am
namespace Go.Proofs.YtnkbkfjgbejhfaaGreat.Am
variable [Inhabited DRT]
open Go.RowKit (Below)

/-! ### Names that are changed, a world that is changed in what is ours alone -/
def Id.like (p q : Id) : Prop := q.blk = p.blk ∧ q.k = p.k ∧ q.n = p.n ∧ q.sz = p.sz ∧ ∀ n k, p.hist n = some k → q.hist n = some k
def Id.like0 (p q : Id) : Prop := q.blk = p.blk ∧ q.k = p.k ∧ q.n = p.n ∧ q.sz = p.sz
theorem Id.like_rfl (p : Id) : p.like p := ⟨rfl, rfl, rfl, rfl, fun _ _ h => h⟩
def likeE : IdE → IdE → Prop
 | .dead, _ => True
 | .virt, q => q = .virt
 | .stale, q => q = .stale
 | .lv p, q => ∃ p', q = .lv p' ∧ p.like p'
 | .gho vs, q => q = .gho vs
/-- As above, of names that no entry leans on. -/
def likeE0 : IdE → IdE → Prop
 | .dead, _ => True
 | .virt, q => q = .virt
 | .stale, q => q = .stale
 | .lv p, q => ∃ p', q = .lv p' ∧ p.like0 p'
 | .gho vs, q => q = .gho vs
theorem likeE0_rfl (p : IdE) : likeE0 p p := by
 cases p with
 | dead => trivial
 | stale => trivial
 | virt => rfl
 | lv p => exact ⟨p, rfl, rfl, rfl, rfl, rfl⟩
 | gho vs => rfl
theorem likeE_rfl (p : IdE) : likeE p p := by
 cases p with
 | dead => trivial
 | stale => trivial
 | virt => rfl
 | lv p => exact ⟨p, rfl, p.like_rfl⟩
 | gho vs => rfl

section
variable {c : Ctx} {s : List A} {m : List Blk} {a : Act} {w w' : World} {ids ids' : Ids} {P : Program} {im im' : Nat → Prop} {tt : TT} {G : GInv}
variable {next : Act → World → Prop} {Q : Exit → Act → World → Prop} {o : Oper}

theorem Rel.reid (hi : ∀ b, im b → im' b) (hw : ∀ b, im b → w'.heap[b]? = w.heap[b]?) (hd : ∀ (b : Nat) p, ids[b]? = some p → p ≠ .dead → ∃ q, ids'[b]? = some q ∧ likeE p q)
  {x : A} {v : Value} (h : Rel ids im w x v) : Rel ids' im' w' x v := by
 induction h with
 | imm h => exact .imm (h.mono hi hw)
 | ref b off p h =>
  obtain ⟨q, h1, p', rfl, h2⟩ := hd _ _ h (by simp)
  rw [← h2.1]; exact .ref b off p' h1
 | oref b i off p h =>
  obtain ⟨q, h1, p', rfl, h2⟩ := hd _ _ h (by simp)
  rw [← h2.1, ← h2.2.2.2.1]; exact .oref b i off p' h1
 | ownS b x n cap h =>
  obtain ⟨q, h1, h2⟩ := hd _ _ h (by simp)
  have h2 : q = .stale := h2
  subst h2
  exact .ownS b x n cap h1
 | refS b off x y h =>
  obtain ⟨q, h1, h2⟩ := hd _ _ h (by simp)
  have h2 : q = .stale := h2
  subst h2
  exact .refS b off x y h1
 | orefS b i off x y h =>
  obtain ⟨q, h1, h2⟩ := hd _ _ h (by simp)
  have h2 : q = .stale := h2
  subst h2
  exact .orefS b i off x y h1
 | omapS b x h =>
  obtain ⟨q, h1, h2⟩ := hd _ _ h (by simp)
  have h2 : q = .stale := h2
  subst h2
  exact .omapS b x h1
 | own0 b h =>
  obtain ⟨q, h1, h2⟩ := hd _ _ h (by simp)
  have h2 : q = .virt := h2
  subst h2
  exact .own0 b h1
 | own b cap p h hn hm =>
  obtain ⟨q, h1, p', rfl, h2⟩ := hd _ _ h (by simp)
  rw [← h2.1, ← h2.2.2.1]
  exact .own b cap p' h1 (by rw [h2.2.2.1]; exact hn) (by rw [h2.2.1, h2.2.2.2.1]; exact hm)
 | omap b p h =>
  obtain ⟨q, h1, p', rfl, h2⟩ := hd _ _ h (by simp)
  rw [← h2.1]; exact .omap b p' h1
 | ent b k p n h hn =>
  obtain ⟨q, h1, p', rfl, h2⟩ := hd _ _ h (by simp)
  exact .ent b k p' n h1 (h2.2.2.2.2 _ _ hn)
 | entS b k n h =>
  obtain ⟨q, h1, h2⟩ := hd _ _ h (by simp)
  have h2 : q = .stale := h2
  subst h2
  exact .entS b k n h1
 | osl b k cap x p h hx =>
  obtain ⟨q, h1, p', rfl, h2⟩ := hd _ _ h (by simp)
  rw [← h2.1, ← h2.2.2.1]; exact .osl b k cap x p' h1 (by rw [h2.2.2.1, h2.2.2.2.1]; exact hx)
 | osl0 b k h =>
  obtain ⟨q, h1, h2⟩ := hd _ _ h (by simp)
  have h2 : q = .virt := h2
  subst h2
  exact .osl0 b k h1
 | oslS b k x n cap h =>
  obtain ⟨q, h1, h2⟩ := hd _ _ h (by simp)
  have h2 : q = .stale := h2
  subst h2
  exact .oslS b k x n cap h1
 | agg cs vs hl ho hr ih => exact .agg cs vs hl ho ih
 | tup cs vs hl hr ih => exact .tup cs vs hl ih
 | fn f cs vs hl hr ih => exact .fn f cs vs hl ih

theorem scr_reid {b : Nat} (hi : ∀ b, im b → im' b) (hw : ∀ b, im b → w'.heap[b]? = w.heap[b]?) (hd : ∀ (b' : Nat) p, b' ≠ b → ids[b']? = some p → p ≠ .dead → ∃ q, ids'[b']? = some q ∧ likeE p q)
  (d : Nat) (x : A) (v : Value) (h : Rel ids im w x v) : Rel ids' im' w' (scr b d x) v := by
 have h1 : Rel (ids.set b .dead) im w (scr b d x) v := scr_rel (fun _ h => h) (fun _ _ => rfl) (fun b' p hne h => by rw [List.getElem?_set_ne (fun e => hne e.symm)]; exact h) d x v h
 refine h1.reid hi hw ?_
 intro b' p hp hnd
 by_cases hb : b' = b
 ·subst hb
  rw [List.getElem?_set] at hp
  split at hp
  ·split at hp
   ·cases hp; exact absurd rfl hnd
   ·cases hp
  ·rename_i hne; exact absurd rfl hne
 ·rw [List.getElem?_set_ne (fun e => hb e.symm)] at hp
  exact hd b' p hb hp hnd

theorem BRel.reid (hi : ∀ b, im b → im' b) (hw : ∀ b, im b → w'.heap[b]? = w.heap[b]?) (hd : ∀ (b : Nat) p, ids[b]? = some p → p ≠ .dead → ∃ q, ids'[b]? = some q ∧ likeE p q)
  {x : Blk} {p : IdE} (hp : ∀ q, p = .lv q → ∀ k, q.has k → w'.heap[k]? = w.heap[k]?) (h : BRel ids im w x p) : BRel ids' im' w' x p := by
 cases x with
 | box ty cs =>
  cases p with
  | dead => exact h
  | stale => exact h
  | virt => exact h
  | gho vs => exact h
  | lv q =>
   obtain ⟨vs, h1, h2, h3, h4⟩ := h
   exact ⟨vs, by rw [hp _ rfl _ (.inl rfl)]; exact h1, h2, h3, fun j h h' => ⟨(h4 j h h').1.reid hi hw hd, (h4 j h h').2⟩⟩
 | dead => exact h
 | gone => exact h
 | row ty sz n row => have h := BRel.mono (ids := ids) (ids' := ids) hi hw (fun _ _ h _ => h) hp h; cases p <;> exact h
 | nest ty ety sz n ho le row => have h := BRel.mono (ids := ids) (ids' := ids) hi hw (fun _ _ h _ => h) hp h; cases p <;> exact h
 | mapb g n k v => have h := BRel.mono (ids := ids) (ids' := ids) hi hw (fun _ _ h _ => h) hp h; cases p <;> exact h
 | mapx g n k v => have h := BRel.mono (ids := ids) (ids' := ids) hi hw (fun _ _ h _ => h) hp h; cases p <;> exact h
 | mit g n k v se => have h := BRel.mono (ids := ids) (ids' := ids) hi hw (fun _ _ h _ => h) hp h; cases p <;> exact h
 | rowE ty sz n Φ => have h := BRel.mono (ids := ids) (ids' := ids) hi hw (fun _ _ h _ => h) hp h; cases p <;> exact h
 | mgrid ty g sh n hi2 cs ini has val =>
  cases p with
  | dead => exact h
  | stale => exact h
  | virt => exact h
  | gho vs => exact h
  | lv q => exact grid_same (hp _ rfl) (fun _ _ h => h.mono hi hw) (fun _ _ h => h.reid hi hw hd) h
 | ghost cs =>
  cases p with
  | dead => exact h
  | stale => exact h
  | virt => exact h
  | lv q => exact h
  | gho vs => exact ⟨h.1, fun j h1 h2 => (h.2 j h1 h2).reid hi hw hd⟩
theorem BRel.rescr {b : Nat} (hi : ∀ b, im b → im' b) (hw : ∀ b, im b → w'.heap[b]? = w.heap[b]?) (hd : ∀ (b' : Nat) p, b' ≠ b → ids[b']? = some p → p ≠ .dead → ∃ q, ids'[b']? = some q ∧ likeE p q)
  (d : Nat) {x : Blk} {p : IdE} (hp : ∀ q, p = .lv q → ∀ k, q.has k → w'.heap[k]? = w.heap[k]?) (h : BRel ids im w x p) : BRel ids' im' w' (scrB b d x) p := by
 cases x with
 | box ty cs =>
  cases p with
  | dead => exact h
  | stale => exact h
  | virt => exact h
  | gho vs => exact h
  | lv q =>
   obtain ⟨vs, h1, h2, h3, h4⟩ := h
   refine ⟨vs, by rw [hp _ rfl _ (.inl rfl)]; exact h1, h2, by simpa using h3, fun j h h' => ?_⟩
   rw [List.getElem_map]
   exact ⟨scr_reid hi hw hd d _ _ (h4 j (by simpa using h) h').1, (h4 j (by simpa using h) h').2⟩
 | dead => exact h
 | gone => exact h
 | row ty sz n row => have h := BRel.mono (ids := ids) (ids' := ids) hi hw (fun _ _ h _ => h) hp h; cases p <;> exact h
 | nest ty ety sz n ho le row => have h := BRel.mono (ids := ids) (ids' := ids) hi hw (fun _ _ h _ => h) hp h; cases p <;> exact h
 | mapb g n k v => have h := BRel.mono (ids := ids) (ids' := ids) hi hw (fun _ _ h _ => h) hp h; cases p <;> exact h
 | mapx g n k v => have h := BRel.mono (ids := ids) (ids' := ids) hi hw (fun _ _ h _ => h) hp h; cases p <;> exact h
 | mit g n k v se => have h := BRel.mono (ids := ids) (ids' := ids) hi hw (fun _ _ h _ => h) hp h; cases p <;> exact h
 | rowE ty sz n Φ => have h := BRel.mono (ids := ids) (ids' := ids) hi hw (fun _ _ h _ => h) hp h; cases p <;> exact h
 | mgrid ty g sh n hi2 cs ini has val =>
  cases p with
  | dead => exact h
  | stale => exact h
  | virt => exact h
  | gho vs => exact h
  | lv q => exact grid_map (scr b d) (hp _ rfl) (fun _ _ h => h.mono hi hw) (fun x v h => scr_reid hi hw hd d x v h) h
 | ghost cs =>
  cases p with
  | dead => exact h
  | stale => exact h
  | virt => exact h
  | lv q => exact h
  | gho vs =>
   refine ⟨by simpa using h.1, fun j h1 h2 => ?_⟩
   rw [List.getElem_map]
   exact scr_reid hi hw hd d _ _ (h.2 j (by simpa using h1) h2)

/-- What is read through values stays as it is. -/
theorem Sim.im_stays (hs : Sim c s m a w ids) (hsz : w.heap.size ≤ w'.heap.size)
  (hbl : ∀ k, k < w.heap.size → (∀ (b : Nat) (p : Id), ids[b]? = some (.lv p) → ¬ p.has k) → w'.heap[k]? = w.heap[k]?)
  (hown : ∀ p', IdE.lv p' ∈ ids' → ∀ x, p'.has x → x < w'.heap.size ∧ (w.heap.size ≤ x ∨ ∃ (b : Nat) (p : Id), ids[b]? = some (.lv p) ∧ p.has x)) :
  (∀ k, imOf c ids w k → imOf c ids' w' k) ∧ (∀ k, imOf c ids w k → w'.heap[k]? = w.heap[k]?) := by
 constructor
 ·intro k h
  rcases h with h | ⟨h1, h2, h3⟩
  ·exact .inl h
  ·refine .inr ⟨h1, Nat.lt_of_lt_of_le h2 hsz, fun p hp hx => ?_⟩
   rcases (hown p hp k hx).2 with h | ⟨b, p0, h4, h5⟩
   ·omega
   ·exact h3 p0 (List.mem_of_getElem? h4) h5
 ·intro k h
  refine hbl k (imOf_lt hs h) (fun b p hp e => ?_)
  rcases h with h | ⟨_, _, h3⟩
  ·exact hs.im0new h (hs.freshX p (List.mem_of_getElem? hp) k e).1
  ·exact h3 p (List.mem_of_getElem? hp) e
/-- A state that follows on another one. -/
theorem Sim.goOn (hs : Sim c s m a w ids) {s' : List A} {m' : List Blk} (hos : w'.os = w.os) (htp : w'.tape = w.tape) (hou : w'.output = w.output) (hsz : w.heap.size ≤ w'.heap.size)
  (hbl : ∀ k, k < w.heap.size → (∀ (b : Nat) (p : Id), ids[b]? = some (.lv p) → ¬ p.has k) → w'.heap[k]? = w.heap[k]?)
  (hown : ∀ p', IdE.lv p' ∈ ids' → ∀ x, p'.has x → x < w'.heap.size ∧ (w.heap.size ≤ x ∨ ∃ (b : Nat) (p : Id), ids[b]? = some (.lv p) ∧ p.has x))
  (hgho : ∀ vs, IdE.gho vs ∈ ids' → IdE.gho vs ∈ ids)
  (hdis : ∀ (b b' : Nat) p q x, ids'[b]? = some (.lv p) → ids'[b']? = some (.lv q) → p.has x → q.has x → b = b')
  (hsl : s'.length = s.length) (hml : ids'.length = m'.length)
  (hslots : ∀ i (h : i < s'.length) (h' : i < a.tmps.size), Rel ids' (imOf c ids' w') w' s'[i] a.tmps[i])
  (hblks : ∀ b (h : b < m'.length) (h' : b < ids'.length), BRel ids' (imOf c ids' w') w' m'[b] ids'[b]) (hdr : drLe w.drawn w'.drawn := by exact drLe.refl _) : Sim c s' m' a w' ids' where
 defers := hs.defers
 len := by rw [hs.len, hsl]
 slots := hslots
 mlen := hml
 blks := hblks
 distinctX := hdis
 freshX := by
  intro p hp x hx
  refine ⟨?_, (hown p hp x hx).1⟩
  rcases (hown p hp x hx).2 with h | ⟨b, p0, h4, h5⟩
  ·exact .inl (Nat.le_trans hs.frame.size h)
  ·exact (hs.freshX p0 (List.mem_of_getElem? h4) x h5).1
 frame := by
  refine hs.frame.go hos htp hou hsz (fun k hk hm => ?_) hdr
  refine hbl k (Nat.lt_of_lt_of_le hk hs.frame.size) (fun b p hp e => ?_)
  rcases (hs.freshX p (List.mem_of_getElem? hp) k e).1 with h | h
  ·omega
  ·exact hm h
 im0lt := hs.im0lt
 gho := fun vs h => hs.gho vs (hgho vs h)
end
end Go.Proofs.YtnkbkfjgbejhfaaGreat.Am

/-
  THE ENGINE, part 1: an abstract machine of symbolic values, each step proved sound.
-/
import Derived.Calls
import Derived.Tactics
import Derived.Below
import Derived.Laws.Sem
import Derived.WalkKit
import Derived.Laws.StructEq
import Derived.ChangeKeysEq
import Derived.Laws.CopyRow
import Derived.Laws.Cells
import Derived.Laws.Slices
import Derived.Laws.AppendOwn
import Derived.Laws.OwnMore
import Derived.Laws.MakeOwn
set_option linter.unusedSimpArgs false
set_option linter.unusedSectionVars false
set_option linter.unusedVariables false
namespace Go.Proofs.YtijddijloelacaaGreat.Am
open Go.RowKit (Below)
inductive KC where
 | int (n:Int)
 | bool (b:Bool)
 | str (s:List UInt8)
 deriving DecidableEq
inductive KS where
 | int (k:IntKind)
 | bool
 | str
def WO:KS->KC->Value
 | .int k,.int n=>.int k n
 | .bool,.bool b=>.bool b
 | .str,.str s=>.string ⟨s.toArray⟩
 | _,_=>.tuple #[]
def jv:List KS->List KC->Prop
 | [],[]=>True
 | .int _::ss,.int _::ks=>jv ss ks
 | .bool::ss,.bool _::ks=>jv ss ks
 | .str::ss,.str _::ks=>jv ss ks
 | _,_=>False
def F8:List KS->List KC->List Value
 | s::ss,k::ks=>WO s k::F8 ss ks
 | _,_=>[]
def kV(agg:Bool)(ss:List KS)(ks:List KC):Value :=
 match agg with
 | true=>.agg (F8 ss ks).toArray
 | false=>(F8 ss ks).getD 0 undef

inductive A where
 | int (k:IntKind) (n:Int)
 | bool (b:Bool)
 | sb (b:Bool)
 | str (s:List UInt8)
 | iH
 | ref (b off:Nat)
 | oref (b i off:Nat)
 | bref (cs:List A) (off:Nat)
 | aC
 | sl (n sz:Nat) (row:Nat->List A)
 | own (b:Nat)
 | agg (cs:List A)
 | tup (vs:List A)
 | fn (f:FuncId) (cap:List A)
 | bz
 | gO
 | mv (agg:Bool) (sh:List KS) (has:List KC->Bool) (val:List KC->A)
 | omap (b:Nat)
 | tf (b:Nat) (k:List KC)
 | pe (b k:Nat)
 | aj
instance:Inhabited A:=⟨.aj⟩
inductive ar where
 | box (ty:TypeId) (cs:List A)
 | row (ty:TypeId) (sz n:Nat) (row:Nat->List A)
 | nest (ty aW:TypeId) (sz n:Nat) (hole:Option Nat) (len:Nat->Nat) (row:Nat->Nat->List A)
 | fK (agg:Bool) (sh:List KS) (has:List KC->Bool) (val:List KC->A)
 | qm (agg:Bool) (sh:List KS) (has:List KC->Bool) (val:List KC->A)
 | Ie (agg:Bool) (sh:List KS) (has:List KC->Bool) (val:List KC->A) (seen:List (List KC))
 | cZ (ty:TypeId) (agg:Bool) (sh:List KS) (n hi:Nat) (cs:List A) (kI:Nat->Nat) (has:Nat->List KC->Bool) (val:Nat->List KC->A)
 | bW (ty:TypeId) (sz n:Nat) (Φ:(Nat->List A)->Prop)
 | ghost (cs:List A)
 | gone
 | dead
instance:Inhabited ar:=⟨.dead⟩

def hU(v:Value):Prop:=v.oneCell'=true

inductive aA (im:Nat->Prop) (w:World):A->Value->Prop
 | int (k:IntKind) (n:Int):aA im w (.int k n) (.int k n)
 | bool (b:Bool):aA im w (.bool b) (.bool b)
 | sb (b:Bool):aA im w (.sb b) (.bool b)
 | str (s:List UInt8):aA im w (.str s) (.string ⟨s.toArray⟩)
 | iH:aA im w .iH (.pointer none)
 | bref (aq base off:Nat) (cs:List A) (vs:Nat->Value) (hb:im aq)
   (hc:∀j,j<cs.length->w.cell? ⟨aq,base+j,none⟩=some (vs j))
   (ho:∀j,j<cs.length->hU (vs j))
   (hr:∀j (h:j<cs.length),aA im w cs[j] (vs j)):aA im w (.bref cs off) (.pointer (some ⟨aq,base+off,none⟩))
 | aC:aA im w .aC (.slice none 0 0)
 | uu (sz:Nat) (row:Nat->List A):aA im w (.sl 0 sz row) (.slice none 0 0)
 | sle (sz:Nat) (row:Nat->List A) (ad:Addr) (cap:Nat):aA im w (.sl 0 sz row) (.slice (some ad) 0 cap)
 | sl (n sz:Nat) (row:Nat->List A) (aq base cap:Nat) (vs:Nat->Nat->Value) (hb:im aq) (mw:n<=cap)
   (hl:∀i,i<n->(row i).length=sz)
   (hc:∀i j,i<n->j<sz->w.cell? ⟨aq,base+i*sz+j,none⟩=some (vs i j))
   (ho:∀i j,i<n->j<sz->hU (vs i j))
   (hr:∀i j,i<n->∀(h:j<(row i).length),aA im w (row i)[j] (vs i j)) :
   aA im w (.sl n sz row) (.slice (some ⟨aq,base,none⟩) n cap)
 | agg (cs:List A) (vs:List Value) (hl:vs.length=cs.length) (ho:∀v∈vs,hU v)
   (hr:∀j (h:j<cs.length) (h':j<vs.length),aA im w cs[j] vs[j]):aA im w (.agg cs) (.agg vs.toArray)
 | tup (cs:List A) (vs:List Value) (hl:vs.length=cs.length)
   (hr:∀j (h:j<cs.length) (h':j<vs.length),aA im w cs[j] vs[j]):aA im w (.tup cs) (.tuple vs.toArray)
 | fn (f:FuncId) (cs:List A) (vs:List Value) (hl:vs.length=cs.length)
   (hr:∀j (h:j<cs.length) (h':j<vs.length),aA im w cs[j] vs[j]):aA im w (.fn f cs) (.func (.func f) #[] vs.toArray)
 | bz:aA im w .bz .nilFunc
 | gO:aA im w .gO (.map none)
 | mv (agg:Bool) (sh:List KS) (has:List KC->Bool) (val:List KC->A) (r:Nat) (es:Array MapEntry) (clock:Nat) (f:Nat->List KC) (hb:im r) (hh:w.heap[r]?=some (.map es clock))
   (hk:∀i (h:i<es.size),jv sh (f i)/\es[i].key=kV agg sh (f i)/\has (f i)=true) (hd:∀i j,i<es.size->j<es.size->f i=f j->i=j) (hc:∀k,jv sh k->has k=true->∃i,i<es.size/\f i=k)
   (hv:∀i (h:i<es.size),aA im w (val (f i)) es[i].val)
   (Ig:∀i (h:i<es.size),es[i].born<clock) (F9:∀i j (h:i<es.size) (h':j<es.size),es[i].born=es[j].born->i=j):aA im w (.mv agg sh has val) (.map (some r))
 | aj (v:Value):aA im w .aj v

structure Id where
 aq:Nat
 k:Nat
 n:Nat
 sz:Nat
 Bh:Nat->Prop:=fun _=>False
 vg:Nat->Option (List KC):=fun _=>none
def Id.has(p:Id)(x:Nat):Prop:=x=p.aq\/p.Bh x
inductive eU where
 | dead
 | aw
 | bg
 | lv (p:Id)
 | cV (vs:List Value)
abbrev dV:=List eU

inductive Rel (ids:dV) (im:Nat->Prop) (w:World):A->Value->Prop
 | aL {a:A} {v:Value} (h:aA im w a v):Rel ids im w a v
 | ref (b off:Nat) (p:Id) (h:ids[b]?=some (.lv p)):Rel ids im w (.ref b off) (.pointer (some ⟨p.aq,off,none⟩))
 | oref (b i off:Nat) (p:Id) (h:ids[b]?=some (.lv p)):Rel ids im w (.oref b i off) (.pointer (some ⟨p.aq,i*p.sz+off,none⟩))
 | gQ (b:Nat) (h:ids[b]?=some .bg):Rel ids im w (.own b) (.slice none 0 0)
 | own (b cap:Nat) (p:Id) (h:ids[b]?=some (.lv p)) (hn:p.n<=cap/\cap<=maxLen) (hm:cap*p.sz=p.k) :
   Rel ids im w (.own b) (.slice (some ⟨p.aq,0,none⟩) p.n cap)
 | lC (b off x y:Nat) (h:ids[b]?=some .aw):Rel ids im w (.ref b off) (.pointer (some ⟨x,y,none⟩))
 | ic (b i off x y:Nat) (h:ids[b]?=some .aw):Rel ids im w (.oref b i off) (.pointer (some ⟨x,y,none⟩))
 | gI (b x:Nat) (h:ids[b]?=some .aw):Rel ids im w (.omap b) (.map (some x))
 | lD (b:Nat) (x:Option Addr) (n cap:Nat) (h:ids[b]?=some .aw):Rel ids im w (.own b) (.slice x n cap)
 | omap (b:Nat) (p:Id) (h:ids[b]?=some (.lv p)):Rel ids im w (.omap b) (.map (some p.aq))
 | tf (b:Nat) (k:List KC) (p:Id) (n:Nat) (h:ids[b]?=some (.lv p)) (hn:p.vg n=some k):Rel ids im w (.tf b k) (.int .i64 n)
 | rT (b:Nat) (k:List KC) (n:Int) (h:ids[b]?=some .aw):Rel ids im w (.tf b k) (.int .i64 n)
 | pe (b k cap x:Nat) (p:Id) (h:ids[b]?=some (.lv p)) (hx:k<p.n->x=k*p.sz):Rel ids im w (.pe b k) (.slice (some ⟨p.aq,x,none⟩) (p.n-k) cap)
 | rU (b k:Nat) (h:ids[b]?=some .bg):Rel ids im w (.pe b k) (.slice none 0 0)
 | pD (b k:Nat) (x:Option Addr) (n cap:Nat) (h:ids[b]?=some .aw):Rel ids im w (.pe b k) (.slice x n cap)
 | agg (cs:List A) (vs:List Value) (hl:vs.length=cs.length) (ho:∀v∈vs,hU v)
   (hr:∀j (h:j<cs.length) (h':j<vs.length),Rel ids im w cs[j] vs[j]):Rel ids im w (.agg cs) (.agg vs.toArray)
 | tup (cs:List A) (vs:List Value) (hl:vs.length=cs.length)
   (hr:∀j (h:j<cs.length) (h':j<vs.length),Rel ids im w cs[j] vs[j]):Rel ids im w (.tup cs) (.tuple vs.toArray)
 | fn (f:FuncId) (cs:List A) (vs:List Value) (hl:vs.length=cs.length)
   (hr:∀j (h:j<cs.length) (h':j<vs.length),Rel ids im w cs[j] vs[j]):Rel ids im w (.fn f cs) (.func (.func f) #[] vs.toArray)

section
variable {im bL:Nat->Prop} {w w':World} {ids ab:dV}

theorem rV{b:Nat}(h:w'.heap[b]?=w.heap[b]?)(o:Nat):w'.cell? ⟨b,o,none⟩=w.cell? ⟨b,o,none⟩:=by
 unfold World.cell?;simp only[h]

theorem aA.mono(hi:∀b,im b->bL b)(hw:∀b,im b->w'.heap[b]?=w.heap[b]?){a:A}{v:Value}(h:aA im w a v):aA bL w' a v:=by
 induction h with
 | int k n=>exact .int k n
 | bool b=>exact .bool b
 | sb b=>exact .sb b
 | str s=>exact .str s
 | iH=>exact .iH
 | bref aq base off cs vs hb hc ho hr ih=>exact .bref aq base off cs vs (hi _ hb) (fun j hj=>by rw[rV (hw _ hb)];exact hc j hj) ho ih
 | aC=>exact .aC
 | uu sz row=>exact .uu sz row
 | sle sz row ad cap=>exact .sle sz row ad cap
 | sl n sz row aq base cap vs hb mw hl hc ho hr ih=>exact .sl n sz row aq base cap vs (hi _ hb) mw hl (fun i j h1 h2=>by rw[rV (hw _ hb)];exact hc i j h1 h2) ho ih
 | agg cs vs hl ho hr ih=>exact .agg cs vs hl ho ih
 | tup cs vs hl hr ih=>exact .tup cs vs hl ih
 | fn f cs vs hl hr ih=>exact .fn f cs vs hl ih
 | bz=>exact .bz
 | gO=>exact .gO
 | mv agg sh has val r es clock f hb hh hk hd hc hv Ig F9 ihv=>exact .mv agg sh has val r es clock f (hi _ hb) (by rw[hw _ hb];exact hh) hk hd hc ihv Ig F9
 | aj v=>exact .aj v

theorem Rel.mono(hi:∀b,im b->bL b)(hw:∀b,im b->w'.heap[b]?=w.heap[b]?)(hd:∀(b:Nat) p,ids[b]?=some p->p≠.dead->ab[b]?=some p)
  {a:A} {v:Value} (h:Rel ids im w a v):Rel ab bL w' a v:=by
 induction h with
 | aL h=>exact .aL (h.mono hi hw)
 | ref b off p h=>exact .ref b off p (hd _ _ h (by simp))
 | oref b i off p h=>exact .oref b i off p (hd _ _ h (by simp))
 | gQ b h=>exact .gQ b (hd _ _ h (by simp))
 | own b cap p h hn hm=>exact .own b cap p (hd _ _ h (by simp)) hn hm
 | lD b x n cap h=>exact .lD b x n cap (hd _ _ h (by simp))
 | lC b off x y h=>exact .lC b off x y (hd _ _ h (by simp))
 | ic b i off x y h=>exact .ic b i off x y (hd _ _ h (by simp))
 | gI b x h=>exact .gI b x (hd _ _ h (by simp))
 | omap b p h=>exact .omap b p (hd _ _ h (by simp))
 | tf b k p n h hn=>exact .tf b k p n (hd _ _ h (by simp)) hn
 | rT b k n h=>exact .rT b k n (hd _ _ h (by simp))
 | pe b k cap x p h hx=>exact .pe b k cap x p (hd _ _ h (by simp)) hx
 | rU b k h=>exact .rU b k (hd _ _ h (by simp))
 | pD b k x n cap h=>exact .pD b k x n cap (hd _ _ h (by simp))
 | agg cs vs hl ho hr ih=>exact .agg cs vs hl ho ih
 | tup cs vs hl hr ih=>exact .tup cs vs hl ih
 | fn f cs vs hl hr ih=>exact .fn f cs vs hl ih

theorem Rel.cC{k:IntKind}{n:Int}{v:Value}(h:Rel ids im w (.int k n) v):v=.int k n:=by
 cases h with|aL h=>cases h;rfl
theorem Rel.eC{b:Bool}{v:Value}(h:Rel ids im w (.bool b) v):v=.bool b:=by
 cases h with|aL h=>cases h;rfl
theorem Rel.jw{b:Bool}{v:Value}(h:Rel ids im w (.sb b) v):v=.bool b:=by
 cases h with|aL h=>cases h;rfl
theorem Rel.iU{s:List UInt8}{v:Value}(h:Rel ids im w (.str s) v):v=.string ⟨s.toArray⟩:=by
 cases h with|aL h=>cases h;rfl
theorem Rel.lE{v:Value}(h:Rel ids im w .iH v):v=.pointer none:=by
 cases h with|aL h=>cases h;rfl
theorem Rel.dO{v:Value}(h:Rel ids im w .aC v):v=.slice none 0 0:=by
 cases h with|aL h=>cases h;rfl
theorem Rel.iV{b off:Nat}{v:Value}(h:Rel ids im w (.ref b off) v):(∃p,ids[b]?=some (.lv p)/\v=.pointer (some ⟨p.aq,off,none⟩))\/(ids[b]?=some .aw/\∃x y,v=.pointer (some ⟨x,y,none⟩)):=by
 cases h with
 | aL h=>cases h
 | ref _ _ p h=>exact .inl ⟨p,h,rfl⟩
 | lC _ _ x y h=>exact .inr ⟨h,x,y,rfl⟩
theorem Rel.ja{b i off:Nat}{v:Value}(h:Rel ids im w (.oref b i off) v):(∃p,ids[b]?=some (.lv p)/\v=.pointer (some ⟨p.aq,i*p.sz+off,none⟩))\/(ids[b]?=some .aw/\∃x y,v=.pointer (some ⟨x,y,none⟩)):=by
 cases h with
 | aL h=>cases h
 | oref _ _ _ p h=>exact .inl ⟨p,h,rfl⟩
 | ic _ _ _ x y h=>exact .inr ⟨h,x,y,rfl⟩
theorem Rel.kJ{b:Nat}{v:Value}(h:Rel ids im w (.own b) v):
  (ids[b]?=some .bg/\v=.slice none 0 0)\/(∃p cap,ids[b]?=some (.lv p)/\(p.n<=cap/\cap<=maxLen)/\cap*p.sz=p.k/\v=.slice (some ⟨p.aq,0,none⟩) p.n cap) \/
   (ids[b]?=some .aw/\∃x n cap,v=.slice x n cap):=by
 cases h with
 | aL h=>cases h
 | gQ _ h=>exact .inl ⟨h,rfl⟩
 | own _ cap p h hn hm=>exact .inr (.inl ⟨p,cap,h,hn,hm,rfl⟩)
 | lD _ x n cap h=>exact .inr (.inr ⟨h,x,n,cap,rfl⟩)
theorem Rel.jY{b:Nat}{v:Value}(h:Rel ids im w (.omap b) v):(∃p,ids[b]?=some (.lv p)/\v=.map (some p.aq))\/(ids[b]?=some .aw/\∃x,v=.map (some x)):=by
 cases h with
 | aL h=>cases h
 | omap _ p h=>exact .inl ⟨p,h,rfl⟩
 | gI _ x h=>exact .inr ⟨h,x,rfl⟩
theorem Rel.Pe{b k:Nat}{v:Value}(h:Rel ids im w (.pe b k) v):
  (ids[b]?=some .bg/\v=.slice none 0 0)\/(∃p cap x,ids[b]?=some (.lv p)/\(k<p.n->x=k*p.sz)/\v=.slice (some ⟨p.aq,x,none⟩) (p.n-k) cap)\/(ids[b]?=some .aw/\∃x n cap,v=.slice x n cap):=by
 cases h with
 | aL h=>cases h
 | pe _ _ cap x p h hx=>exact .inr (.inl ⟨p,cap,x,h,hx,rfl⟩)
 | rU _ _ h=>exact .inl ⟨h,rfl⟩
 | pD _ _ x n cap h=>exact .inr (.inr ⟨h,x,n,cap,rfl⟩)
theorem Rel.lF{v:Value}(h:Rel ids im w .gO v):v=.map none:=by
 cases h with|aL h=>cases h;rfl
theorem Rel.iW{cs:List A}{v:Value}(h:Rel ids im w (.agg cs) v):
  ∃vs:List Value,v=.agg vs.toArray/\vs.length=cs.length/\(∀u∈vs,hU u)/\(∀j (h:j<cs.length) (h':j<vs.length),Rel ids im w cs[j] vs[j]):=by
 cases h with
 | aL h=>cases h with|agg _ vs hl ho hr=>exact⟨vs,rfl,hl,ho,fun j h h'=>.aL (hr j h h')⟩
 | agg _ vs hl ho hr=>exact⟨vs,rfl,hl,ho,hr⟩
theorem Rel.kK{cs:List A}{v:Value}(h:Rel ids im w (.tup cs) v):
  ∃vs:List Value,v=.tuple vs.toArray/\vs.length=cs.length/\(∀j (h:j<cs.length) (h':j<vs.length),Rel ids im w cs[j] vs[j]):=by
 cases h with
 | aL h=>cases h with|tup _ vs hl hr=>exact⟨vs,rfl,hl,fun j h h'=>.aL (hr j h h')⟩
 | tup _ vs hl hr=>exact⟨vs,rfl,hl,hr⟩
theorem Rel.ig{f:FuncId}{cs:List A}{v:Value}(h:Rel ids im w (.fn f cs) v):
  ∃vs:List Value,v=.func (.func f) #[] vs.toArray/\vs.length=cs.length/\(∀j (h:j<cs.length) (h':j<vs.length),Rel ids im w cs[j] vs[j]):=by
 cases h with
 | aL h=>cases h with|fn _ _ vs hl hr=>exact⟨vs,rfl,hl,fun j h h'=>.aL (hr j h h')⟩
 | fn _ _ vs hl hr=>exact⟨vs,rfl,hl,hr⟩
end

structure Ctx where
 w0:World
 Wl:Nat->Prop
 mu:Nat->Prop:=fun _=>False
 gh:List Value:=[]
/-- A block that the call may write: a new one, or one that it was handed. -/
def Ctx.new(c:Ctx)(b:Nat):Prop:=c.w0.heap.size<=b\/c.mu b
/-- Draws: where a sort is called they only grow; else (ns) nothing is said of them. -/
structure cF where
 ns:Prop
variable [Inhabited cF]
def fL(a b:Nat):Prop:=(default:cF).ns\/a<=b
theorem fL.refl(a:Nat):fL a a:=.inr (Nat.le_refl a)
theorem fL.succ(a:Nat):fL a (a+1):=.inr (Nat.le_succ a)
theorem fL.of{a b:Nat}(h:a<=b):fL a b:=.inr h
theorem fL.trans{a b c:Nat}(h:fL a b)(k:fL b c):fL a c:=by
 rcases h with h|h
 ·exact .inl h
 ·exact k.imp id (Nat.le_trans h)
/-- A world that goes on: what lies below n stays, and draws only grow. -/
structure Bw (n:Nat) (w w':World):Prop where
 os:w'.os=w.os
 tape:w'.tape=w.tape
 output:w'.output=w.output
 size:w.heap.size<=w'.heap.size
 block:∀k,k<n->w'.heap[k]?=w.heap[k]?
 drawn:fL w.drawn w'.drawn
theorem Bw.below{n:Nat}{w w':World}(h:Bw n w w'):Below n w w':=⟨h.os,h.tape,h.output,h.size,h.block⟩
theorem Bw.refl(n:Nat)(w:World):Bw n w w:=⟨rfl,rfl,rfl,Nat.le_refl _,fun _ _=>rfl,fL.refl _⟩
theorem Bw.mono{n m:Nat}{w w':World}(h:Bw n w w')(hm:m<=n):Bw m w w':=⟨h.os,h.tape,h.output,h.size,fun k hk=>h.block k (Nat.lt_of_lt_of_le hk hm),h.drawn⟩
structure Fr (c:Ctx) (w:World):Prop where
 os:w.os=c.w0.os
 tape:w.tape=c.w0.tape
 output:w.output=c.w0.output
 size:c.w0.heap.size<=w.heap.size
 block:∀k,k<c.w0.heap.size->¬c.mu k->w.heap[k]?=c.w0.heap[k]?
 drawn:fL c.w0.drawn w.drawn
theorem Fr.go{c:Ctx}{w w':World}(h:Fr c w)(h1:w'.os=w.os)(h2:w'.tape=w.tape)(h3:w'.output=w.output)(h4:w.heap.size<=w'.heap.size)
  (h5:∀k,k<c.w0.heap.size->¬c.mu k->w'.heap[k]?=w.heap[k]?) (h6:fL w.drawn w'.drawn:=by exact fL.refl _):Fr c w' :=
 ⟨h1.trans h.os,h2.trans h.tape,h3.trans h.output,Nat.le_trans h.size h4,fun k hk hm=>(h5 k hk hm).trans (h.block k hk hm),h.drawn.trans h6⟩
theorem Fr.trans{c:Ctx}{w w':World}(h:Fr c w)(k:Bw c.w0.heap.size w w'):Fr c w':=h.go k.os k.tape k.output k.size (fun i hi _=>k.block i hi) k.drawn
theorem Fr.refl(w:World)(im:Nat->Prop)(mu:Nat->Prop)(gh:List Value):Fr ⟨w,im,mu,gh⟩ w:=⟨rfl,rfl,rfl,Nat.le_refl _,fun _ _ _=>rfl,fL.refl _⟩
theorem Fr.below{c:Ctx}{w:World}(h:Fr c w)(hm:∀b,¬c.mu b):Bw c.w0.heap.size c.w0 w:=⟨h.os,h.tape,h.output,h.size,fun k hk=>h.block k hk (hm k),h.drawn⟩

def av(c:Ctx)(ids:dV)(w:World):Nat->Prop:=fun b =>
 c.Wl b\/(c.new b/\b<w.heap.size/\∀p,eU.lv p∈ids->¬p.has b)

/-- An inner row of a nest. -/
def pj(im:Nat->Prop)(w:World)(aW:TypeId)(sz n:Nat)(row:Nat->List A)(v:Value)(x:Option Nat):Prop :=
 (v=.slice none 0 0/\n=0/\x=none) \/
 ∃(q cap:Nat) (vs:Array Value),v=.slice (some ⟨q,0,none⟩) n cap/\x=some q/\w.heap[q]?=some (.cells vs aW (0,0))/\vs.size=cap*sz/\n<=cap/\cap<=maxLen /\
  (∀i,i<n->(row i).length=sz) /\
  ∀i j,i<n->∀(h:j<(row i).length) (h':i*sz+j<vs.size),aA im w (row i)[j] vs[i*sz+j]/\hU vs[i*sz+j]

/-- What lies at r is a map of these entries. -/
def Ga(im:Nat->Prop)(w:World)(agg:Bool)(sh:List KS)(has:List KC->Bool)(val:List KC->A)(r:Nat):Prop :=
 ∃(es:Array MapEntry) (clock:Nat) (f:Nat->List KC),w.heap[r]?=some (.map es clock) /\
   (∀i (h:i<es.size),jv sh (f i)/\es[i].key=kV agg sh (f i)/\has (f i)=true)/\(∀i j,i<es.size->j<es.size->f i=f j->i=j)/\(∀k,jv sh k->has k=true->∃i,i<es.size/\f i=k) /\
   (∀i (h:i<es.size),aA im w (val (f i)) es[i].val)/\(∀i (h:i<es.size),es[i].born<clock)/\∀i j (h:i<es.size) (h':j<es.size),es[i].born=es[j].born->i=j
/-- A cell of a slice of maps. -/
def WS(im:Nat->Prop)(w:World)(Bh:Nat->Prop)(agg:Bool)(sh:List KS)(n hi l:Nat)(kI:Nat->Nat)(has:Nat->List KC->Bool)(val:Nat->List KC->A)(kb:Nat->Nat)(i:Nat)(v:Value):Prop :=
 (∃x,v=.map x)/\(l=0\/i≠hi->(kI i=0->v=.map none) /\
  (kI i=1->v=.map (some (kb i))/\Bh (kb i)/\Ga im w agg sh (has i) (val i) (kb i)/\∀j,j<n->(l=0\/j≠hi)->kI j=1->kb j=kb i->j=i))
def bq(ids:dV)(im:Nat->Prop)(w:World):ar->eU->Prop
 | .dead,p=>p=.dead
 | .gone,p=>p=.aw
 | .box ty cs,.lv p=>∃vs:Array Value,w.heap[p.aq]?=some (.cells vs ty (0,0))/\vs.size=p.k/\cs.length=p.k /\
   ∀j (h:j<cs.length) (h':j<vs.size),Rel ids im w cs[j] vs[j]/\hU vs[j]
 | .box _ _,_=>False
 | .row ty sz n row,.lv p=>p.sz=sz/\p.n=n/\∃vs:Array Value,w.heap[p.aq]?=some (.cells vs ty (0,0))/\vs.size=p.k/\n*sz<=p.k /\
   (∀i,i<n->(row i).length=sz) /\
   ∀i j,i<n->∀(h:j<(row i).length) (h':i*sz+j<vs.size),aA im w (row i)[j] vs[i*sz+j]/\hU vs[i*sz+j]
 | .row _ _ n _,.bg=>n=0
 | .row _ _ _ _,.dead=>False
 | .row _ _ _ _,.aw=>False
 | .row _ _ _ _,.cV _=>False
 | .nest ty aW sz n hole len row,.lv p=>p.sz=1/\p.n=n/\¬p.Bh p.aq/\∃vs:Array Value,w.heap[p.aq]?=some (.cells vs ty (0,0))/\vs.size=p.k/\n<=p.k /\
   ∃kb:Nat->Option Nat,∀i,i<n->hole≠some i->∀(h:i<vs.size),pj im w aW sz (len i) (row i) vs[i] (kb i) /\
    (∀x,kb i=some x->p.Bh x)/\∀j,j<n->hole≠some j->kb j=kb i->kb i≠none->j=i
 | .nest _ _ _ n _ _ _,.bg=>n=0
 | .nest _ _ _ _ _ _ _,.dead=>False
 | .nest _ _ _ _ _ _ _,.aw=>False
 | .nest _ _ _ _ _ _ _,.cV _=>False
 | .fK agg sh has val,.lv p=>∃(es:Array MapEntry) (clock:Nat) (f:Nat->List KC),w.heap[p.aq]?=some (.map es clock) /\
   (∀i (h:i<es.size),jv sh (f i)/\es[i].key=kV agg sh (f i)/\has (f i)=true)/\(∀i j,i<es.size->j<es.size->f i=f j->i=j)/\(∀k,jv sh k->has k=true->∃i,i<es.size/\f i=k) /\
   (∀i (h:i<es.size),aA im w (val (f i)) es[i].val)/\(∀i (h:i<es.size),es[i].born<clock)/\∀i j (h:i<es.size) (h':j<es.size),es[i].born=es[j].born->i=j
 | .fK _ _ _ _,_=>False
 | .qm agg sh has val,.lv p=>∃(es:Array MapEntry) (clock:Nat) (f:Nat->List KC),w.heap[p.aq]?=some (.map es clock) /\
   (∀i (h:i<es.size),jv sh (f i)/\es[i].key=kV agg sh (f i)/\has (f i)=true)/\(∀i j,i<es.size->j<es.size->f i=f j->i=j)/\(∀k,jv sh k->has k=true->∃i,i<es.size/\f i=k) /\
   (∀i (h:i<es.size),aA im w (val (f i)) es[i].val)/\(∀i (h:i<es.size),p.vg es[i].born=some (f i))/\(∀n,clock<=n->p.vg n=none)/\∀n k,p.vg n=some k->∃i,∃(h:i<es.size),es[i].born=n/\f i=k
 | .qm _ _ _ _,_=>False
 | .Ie agg sh has val seen,.lv p=>∃(r:Nat) (es:Array MapEntry) (clock:Nat) (f:Nat->List KC) (sb:Array Nat),w.heap[p.aq]?=some (.mapIter (some r) clock sb clock)/\im r/\w.heap[r]?=some (.map es clock) /\
   (∀i (h:i<es.size),jv sh (f i)/\es[i].key=kV agg sh (f i)/\has (f i)=true)/\(∀i j,i<es.size->j<es.size->f i=f j->i=j)/\(∀k,jv sh k->has k=true->∃i,i<es.size/\f i=k) /\
   (∀i (h:i<es.size),aA im w (val (f i)) es[i].val)/\(∀i (h:i<es.size),es[i].born<clock)/\(∀i j (h:i<es.size) (h':j<es.size),es[i].born=es[j].born->i=j) /\
   (∀i (h:i<es.size),es[i].born∈sb↔f i∈seen)/\∀k,seen.getLast?=some k->∃i,∃(h:i<es.size),∃sb':Array Nat,f i=k/\sb=sb'.push es[i].born
 | .Ie _ _ _ _ _,_=>False
 | .cZ ty agg sh n hi cs kI has val,.lv p=>p.sz=1/\p.n=n/\¬p.Bh p.aq/\∃vs:Array Value,w.heap[p.aq]?=some (.cells vs ty (0,0))/\vs.size=p.k/\n<=p.k /\
   (∀j (h:j<cs.length) (h':hi<vs.size),Rel ids im w cs[j] vs[hi])/\∃kb:Nat->Nat,∀i,i<n->∀(h:i<vs.size),WS im w p.Bh agg sh n hi cs.length kI has val kb i vs[i]
 | .cZ _ _ _ n _ _ _ _ _,.bg=>n=0
 | .cZ _ _ _ _ _ _ _ _ _,.dead=>False
 | .cZ _ _ _ _ _ _ _ _ _,.aw=>False
 | .cZ _ _ _ _ _ _ _ _ _,.cV _=>False
 | .bW ty sz n Φ,.lv p=>∃row,Φ row/\p.sz=sz/\p.n=n/\∃vs:Array Value,w.heap[p.aq]?=some (.cells vs ty (0,0))/\vs.size=p.k/\n*sz<=p.k /\
   (∀i,i<n->(row i).length=sz) /\
   ∀i j,i<n->∀(h:j<(row i).length) (h':i*sz+j<vs.size),aA im w (row i)[j] vs[i*sz+j]/\hU vs[i*sz+j]
 | .bW _ _ n Φ,.bg=>n=0/\∃row,Φ row
 | .bW _ _ _ _,.dead=>False
 | .bW _ _ _ _,.aw=>False
 | .bW _ _ _ _,.cV _=>False
 | .ghost cs,.cV vs=>vs.length=cs.length/\∀j (h:j<cs.length) (h':j<vs.length),Rel ids im w cs[j] vs[j]
 | .ghost _,_=>False

structure aJ (c:Ctx) (s:List A) (m:List ar) (a:Act) (w:World) (ids:dV):Prop where
 defers:a.defers=[]
 len:a.tmps.size=s.length
 cc:∀i (h:i<s.length) (h':i<a.tmps.size),Rel ids (av c ids w) w s[i] a.tmps[i]
 aU:ids.length=m.length
 bP:∀b (h:b<m.length) (h':b<ids.length),bq ids (av c ids w) w m[b] ids[b]
 al:∀(b b':Nat) p q x,ids[b]?=some (.lv p)->ids[b']?=some (.lv q)->p.has x->q.has x->b=b'
 au:∀p,eU.lv p∈ids->∀x,p.has x->c.new x/\x<w.heap.size
 frame:Fr c w
 fh:∀b,c.Wl b->b<c.w0.heap.size/\¬c.mu b
 cV:∀vs,eU.cV vs∈ids->vs=c.gh
section
variable {c:Ctx} {s:List A} {m:List ar} {a:Act} {w:World} {ids:dV}
theorem aJ.fresh(hs:aJ c s m a w ids):∀p,eU.lv p∈ids->c.new p.aq/\p.aq<w.heap.size :=
 fun p h=>hs.au p h _ (.inl rfl)
theorem aJ.dG(hs:aJ c s m a w ids){b:Nat}(h:ids[b]?=some .aw):m.getD b .dead=.gone:=by
 have hb:b<ids.length:=by
  rcases Nat.lt_or_ge b ids.length with h'|h'
  ·exact h'
  ·rw[List.getElem?_eq_none h'] at h;cases h
 have hm:b<m.length:=by rw[<-hs.aU];exact hb
 have hB:=hs.bP b hm hb;rw[List.getElem?_eq_getElem hb] at h;rw[Option.some.inj h] at hB;have e:m.getD b .dead=m[b]:=by rw[List.getD_eq_getElem?_getD,List.getElem?_eq_getElem hm];rfl
 rw[e];cases hx:m[b]<;>rw[hx] at hB<;>first|rfl|exact hB.elim|cases hB
theorem aJ.yT(hs:aJ c s m a w ids){b off:Nat}{v:Value}{im:Nat->Prop}(h:Rel ids im w (.ref b off) v)(hb:m.getD b .dead≠.gone):∃p,ids[b]?=some (.lv p)/\v=.pointer (some ⟨p.aq,off,none⟩):=by
 rcases h.iV with h|⟨h,_⟩
 ·exact h
 ·exact absurd (hs.dG h) hb
theorem aJ.my(hs:aJ c s m a w ids){b i off:Nat}{v:Value}{im:Nat->Prop}(h:Rel ids im w (.oref b i off) v)(hb:m.getD b .dead≠.gone):∃p,ids[b]?=some (.lv p)/\v=.pointer (some ⟨p.aq,i*p.sz+off,none⟩):=by
 rcases h.ja with h|⟨h,_⟩
 ·exact h
 ·exact absurd (hs.dG h) hb
theorem aJ.Gb(hs:aJ c s m a w ids){b:Nat}{v:Value}{im:Nat->Prop}(h:Rel ids im w (.omap b) v)(hb:m.getD b .dead≠.gone):∃p,ids[b]?=some (.lv p)/\v=.map (some p.aq):=by
 rcases h.jY with h|⟨h,_⟩
 ·exact h
 ·exact absurd (hs.dG h) hb
/-- A slice of ours, whose block is there. -/
theorem aJ.gC(hs:aJ c s m a w ids){b:Nat}{v:Value}{im:Nat->Prop}(h:Rel ids im w (.own b) v)(hb:m.getD b .dead≠.gone):
  (ids[b]?=some .bg/\v=.slice none 0 0)\/∃p cap,ids[b]?=some (.lv p)/\(p.n<=cap/\cap<=maxLen)/\cap*p.sz=p.k/\v=.slice (some ⟨p.aq,0,none⟩) p.n cap:=by
 rcases h.kJ with h|h|⟨h,_⟩
 ·exact .inl h
 ·exact .inr h
 ·exact absurd (hs.dG h) hb
theorem aJ.Ti(hs:aJ c s m a w ids){b k:Nat}{v:Value}{im:Nat->Prop}(h:Rel ids im w (.pe b k) v)(hb:m.getD b .dead≠.gone):
  (ids[b]?=some .bg/\v=.slice none 0 0)\/∃p cap x,ids[b]?=some (.lv p)/\(k<p.n->x=k*p.sz)/\v=.slice (some ⟨p.aq,x,none⟩) (p.n-k) cap:=by
 rcases h.Pe with h|h|⟨h,_⟩
 ·exact .inl h
 ·exact .inr h
 ·exact absurd (hs.dG h) hb
theorem aJ.rX(hs:aJ c s m a w ids){b:Nat}(h:c.Wl b)(h':c.new b):False:=by
 have:=hs.fh b h;rcases h' with h'|h'
 ·omega
 ·exact this.2 h'
abbrev mkId(aq k n sz:Nat):Id:=⟨aq,k,n,sz,fun _=>False,fun _=>none⟩
theorem cQ{aq k n sz x:Nat}(h:(mkId aq k n sz).has x):x=aq:=by
 rcases h with h|h
 ·exact h
 ·exact h.elim
end
end Go.Proofs.YtijddijloelacaaGreat.Am
namespace Go.Proofs.YtijddijloelacaaGreat.Am
variable [Inhabited cF]
def eqFs(P:Program)(g:TypeId->Option (List Nat)):Nat->List Field->Option (List Nat)
 | _,[]=>some []
 | acc,f::fs=>match g f.type,P.info? f.type with
  | some sh, some i => if f.name ≠ "_" ∧ f.offset = acc ∧ i.size = sh.length ∧ 0 < sh.length then match eqFs P g (acc + sh.length) fs with
    | some r=>some (sh++r)
    | none=>none
   else none
  | _,_=>none
/-- The kinds of the cells of a type that '==' compares cell by cell: 5 an integer, 6 a bool, 4 a string. -/
def br(P:Program):Nat->TypeId->Option (List Nat)
 | 0,_=>none
 | d+1,t=>match P.underlying t with
  | some (.int _)=>some [5]
  | some .bool=>some [6]
  | some .string=>some [4]
  | some (.struct fs)=>if P.stoodInHeld t then none else eqFs P (br P d) 0 fs.toList
  | some (.array n e)=>match br P d e,P.info? e with
   | some sh,some i=>if i.size=sh.length/\0<sh.length then some (List.replicate n sh).flatten else none
   | _,_=>none
  | _=>none

def ok1(k:Nat)(x y:Value)(b:Bool):Prop :=
 (k=5/\∃kk a c,x=.int kk a/\y=.int kk c/\b=(a==c))\/(k=6/\∃a c,x=.bool a/\y=.bool c/\b=(a==c)) \/
 (k=4/\∃a c:ByteArray,x=.string a/\y=.string c/\b=(a.toList==c.toList))
def vh:List Nat->List Value->List Value->Bool->Prop
 | [],[],[],r=>r=true
 | k::ks,x::xs,y::ys,r=>∃b r',ok1 k x y b/\vh ks xs ys r'/\r=(b&&r')
 | _,_,_,_=>False
theorem oE:∀ {ks:List Nat} {xs ys:List Value} {r:Bool},vh ks xs ys r->xs.length=ks.length/\ys.length=ks.length
 | [],[],[],_,_=>⟨rfl,rfl⟩
 | k::ks,x::xs,y::ys,r,⟨b,r',_,h,_⟩=>by have:=oE h;simp[this.1,this.2]
 | [],[],_::_,_,h=>h.elim
 | [],_::_,_,_,h=>h.elim
 | _::_,[],_,_,h=>h.elim
 | _::_,_::_,[],_,h=>h.elim
theorem jZ:∀ {ks ls:List Nat} {xs ys:List Value} {r:Bool},vh (ks++ls) xs ys r ->
  ∃r1 r2,vh ks (xs.take ks.length) (ys.take ks.length) r1/\vh ls (xs.drop ks.length) (ys.drop ks.length) r2/\r=(r1&&r2)
 | [],ls,xs,ys,r,h=>⟨true,r,by simp[vh],by simpa using h,by simp⟩
 | k::ks,ls,xs,ys,r,h=>by
  match xs,ys,h with
  | x::xs,y::ys,h =>
   obtain⟨b,r',h1,h2,rfl⟩:=h;obtain⟨r1,r2,g1,g2,rfl⟩:=jZ h2;exact⟨b&&r1,r2,⟨b,r1,h1,by simpa using g1,rfl⟩,by simpa using g2,by simp[Bool.and_assoc]⟩
  | [],_,h=>exact h.elim
  | _::_,[],h=>exact h.elim

/-- The value of cells, by the type. -/
def xp(P:Program)(t:TypeId)(xs:List Value):Value :=
 match P.underlying t with
 | some (.struct _)=>.agg xs.toArray
 | some (.array _ _)=>.agg xs.toArray
 | _=>xs.getD 0 undef

section
variable {P:Program} {w:World}
theorem lG{t:TypeId}{i:TypeInfo}(hi:P.info? t=some i){d:TypeDesc}(hd:P.underlying t=some d)(xs:List Value)(off:Nat)(h:off+i.size<=xs.length)(h0:0<i.size):
  (part t xs.toArray off).run P w=.ok (xp P t ((xs.drop off).take i.size)) w:=by
 have aH:off<xs.length:=by omega
 have e0:((xs.drop off).take i.size).getD 0 undef=xs[off]:=by
  rw[List.getD_eq_getElem?_getD,List.getElem?_take,if_pos h0,List.getElem?_drop];simp[aH]
 unfold part xp isAgg;cases d<;>simp[underlying,hd,sizeOf,typeInfo,hi,aH]<;>first|(rw[<-e0];simp[List.getD_eq_getElem?_getD])|skip

theorem kL:∀(d:Nat) (t:TypeId) (sh:List Nat),br P d t=some sh->∃dd,P.underlying t=some dd
 | 0,_,_,h=>by simp[br] at h
 | d+1,t,sh,h=>by
  unfold br at h;cases hd:P.underlying t with
  | none=>rw[hd] at h;cases h
  | some dd=>exact⟨dd,rfl⟩
theorem oF{k:Nat}{xs ys:List Value}{r:Bool}(h:vh [k] xs ys r):∃x y,xs=[x]/\ys=[y]/\ok1 k x y r:=by
 have hl:=oE h
 match xs,ys,hl,h with
 | [x],[y],_,⟨b,r',h1,h2,h3⟩ =>
  have h2:r'=true:=h2;subst h2;exact⟨x,y,rfl,rfl,by rw[h3];simpa using h1⟩
theorem Gc{xs ys:List Value}{r:Bool}(h:vh [] xs ys r):r=true:=by
 match xs,ys,h with
 | [],[],h=>exact h

theorem gJ:∀(d:Nat) (t:TypeId) (sh:List Nat) (xs ys:List Value) (r:Bool) (dd:Nat),br P d t=some sh->vh sh xs ys r ->
  (Op.equalIn (d+dd) t (xp P t xs) (xp P t ys)).run P w=.ok r w
 | 0,_,_,_,_,_,_,h,_=>by simp[br] at h
 | d+1,t,sh,xs,ys,r,dd,h,hk=>by
  have e:d+1+dd=(d+dd)+1:=by omega
  rw[e];unfold br at h;unfold xp;split at h
  ·rename_i k hd;cases h;obtain⟨x,y,rfl,rfl,h1⟩:=oF hk
   ·rcases h1 with⟨_,kk,a,c,rfl,rfl,rfl⟩|⟨h,_⟩|⟨h,_⟩
    ·rw[hd];simp[run_equalIn_int w _ t kk k a c hd]
    ·cases h
    ·cases h
  ·rename_i hd;cases h;obtain⟨x,y,rfl,rfl,h1⟩:=oF hk
   ·rcases h1 with⟨h,_⟩|⟨_,a,c,rfl,rfl,rfl⟩|⟨h,_⟩
    ·cases h
    ·rw[hd];simp[run_equalIn_bool w _ t a c hd]
    ·cases h
  ·rename_i hd;cases h;obtain⟨x,y,rfl,rfl,h1⟩:=oF hk
   ·rcases h1 with⟨h,_⟩|⟨h,_⟩|⟨_,a,c,rfl,rfl,rfl⟩
    ·cases h
    ·cases h
    ·rw[hd];simp[run_equalIn_string w _ t a c hd]
  ·rename_i fs hd;split at h
   ·cases h
   ·rename_i rY;rw[hd];have hf:P.fieldsOf t=fs:=by unfold Program.fieldsOf;rw[hd]
    rw[run_equalIn_struct w (d+dd) t _ _ (by rw[hf];exact hd) (by simpa using rY),hf]
    have key:∀(fl:List Field) (acc:Nat) (sh:List Nat) (r:Bool),eqFs P (br P d) acc fl=some sh->vh sh (xs.drop acc) (ys.drop acc) r ->
      (Op.eqFields (d+dd) xs.toArray ys.toArray fl).run P w=.ok r w:=by
     intro fl
     induction fl with
     | nil =>
      intro acc sh r h1 h2;simp only[eqFs,Option.some.injEq] at h1;subst h1;rw[Gc h2];rfl
     | cons f fl ih =>
      intro acc sh r h1 h2;unfold eqFs at h1;split at h1
      ·rename_i s1 i hs hi;split at h1
       ·rename_i hc;obtain⟨Eb,uz,hc3,hz⟩:=hc;split at h1
        ·rename_i r0 O0;cases h1;obtain⟨r1,r2,g1,g2,rfl⟩:=jZ h2;obtain⟨fd,Pf⟩:=kL d f.type s1 hs;have hl:=oE h2;simp at hl;have p1:=lG (w:=w) hi Pf xs acc (by omega) (by omega);have p2:=lG (w:=w) hi Pf ys acc (by omega) (by omega);rw[hc3] at p1 p2;have q:=gJ d f.type s1 _ _ r1 dd hs g1;rw[List.drop_drop,List.drop_drop] at g2;have Tj:=ih (acc+s1.length) r0 r2 O0 g2;subst uz;unfold Op.eqFields;rw[if_pos Eb];simp only[Sem.run_bind,p1,p2,q,Result.andThen_ok];cases r1<;>simp[Tj]
        ·cases h1
       ·cases h1
      ·cases h1
    exact key fs.toList 0 sh r h (by simpa using hk)
  ·rename_i n e hd;split at h
   ·rename_i s1 i hs hi;split at h
    ·rename_i hc;cases h;rw[hd];obtain⟨ed,Wm⟩:=kL d e s1 hs;rw[run_equalIn_array w (d+dd) xs.toArray ys.toArray hd hi];have Ec:P.cellsOf e=s1.length:=by unfold Program.cellsOf;rw[hi];simp[hc.1]
     rw[Ec]
     have key:∀(k b:Nat) (r:Bool),vh (List.replicate k s1).flatten (xs.drop (b*s1.length)) (ys.drop (b*s1.length)) r ->
       (Op.eqItems (d+dd) e s1.length xs.toArray ys.toArray (List.range' b k)).run P w=.ok r w:=by
      intro k
      induction k with
      | zero =>
       intro b r h2;have h2:vh [] (xs.drop (b*s1.length)) (ys.drop (b*s1.length)) r:=by simpa using h2
       rw[Gc h2];rfl
      | succ k ih =>
       intro b r h2;rw[List.replicate_succ,List.flatten_cons] at h2;have hl:=oE h2;simp only[List.length_drop,List.length_append] at hl;obtain⟨r1,r2,g1,g2,rfl⟩:=jZ h2;have p1:=lG (w:=w) hi Wm xs (b*s1.length) (by omega) (by omega);have p2:=lG (w:=w) hi Wm ys (b*s1.length) (by omega) (by omega);rw[hc.1] at p1 p2;have q:=gJ d e s1 _ _ r1 dd hs g1;rw[List.drop_drop,List.drop_drop,<-Nat.succ_mul] at g2;have Tj:=ih (b+1) r2 g2;rw[List.range'_succ];unfold Op.eqItems;simp only[Sem.run_bind,p1,p2,q,Result.andThen_ok];cases r1<;>simp[Tj]
     have:=key n 0 r (by simpa using hk)
     rwa [<-List.range_eq_range'] at this
    ·cases h
   ·cases h
  ·cases h

mutual
theorem gi:∀(d:Nat) (t:TypeId) (sh:List Nat) (e:Nat),br P d t=some sh->P.eqGuardType (d+e) t=false
 | 0,_,_,_,h=>by simp[br] at h
 | d+1,t,sh,e,h=>by
  have e1:d+1+e=(d+e)+1:=by omega
  rw[e1];unfold br at h;unfold Program.eqGuardType;split at h
  ·rename_i hd;rw[hd]
  ·rename_i hd;rw[hd]
  ·rename_i hd;rw[hd]
  ·rename_i fs hd;rw[hd];split at h
   ·cases h
   ·have:=vi d 0 fs.toList sh e h;simp only[Array.any_eq_false];intro i hi;have:=this fs[i] (by simp);simp[this]
  ·rename_i n el hd;rw[hd];split at h
   ·rename_i s1 i hs hi;exact gi d el s1 e hs
   ·cases h
  ·cases h
theorem vi:∀(d acc:Nat) (fs:List Field) (sh:List Nat) (e:Nat),eqFs P (br P d) acc fs=some sh->∀f∈fs,P.eqGuardType (d+e) f.type=false
 | _,_,[],_,_,_=>by intro f hf;cases hf
 | d,acc,g::fs,sh,e,h=>by
  unfold eqFs at h;split at h
  ·rename_i s1 i hs hi;split at h
   ·split at h
    ·rename_i r hr;intro f hf;rcases List.mem_cons.1 hf with rfl|hf
     ·exact gi d _ s1 e hs
     ·exact vi d _ fs r e hr f hf
    ·cases h
   ·cases h
  ·cases h
end

theorem tg{op:BinOp}(Zy:op=.eql\/op=.neq){t:TypeId}{d:Nat}{sh:List Nat}(Ge:br P d t=some sh)(WT:d<=100)(Wn:d<=P.depth){xs ys:List Value}{r:Bool}(hk:vh sh xs ys r)
  (Pg:xp P t xs=.agg xs.toArray) (WU:xp P t ys=.agg ys.toArray) (X Y:Operand) :
  (do eqGuard op t X Y (.agg xs.toArray) (.agg ys.toArray);binOp op t (.agg xs.toArray) (.agg ys.toArray):Sem Value).run P w=.ok (.bool (if op=.eql then r else !r)) w:=by
 have e1:(eqGuard op t X Y (.agg xs.toArray) (.agg ys.toArray)).run P w=.ok () w:=by
  have hg:P.eqGuardType P.depth t=false:=by
   have:=gi (P:=P) d t sh (P.depth-d) Ge
   rwa [show d+(P.depth-d)=P.depth by omega] at this
  unfold eqGuard;rcases Zy with rfl|rfl<;>simp[hg]
 have e2:(Op.equalIn 10000 t (.agg xs.toArray) (.agg ys.toArray)).run P w=.ok r w:=by
  have:=gJ (P:=P) (w:=w) d t sh xs ys r (10000-d) Ge hk;rw[Pg,WU,show d+(10000-d)=10000 by omega] at this;exact this
 simp only[Sem.run_bind,e1,Result.andThen_ok];rcases Zy with rfl|rfl
 ·rw[run_eql_struct];simp[e2]
 ·rw[run_neq_struct];simp[e2]
end
end Go.Proofs.YtijddijloelacaaGreat.Am
namespace Go.Proofs.YtijddijloelacaaGreat.Am
variable [Inhabited cF]
open Go.RowKit (Below)
structure TI where
 agg:Bool
 size:Nat
 pE:List (Nat×Nat)
 aW:TypeId
 bN:Nat
 fk:Nat
 mz:Nat
 zero:List A
 kind:Nat
 ik:IntKind
 eqs:Option (List Nat)
 qn:List Nat
abbrev TT:=List (Nat×TI)

def ofConst:Value->A
 | .bool b=>.bool b
 | .int k n=>.int k n
 | .string s=>.str s.data.toList
 | .pointer none=>.iH
 | .slice none 0 0=>.aC
 | .nilFunc=>.bz
 | .map none=>.gO
 | _=>.aj
theorem fp(im:Nat->Prop)(w:World)(v:Value):aA im w (ofConst v) v:=by
 unfold ofConst;split<;>first|exact .aj _|skip
 ·exact .bool _
 ·exact .int _ _
 ·rename_i s;have:=aA.str (im:=im) (w:=w) s.data.toList;simpa using this
 ·exact .iH
 ·exact .aC
 ·exact .bz
 ·exact .gO

def fq:TypeDesc->Bool
 | .struct _=>true
 | .array _ _=>true
 | _=>false
def yU:Value->Bool
 | .agg _=>true
 | _=>false
def Bi(P:Program)(t:TypeId):Option TI :=
 match P.info? t,P.underlying t with
 | some i,some d =>
  match i.zero with
  | some z =>
   if (yU z==fq d)&&(z.cells.toList.all (·.oneCell')&&z.cells.size==i.size) then
    match d with
    | .struct fs=>if fs.toList.all (fun f=>((P.info? f.type).map (·.size)).getD 0 != 0) then
      some { agg:=true,size:=i.size,pE:=fs.toList.map fun f=>(f.offset,((P.info? f.type).map (·.size)).getD 0),aW:=0,bN:=0,fk:=0,mz:=0,zero:=z.cells.toList.map ofConst,kind:=1,ik:=.i64,eqs:=br P 6 t,qn:=fs.toList.map (·.type) } else none
    | .array n e=>match P.info? e with
     | some ie=>some { agg:=true,size:=i.size,pE:=[],aW:=e,bN:=ie.size,fk:=ie.bytes,mz:=n,zero:=z.cells.toList.map ofConst,kind:=2,ik:=.i64,eqs:=br P 6 t,qn:=[] }
     | none=>none
    | .slice e=>match P.info? e with
     | some ie=>match ie.zero with
      | some ze=>if ze.cells.size==ie.size&&ie.size != 0 then some { agg:=false,size:=i.size,pE:=[],aW:=e,bN:=ie.size,fk:=ie.bytes,mz:=0,zero:=z.cells.toList.map ofConst,kind:=3,ik:=.i64,eqs:=br P 6 t,qn:=[] } else none
      | none=>none
     | none=>none
    | .string=>some { agg:=false,size:=i.size,pE:=[],aW:=0,bN:=0,fk:=0,mz:=0,zero:=z.cells.toList.map ofConst,kind:=4,ik:=.i64,eqs:=br P 6 t,qn:=[] }
    | .int k=>some { agg:=false,size:=i.size,pE:=[],aW:=0,bN:=0,fk:=0,mz:=0,zero:=z.cells.toList.map ofConst,kind:=5,ik:=k,eqs:=br P 6 t,qn:=[] }
    | .bool=>some { agg:=false,size:=i.size,pE:=[],aW:=0,bN:=0,fk:=0,mz:=0,zero:=z.cells.toList.map ofConst,kind:=6,ik:=.i64,eqs:=br P 6 t,qn:=[] }
    | .map k e=>some { agg:=false,size:=i.size,pE:=[],aW:=e,bN:=0,fk:=0,mz:=k,zero:=z.cells.toList.map ofConst,kind:=7,ik:=.i64,eqs:=br P 6 t,qn:=[] }
    | .tuple _=>none
    | .named _ _=>none
    | .pointer _=>some { agg:=false,size:=i.size,pE:=[],aW:=0,bN:=0,fk:=0,mz:=0,zero:=z.cells.toList.map ofConst,kind:=8,ik:=.i64,eqs:=br P 6 t,qn:=[] }
    | .func _ _ _=>some { agg:=false,size:=i.size,pE:=[],aW:=0,bN:=0,fk:=0,mz:=0,zero:=z.cells.toList.map ofConst,kind:=9,ik:=.i64,eqs:=br P 6 t,qn:=[] }
    | _=>some { agg:=false,size:=i.size,pE:=[],aW:=0,bN:=0,fk:=0,mz:=0,zero:=z.cells.toList.map ofConst,kind:=0,ik:=.i64,eqs:=br P 6 t,qn:=[] }
   else none
  | none=>none
 | _,_=>none

def bM(P:Program)(tt:TT):Prop:=∀t ti,tt.lookup t=some ti->Bi P t=some ti
theorem bM.of_map{P:Program}{tt:TT}(h:tt.map (fun p=>Bi P p.1)=tt.map fun p=>some p.2):bM P tt:=by
 induction tt with
 | nil=>intro t ti h;cases h
 | cons p tt ih =>
  obtain⟨u,ui⟩:=p;simp only[List.map_cons,List.cons.injEq] at h;intro t ti hl;simp only[List.lookup_cons] at hl;split at hl
  ·rename_i he;cases hl;rw[eq_of_beq he];exact h.1
  ·exact ih h.2 t ti hl

def ev(s:List A):Operand->A
 | .tmp t=>s.getD t .aj
 | .const v=>ofConst v
 | .func f=>.fn f []
 | .global _=>.aj

section
variable {c:Ctx} {s:List A} {m:List ar} {a:Act} {w:World} {ids:dV} {P:Program}

theorem aJ.ev(hs:aJ c s m a w ids)(x:Operand):Rel ids (av c ids w) w (ev s x) (a.eval x):=by
 cases x with
 | tmp t =>
  show Rel ids _ w (s.getD t .aj) (a.tmps.getD t undef);by_cases h:t<s.length
  ·have h':t<a.tmps.size:=by rw[hs.len];exact h
   have:=hs.cc t h h';simpa[List.getD_eq_getElem?_getD,h,Array.getD_eq_getD_getElem?,h'] using this
  ·simp[List.getD_eq_getElem?_getD,List.getElem?_eq_none (Nat.le_of_not_lt h)];exact .aL (.aj _)
 | const v=>exact .aL (fp _ _ v)
 | global g=>exact .aL (.aj _)
 | func f=>exact .aL (.fn f [] [] rfl (fun j h=>absurd h (Nat.not_lt_zero _)))

theorem aJ.put(hs:aJ c s m a w ids)(d:Nat){x:A}{v:Value}(hv:Rel ids (av c ids w) w x v):aJ c (s.set d x) m (a.put (some d) v) w ids where
 defers:=hs.defers
 len:=by simp[Act.put,hs.len]
 cc:=by
  intro i h h';simp only[List.length_set] at h;have h2:i<a.tmps.size:=by rw[hs.len];exact h
  simp only[Act.put] at h' ⊢;rw[List.getElem_set,Array.getElem_setIfInBounds (by simpa using h2)];split
  ·exact hv
  ·exact hs.cc i h h2
 aU:=hs.aU
 bP:=hs.bP
 al:=hs.al
 au:=hs.au
 frame:=hs.frame
 fh:=hs.fh
 cV:=hs.cV

def bA(s:List A):Option Nat->A->List A
 | some d,x=>s.set d x
 | none,_=>s
theorem aJ.bA(hs:aJ c s m a w ids)(d:Option Nat){x:A}{v:Value}(hv:Rel ids (av c ids w) w x v):aJ c (bA s d x) m (a.put d v) w ids:=by
 cases d with
 | none=>exact hs
 | some d=>exact hs.put d hv
theorem bj{o:Oper}{next:Act->World->Prop}{Q:Exit->Act->World->Prop}{v:Value}{w':World}
  (h:(execOp a.eval o).run P w=.ok (.value v) w') (hn:next (a.put o.dst v) w'):o.wp P a w next Q:=by
 unfold Oper.wp;rw[h];exact hn
theorem iL{o:Oper}{next:Act->World->Prop}{Q:Exit->Act->World->Prop}{w':World}
  (h:(execOp a.eval o).run P w=.ok .skip w') (hn:next (a.put o.dst undef) w'):o.wp P a w next Q:=by
 unfold Oper.wp;rw[h];exact hn
end
section
variable {c:Ctx} {s:List A} {m:List ar} {a:Act} {w w':World} {ids ab:dV} {P:Program} {im bL:Nat->Prop}

theorem pj.mono(hi:∀b,im b->bL b)(hw:∀b,im b->w'.heap[b]?=w.heap[b]?){aW:TypeId}{sz n:Nat}{row:Nat->List A}{v:Value}{x:Option Nat}
  (hx:∀k,x=some k->w'.heap[k]?=w.heap[k]?) (h:pj im w aW sz n row v x):pj bL w' aW sz n row v x:=by
 rcases h with h|⟨q,cap,vs,h1,h2,h3,h4,h5,h6,h7,h8⟩
 ·exact .inl h
 ·exact .inr ⟨q,cap,vs,h1,h2,by rw[hx q h2];exact h3,h4,h5,h6,h7,fun i j cx h h'=>⟨(h8 i j cx h h').1.mono hi hw,(h8 i j cx h h').2⟩⟩

theorem Ga.up(hI:∀x v,aA im w x v->aA bL w' x v){agg:Bool}{sh:List KS}{has:List KC->Bool}{val:List KC->A}{r:Nat}(hr:w'.heap[r]?=w.heap[r]?)(h:Ga im w agg sh has val r):Ga bL w' agg sh has val r:=by
 obtain⟨es,clock,f,h1,h2,h3,h4,h5,h6⟩:=h;exact⟨es,clock,f,by rw[hr];exact h1,h2,h3,h4,fun i h=>hI _ _ (h5 i h),h6⟩
theorem nw(f:A->A){ty:TypeId}{agg:Bool}{sh:List KS}{n hi:Nat}{cs:List A}{kI:Nat->Nat}{has:Nat->List KC->Bool}{val:Nat->List KC->A}{p:Id}
  (hh:∀k,p.has k->w'.heap[k]?=w.heap[k]?) (hI:∀x v,aA im w x v->aA bL w' x v) (hf:∀x v,Rel ids im w x v->Rel ab bL w' (f x) v)
  (h:bq ids im w (.cZ ty agg sh n hi cs kI has val) (.lv p)):bq ab bL w' (.cZ ty agg sh n hi (cs.map f) kI has val) (.lv p):=by
 obtain⟨g1,g2,g3,vs,h1,h2,h3,h4,kb,h5⟩:=h;refine⟨g1,g2,g3,vs,by rw[hh _ (.inl rfl)];exact h1,h2,h3,fun j h h'=>?_,kb,fun i cx hv=>?_⟩
 ·rw[List.getElem_map];exact hf _ _ (h4 j (by simpa using h) h')
 ·obtain⟨k0,k1⟩:=h5 i cx hv;rw[List.length_map];refine⟨k0,fun hl=>⟨(k1 hl).1,fun e=>?_⟩⟩;obtain⟨q1,q2,q3,q4⟩:=(k1 hl).2 e;exact⟨q1,q2,q3.up hI (hh _ (.inr q2)),q4⟩
theorem rZ{ty:TypeId}{agg:Bool}{sh:List KS}{n hi:Nat}{cs:List A}{kI:Nat->Nat}{has:Nat->List KC->Bool}{val:Nat->List KC->A}{p:Id}
  (hh:∀k,p.has k->w'.heap[k]?=w.heap[k]?) (hI:∀x v,aA im w x v->aA bL w' x v) (hf:∀x v,Rel ids im w x v->Rel ab bL w' x v)
  (h:bq ids im w (.cZ ty agg sh n hi cs kI has val) (.lv p)):bq ab bL w' (.cZ ty agg sh n hi cs kI has val) (.lv p):=by
 have:=nw id hh hI hf h;rw[List.map_id] at this;exact this
theorem bq.mono(hi:∀b,im b->bL b)(hw:∀b,im b->w'.heap[b]?=w.heap[b]?)(hd:∀(b:Nat) p,ids[b]?=some p->p≠.dead->ab[b]?=some p)
  {x:ar} {p:eU} (hp:∀q,p=.lv q->∀k,q.has k->w'.heap[k]?=w.heap[k]?) (h:bq ids im w x p):bq ab bL w' x p:=by
 cases x with
 | dead=>exact h
 | gone=>exact h
 | box ty cs =>
  cases p with
  | dead=>exact h
  | aw=>exact h
  | bg=>exact h
  | cV vs=>exact h
  | lv q =>
   obtain⟨vs,h1,h2,h3,h4⟩:=h;exact⟨vs,by rw[hp _ rfl _ (.inl rfl)];exact h1,h2,h3,fun j h h'=>⟨(h4 j h h').1.mono hi hw hd,(h4 j h h').2⟩⟩
 | row ty sz n row =>
  cases p with
  | dead=>exact h
  | aw=>exact h
  | bg=>exact h
  | cV vs=>exact h
  | lv q =>
   obtain⟨g1,g2,vs,h1,h2,h3,h4,h5⟩:=h;exact⟨g1,g2,vs,by rw[hp _ rfl _ (.inl rfl)];exact h1,h2,h3,h4,fun i j cx h h'=>⟨(h5 i j cx h h').1.mono hi hw,(h5 i j cx h h').2⟩⟩
 | nest ty aW sz n hole len row =>
  cases p with
  | dead=>exact h
  | aw=>exact h
  | bg=>exact h
  | cV vs=>exact h
  | lv q =>
   obtain⟨g1,g2,g3,vs,h1,h2,h3,kb,h4⟩:=h;refine⟨g1,g2,g3,vs,by rw[hp _ rfl _ (.inl rfl)];exact h1,h2,h3,kb,fun i cx hh h=>?_⟩;obtain⟨k1,k2,k3⟩:=h4 i cx hh h;exact⟨k1.mono hi hw (fun x hx=>hp _ rfl _ (.inr (k2 x hx))),k2,k3⟩
 | fK agg sh has val =>
  cases p with
  | dead=>exact h
  | aw=>exact h
  | bg=>exact h
  | cV vs=>exact h
  | lv q =>
   obtain⟨es,clock,f,h1,h2,h3,h4,h5,h6⟩:=h;exact⟨es,clock,f,by rw[hp _ rfl _ (.inl rfl)];exact h1,h2,h3,h4,fun i h=>(h5 i h).mono hi hw,h6⟩
 | qm agg sh has val =>
  cases p with
  | dead=>exact h
  | aw=>exact h
  | bg=>exact h
  | cV vs=>exact h
  | lv q =>
   obtain⟨es,clock,f,h1,h2,h3,h4,h5,h6⟩:=h;exact⟨es,clock,f,by rw[hp _ rfl _ (.inl rfl)];exact h1,h2,h3,h4,fun i h=>(h5 i h).mono hi hw,h6⟩
 | Ie agg sh has val seen =>
  cases p with
  | dead=>exact h
  | aw=>exact h
  | bg=>exact h
  | cV vs=>exact h
  | lv q =>
   obtain⟨r,es,clock,f,sb,h1,h2,h3,h4,h5,h6,h7,h8⟩:=h;exact⟨r,es,clock,f,sb,by rw[hp _ rfl _ (.inl rfl)];exact h1,hi _ h2,by rw[hw _ h2];exact h3,h4,h5,h6,fun i h=>(h7 i h).mono hi hw,h8⟩
 | cZ ty agg sh n dH cs kI has val =>
  cases p with
  | dead=>exact h
  | aw=>exact h
  | bg=>exact h
  | cV vs=>exact h
  | lv q=>exact rZ (hp _ rfl) (fun _ _ h=>h.mono hi hw) (fun _ _ h=>h.mono hi hw hd) h
 | bW ty sz n Φ =>
  cases p with
  | dead=>exact h
  | aw=>exact h
  | bg=>exact h
  | cV vs=>exact h
  | lv q =>
   obtain⟨row,h0,g1,g2,vs,h1,h2,h3,h4,h5⟩:=h;exact⟨row,h0,g1,g2,vs,by rw[hp _ rfl _ (.inl rfl)];exact h1,h2,h3,h4,fun i j cx h h'=>⟨(h5 i j cx h h').1.mono hi hw,(h5 i j cx h h').2⟩⟩
 | ghost cs =>
  cases p with
  | dead=>exact h
  | aw=>exact h
  | bg=>exact h
  | lv q=>exact h
  | cV vs=>exact⟨h.1,fun j h1 h2=>(h.2 j h1 h2).mono hi hw hd⟩

theorem cU(hs:aJ c s m a w ids){b:Nat}(h:av c ids w b):b<w.heap.size:=by
 rcases h with h|⟨_,h,_⟩
 ·exact Nat.lt_of_lt_of_le (hs.fh b h).1 hs.frame.size
 ·exact h

theorem aJ.grow(hs:aJ c s m a w ids)(hw:Bw w.heap.size w w')(bs:List ar)(js:dV)(hl:js.length=bs.length)
  (hb:∀i (h:i<bs.length) (h':i<js.length),bq (ids++js) (av c (ids++js) w') w' bs[i] js[i])
  (hf:∀p,eU.lv p∈js->∀x,p.has x->w.heap.size<=x/\x<w'.heap.size)
  (hg:∀vs,eU.cV vs∉js)
  (hd:∀(i j:Nat) p q x,js[i]?=some (.lv p)->js[j]?=some (.lv q)->p.has x->q.has x->i=j):aJ c s (m++bs) a w' (ids++js):=by
 have hi:∀b,av c ids w b->av c (ids++js) w' b:=by
  intro b h;rcases h with h|⟨h1,h2,h3⟩
  ·exact .inl h
  ·refine .inr ⟨h1,Nat.lt_of_lt_of_le h2 hw.size,fun p hp=>?_⟩;rcases List.mem_append.1 hp with hp|hp
   ·exact h3 p hp
   ·intro hx;have:=(hf p hp b hx).1;omega
 have hh:∀b,av c ids w b->w'.heap[b]?=w.heap[b]?:=fun b h=>hw.block b (cU hs h)
 have hx:∀(b:Nat) p,ids[b]?=some p->p≠.dead->(ids++js)[b]?=some p:=by
  intro b p h _
  have:b<ids.length:=by
   rcases Nat.lt_or_ge b ids.length with h'|h'
   ·exact h'
   ·rw[List.getElem?_eq_none h'] at h;cases h
  rw[List.getElem?_append_left this];exact h
 refine⟨hs.defers,hs.len,fun i h h'=>(hs.cc i h h').mono hi hh hx,by simp[hs.aU,hl],?_,?_,?_,?_,hs.fh,?_⟩
 ·intro b h h';by_cases aH:b<m.length
  ·have h1:b<ids.length:=by rw[hs.aU];exact aH
   rw[List.getElem_append_left aH,List.getElem_append_left h1];refine(hs.bP b aH h1).mono hi hh hx ?_;intro q hq k hk;exact hw.block _ (hs.au q (by rw[<-hq];exact List.getElem_mem _) k hk).2
  ·have h1:ids.length<=b:=by rw[hs.aU];omega
   rw[List.getElem_append_right (by omega),List.getElem_append_right h1];have:=hb (b-m.length) (by simp at h;omega) (by simp at h';rw[hs.aU] at h';omega);have he:b-ids.length=b-m.length:=by rw[hs.aU]
   simpa only[he] using this
 ·intro i j p q x h1 h2 h3 Gf;rcases Nat.lt_or_ge i ids.length with cx|cx<;>rcases Nat.lt_or_ge j ids.length with cH|cH
  ·rw[List.getElem?_append_left cx] at h1;rw[List.getElem?_append_left cH] at h2;exact hs.al i j p q x h1 h2 h3 Gf
  ·rw[List.getElem?_append_left cx] at h1;rw[List.getElem?_append_right cH] at h2;have a1:=(hs.au p (List.mem_of_getElem? h1) x h3).2;have a2:=(hf q (List.mem_of_getElem? h2) x Gf).1;omega
  ·rw[List.getElem?_append_right cx] at h1;rw[List.getElem?_append_left cH] at h2;have a1:=(hs.au q (List.mem_of_getElem? h2) x Gf).2;have a2:=(hf p (List.mem_of_getElem? h1) x h3).1;omega
  ·rw[List.getElem?_append_right cx] at h1;rw[List.getElem?_append_right cH] at h2;have:=hd _ _ p q x h1 h2 h3 Gf;omega
 ·intro p hp x hx;rcases List.mem_append.1 hp with hp|hp
  ·have:=hs.au p hp x hx;exact⟨this.1,Nat.lt_of_lt_of_le this.2 hw.size⟩
  ·have:=hf p hp x hx;exact⟨.inl (Nat.le_trans hs.frame.size this.1),this.2⟩
 ·exact hs.frame.trans (hw.mono hs.frame.size)
 ·intro vs h;rcases List.mem_append.1 h with h|h
  ·exact hs.cV vs h
  ·exact absurd h (hg vs)

/-- A world that only counts draws, and nothing of ours. -/
theorem aJ.same(hs:aJ c s m a w ids)(hw:Bw w.heap.size w w'):aJ c s m a w' ids:=by
 have:=hs.grow hw [] [] rfl (fun i h=>absurd h (Nat.not_lt_zero _)) (fun p h=>by cases h) (fun vs h=>by cases h) (fun i j p q x h=>by simp at h);simpa using this

theorem kM(w:World)(o:Obj):Bw w.heap.size w (w.alloc o):=by
 have h:=(Below.refl w.heap.size w).alloc (Nat.le_refl _) o;exact⟨h.os,h.tape,h.output,h.size,h.block,fL.refl _⟩
/-- A new block of cells. -/
theorem aJ.alloc(hs:aJ c s m a w ids)(x:ar)(vs:Array Value)(ty:TypeId)(n sz:Nat)
  (hx:∀ab bL w',(∀b,av c ids w b->bL b)->(∀b,av c ids w b->w'.heap[b]?=w.heap[b]?)->(∀(b:Nat) p,ids[b]?=some p->p≠.dead->ab[b]?=some p) ->
   w'.heap[w.heap.size]?=some (.cells vs ty (0,0))->bq ab bL w' x (.lv (mkId w.heap.size vs.size n sz))) :
  aJ c s (m++[x]) a (w.alloc (.cells vs ty)) (ids++[.lv (mkId w.heap.size vs.size n sz)]):=by
 have hb:=kM w (.cells vs ty);refine hs.grow hb [x] [.lv (mkId w.heap.size vs.size n sz)] rfl ?_ ?_ (fun vs h=>by simp at h) ?_
 ·intro i h h';have:i=0:=by simp at h;omega
  subst this;refine hx _ _ _ ?_ ?_ ?_ ?_
  ·intro b h;have aH:=cU hs h;rcases h with h|⟨h1,h2,h3⟩
   ·exact .inl h
   ·refine .inr ⟨h1,Nat.lt_of_lt_of_le h2 hb.size,fun p hp=>?_⟩;rcases List.mem_append.1 hp with hp|hp
    ·exact h3 p hp
    ·simp at hp;subst hp;intro hx;have:=cQ hx;omega
  ·exact fun b h=>hb.block b (cU hs h)
  ·intro b p h _
   have:b<ids.length:=by
    rcases Nat.lt_or_ge b ids.length with h'|h'
    ·exact h'
    ·rw[List.getElem?_eq_none h'] at h;cases h
   rw[List.getElem?_append_left this];exact h
  ·show(w.heap.push _)[w.heap.size]?=_;simp
 ·intro p hp x hx;simp at hp;subst hp;have:=cQ hx;subst this;show w.heap.size<=w.heap.size/\w.heap.size<(w.heap.push _).size;simp
 ·intro i j p q x h1 h2 h3 Gf
  have e1:i=0:=by
   rcases Nat.eq_zero_or_pos i with h|h
   ·exact h
   ·rw[List.getElem?_eq_none (by simp;omega)] at h1;cases h1
  have e2:j=0:=by
   rcases Nat.eq_zero_or_pos j with h|h
   ·exact h
   ·rw[List.getElem?_eq_none (by simp;omega)] at h2;cases h2
  omega
end
section
variable {c:Ctx} {s:List A} {m:List ar} {a:Act} {w w':World} {ids ab:dV} {P:Program} {im bL:Nat->Prop}

/-- A block of ours is written. -/
theorem aJ.setRow(hs:aJ c s m a w ids)(b:Nat)(p:Id)(cD:ids[b]?=some (.lv p))(x:ar)(Ke vs:Array Value)(ty:TypeId)
  (hold:w.heap[p.aq]?=some (.cells Ke ty (0,0)))
  (hx:(w.setRow p.aq vs).heap[p.aq]?=some (.cells vs ty (0,0))->(∀a v,Rel ids (av c ids w) w a v->Rel ids (av c ids (w.setRow p.aq vs)) (w.setRow p.aq vs) a v) ->
   (∀a v,aA (av c ids w) w a v->aA (av c ids (w.setRow p.aq vs)) (w.setRow p.aq vs) a v) ->
   bq ids (av c ids (w.setRow p.aq vs)) (w.setRow p.aq vs) x (.lv p)) :
  aJ c s (m.set b x) a (w.setRow p.aq vs) ids:=by
 have cj:(w.setRow p.aq vs).heap.size=w.heap.size:=by simp[World.setRow]
 have k9:eU.lv p∈ids:=List.mem_of_getElem? cD;have Ih:=hs.fresh _ k9
 have hnim:∀b',av c ids w b'->b'≠p.aq:=by
  intro b' h;rcases h with h|⟨_,_,h3⟩
  ·rintro rfl;exact hs.rX h Ih.1
  ·exact fun e=>h3 _ k9 (.inl e)
 have pk:∀b',av c ids w b'->av c ids (w.setRow p.aq vs) b':=by
  intro b' h;rcases h with h|⟨h1,h2,h3⟩
  ·exact .inl h
  ·exact .inr ⟨h1,by rw[cj];exact h2,h3⟩
 have hh:∀b',av c ids w b'->(w.setRow p.aq vs).heap[b']?=w.heap[b']?:=fun b' h=>setRow_other w p.aq b' vs (hnim b' h)
 have hrel:∀a v,Rel ids (av c ids w) w a v->Rel ids (av c ids (w.setRow p.aq vs)) (w.setRow p.aq vs) a v :=
  fun a v h=>h.mono pk hh (fun _ _ h _=>h)
 refine⟨hs.defers,hs.len,fun i h h'=>hrel _ _ (hs.cc i h h'),by simp[hs.aU],?_,hs.al,?_,?_,hs.fh,hs.cV⟩
 ·intro i h h';simp only[List.length_set] at h;rw[List.getElem_set];split
  ·rename_i he;subst he
   have:ids[b]=.lv p:=by
    rw[List.getElem?_eq_getElem h'] at cD;exact Option.some.inj cD
   rw[this];exact hx (setRow_heap w p.aq Ke vs ty _ hold) hrel (fun a v h=>h.mono pk hh)
  ·rename_i he;refine(hs.bP i h h').mono pk hh (fun _ _ h _=>h) ?_;intro q hq k hk;refine setRow_other w p.aq _ vs ?_;intro e;exact he (hs.al b i p q k cD (by rw[List.getElem?_eq_getElem h',hq]) (.inl e) hk)
 ·intro p' hp x hx;rw[cj];exact hs.au p' hp x hx
 ·refine hs.frame.go rfl rfl rfl (by rw[cj];exact Nat.le_refl _) (fun k hk hm=>setRow_other w p.aq k vs ?_);rintro rfl;rcases Ih.1 with h|h
  ·omega
  ·exact hm h

theorem aJ.fu(hs:aJ c s m a w ids){b:Nat}{p:Id}(cD:ids[b]?=some (.lv p)):∃x,m[b]?=some x/\bq ids (av c ids w) w x (.lv p):=by
 have h:b<ids.length:=by
  rcases Nat.lt_or_ge b ids.length with h'|h'
  ·exact h'
  ·rw[List.getElem?_eq_none h'] at cD;cases cD
 have h2:b<m.length:=by rw[<-hs.aU];exact h
 refine⟨m[b],List.getElem?_eq_getElem h2,?_⟩;have:=hs.bP b h2 h;rw[List.getElem?_eq_getElem h] at cD;rw[<-Option.some.inj cD];exact this
end
def fv(a:A)(K:A->Prop):Prop :=
 match a with
 | .int k n=>K (.int k n)
 | .bool b=>K (.bool b)
 | .sb b=>K (.sb b)
 | .str s=>K (.str s)
 | .iH=>K .iH
 | .ref b o=>K (.ref b o)
 | .oref b i o=>K (.oref b i o)
 | .bref c o=>K (.bref c o)
 | .aC=>K .aC
 | .sl n z r=>K (.sl n z r)
 | .own b=>K (.own b)
 | .agg c=>K (.agg c)
 | .tup c=>K (.tup c)
 | .fn f c=>K (.fn f c)
 | .bz=>K .bz
 | .gO=>K .gO
 | .mv g n k v=>K (.mv g n k v)
 | .omap b=>K (.omap b)
 | .tf b k=>K (.tf b k)
 | .pe b k=>K (.pe b k)
 | .aj=>K .aj
theorem dL(a:A)(K:A->Prop):fv a K=K a:=by cases a<;>rfl
def fl:List A->(List A->Prop)->Prop
 | [],K=>K []
 | a::as,K=>fv a fun a'=>fl as fun j0=>K (a'::j0)
theorem cI:∀(l:List A) (K:List A->Prop),fl l K=K l
 | [],_=>rfl
 | a::as,K=>by simp only[fl,dL,cI as]
def yV:List A->Nat->A->(List A->Prop)->Prop
 | [],_,_,K=>K []
 | _::xs,0,v,K=>K (v::xs)
 | x::xs,i+1,v,K=>yV xs i v fun ys=>K (x::ys)
theorem ij:∀(l:List A) (i:Nat) (v:A) (K:List A->Prop),yV l i v K=K (l.set i v)
 | [],_,_,_=>rfl
 | _::_,0,_,_=>rfl
 | x::xs,i+1,v,K=>by simp only[yV,ij xs,List.set_cons_succ]
def r8:List ar->Nat->ar->(List ar->Prop)->Prop
 | [],_,_,K=>K []
 | _::xs,0,v,K=>K (v::xs)
 | x::xs,i+1,v,K=>r8 xs i v fun ys=>K (x::ys)
theorem fM:∀(l:List ar) (i:Nat) (v:ar) (K:List ar->Prop),r8 l i v K=K (l.set i v)
 | [],_,_,_=>rfl
 | _::_,0,_,_=>rfl
 | x::xs,i+1,v,K=>by simp only[r8,fM xs,List.set_cons_succ]
def Ii:List ar->ar->(List ar->Prop)->Prop
 | [],v,K=>K [v]
 | x::xs,v,K=>Ii xs v fun ys=>K (x::ys)
theorem uA:∀(l:List ar) (v:ar) (K:List ar->Prop),Ii l v K=K (l++[v])
 | [],_,_=>rfl
 | x::xs,v,K=>by simp only[Ii,uA xs,List.cons_append]
def dP(n:Nat)(K:Nat->Prop):Prop :=
 match n with
 | 0=>K 0|1=>K 1|2=>K 2|3=>K 3|4=>K 4|5=>K 5|6=>K 6|7=>K 7|8=>K 8|9=>K 9
 | 10=>K 10|11=>K 11|12=>K 12|13=>K 13|14=>K 14|15=>K 15|16=>K 16|17=>K 17|18=>K 18|19=>K 19
 | n+20=>K (n+20)
theorem aX(n:Nat)(K:Nat->Prop):dP n K=K n:=by
 unfold dP;split<;>rfl
def nc(m:List ar)(x:ar)(K:Nat->List ar->Prop):Prop:=dP m.length fun n=>Ii m x fun m'=>K n m'
theorem gj(m:List ar)(x:ar)(K:Nat->List ar->Prop):nc m x K=K m.length (m++[x]):=by
 simp only[nc,aX,uA]
def il:Nat->List A->List A
 | 0,_=>[]
 | _,[]=>[]
 | n+1,x::xs=>x::il n xs
theorem lH:∀(n:Nat) (l:List A),il n l=l.take n
 | 0,l=>by simp[il]
 | n+1,[]=>by simp[il]
 | n+1,x::xs=>by simp[il,lH n xs]

/-- One cell: neither parts nor a value of which nothing is known. -/
def one:A->Bool
 | .agg _=>false
 | .tup _=>false
 | .aj=>false
 | _=>true
/-- The cells of a value. -/
def mA:A->Option (List A)
 | .agg cs=>some cs
 | .tup _=>none
 | .aj=>none
 | v=>some [v]

def cY:Nat->A->Bool
 | 0,_=>true
 | d+1,x=>match x with
  | .ref _ _=>true
  | .oref _ _ _=>true
  | .own _=>true
  | .omap _=>true
  | .tf _ _=>true
  | .pe _ _=>true
  | .agg cs=>cs.any (cY d)
  | .tup cs=>cs.any (cY d)
  | .fn _ cs=>cs.any (cY d)
  | _=>false

abbrev KT:=A->List ar->Prop

def Kf(agg:Bool)(size:Nat)(cs:List A)(off:Nat)(K:A->Prop):Prop :=
 match agg with
 | true=>match Nat.ble (off+size) cs.length with
  | true=>fl (il size (cs.drop off)) fun c=>K (.agg c)
  | false=>False
 | false=>match Nat.blt off cs.length with
  | true=>fv (cs.getD off .aj) K
  | false=>False
def th(cs:List A)(off:Nat)(vs:List A):List A:=cs.take off++vs++cs.drop (off+vs.length)
def bZ(row:Nat->List A)(i:Nat)(cs:List A):Nat->List A:=fun j=>if j=i then cs else row j
def O1(size:Nat)(cs:List A)(off:Nat)(v:A)(K:List A->Prop):Prop :=
 match mA v with
 | some vs=>match Nat.beq vs.length size,Nat.ble (off+size) cs.length with
  | true,true=>fl (th cs off vs) K
  | _,_=>False
 | none=>False

def nd(tt:TT)(t:TypeId)(p:A)(m:List ar)(K:KT):Prop :=
 match tt.lookup t with
 | none=>False
 | some ti=>match p with
  | .ref b off=>match m.getD b .dead with
   | .box _ cs=>Kf ti.agg ti.size cs off fun v=>K v m
   | _=>False
  | .oref b i off=>match m.getD b .dead with
   | .row _ _ n row=>i<n/\fl (row i) fun cs=>Kf ti.agg ti.size cs off fun v=>K v m
   | _=>False
  | .bref cs off=>Kf ti.agg ti.size cs off fun v=>K v m
  | _=>False
def vj(tt:TT)(t:TypeId)(p v:A)(m:List ar)(K:KT):Prop :=
 match tt.lookup t with
 | none=>False
 | some ti=>match p with
  | .ref b off=>match m.getD b .dead with
   | .box ty cs=>O1 ti.size cs off v fun dz=>r8 m b (.box ty dz) fun m'=>K .aj m'
   | _=>False
  | .oref b i off=>match m.getD b .dead with
   | .row ty sz n row=>match cY 4 v with
    | false=>i<n/\fl (row i) fun cs=>O1 ti.size cs off v fun dz=>r8 m b (.row ty sz n (bZ row i dz)) fun m'=>K .aj m'
    | true=>False
   | _=>False
  | _=>False
def iM(tt:TT)(t:TypeId)(p:A)(f:Nat)(m:List ar)(K:KT):Prop :=
 match tt.lookup t with
 | none=>False
 | some ti=>match ti.kind with
  | 1=>match ti.pE[f]? with
   | none=>False
   | some (fo,_)=>match p with
    | .ref b off=>dP (off+fo) fun o=>K (.ref b o) m
    | .oref b i off=>dP (off+fo) fun o=>K (.oref b i o) m
    | .bref cs off=>dP (off+fo) fun o=>K (.bref cs o) m
    | _=>False
  | _=>False
def fz(tt:TT)(t:TypeId)(p ix:A)(m:List ar)(K:KT):Prop :=
 match tt.lookup t with
 | none=>False
 | some ti=>match ti.kind,ix with
  | 3,.int _ i=>match p with
   | .sl n sz row=>match Nat.beq sz ti.bN with
    | true=>(0<=i/\i<(n:Int))/\fl (row i.toNat) fun cs=>K (.bref cs 0) m
    | false=>False
   | .own b=>match m.getD b .dead with
    | .row _ sz n _=>match Nat.beq sz ti.bN with
     | true=>(0<=i/\i<(n:Int))/\K (.oref b i.toNat 0) m
     | false=>False
    | _=>False
   | _=>False
  | 2,.int _ i=>match p with
   | .ref b off=>(0<=i/\i<(ti.mz:Int))/\dP (off+i.toNat*ti.bN) fun o=>K (.ref b o) m
   | .bref cs off=>(0<=i/\i<(ti.mz:Int))/\dP (off+i.toNat*ti.bN) fun o=>K (.bref cs o) m
   | _=>False
  | _,_=>False
def placeOf(ti:TI)(i:Nat):Option (Nat×Nat) :=
 match ti.kind with
 | 1=>ti.pE[i]?
 | _=>some (i*ti.bN,ti.bN)
def pF(ti:TI):List (Nat×A)->List A->(List A->Prop)->Prop
 | [],cs,K=>K cs
 | (i,v)::ps,cs,K=>match placeOf ti i,mA v with
  | some (off,size),some vs=>match Nat.beq vs.length size,Nat.ble (off+size) cs.length with
   | true,true=>fl (th cs off vs) fun dz=>pF ti ps dz K
   | _,_=>False
  | _,_=>False
def r9(tt:TT)(t:TypeId)(parts:List (Nat×A))(m:List ar)(K:KT):Prop :=
 match tt.lookup t with
 | none=>False
 | some ti=>match ti.kind with
  | 1=>pF ti parts ti.zero fun cs=>K (.agg cs) m
  | 2=>pF ti parts ti.zero fun cs=>K (.agg cs) m
  | _=>False
def Tk(t:TypeId)(v:A)(m:List ar)(K:KT):Prop :=
 match mA v with
 | some cs=>nc m (.box t cs) fun b m'=>K (.ref b 0) m'
 | none=>False
def Ee(tt:TT)(t:TypeId)(m:List ar)(K:KT):Prop :=
 match tt.lookup t with
 | some ti=>nc m (.box t ti.zero) fun b m'=>K (.ref b 0) m'
 | none=>False
/-- A number that is wrapped, unless it is known to fit. -/
@[irreducible] def WR (k:IntKind) (n:Int) (K:A->Prop):Prop:=(k.wrap n=n/\K (.int k n))\/K (.int k (k.wrap n))
theorem nz{k:IntKind}{n:Int}{K:A->Prop}(h:WR k n K):K (.int k (k.wrap n)):=by
 unfold WR at h;rcases h with⟨h1,h2⟩|h
 ·rw[h1];exact h2
 ·exact h
theorem bB{k:IntKind}{n:Int}{K:A->Prop}(h1:k.wrap n=n)(h2:K (.int k n)):WR k n K:=by unfold WR;exact .inl ⟨h1,h2⟩
theorem aY{k:IntKind}{n:Int}{K:A->Prop}(h:K (.int k (k.wrap n))):WR k n K:=by unfold WR;exact .inr h
theorem bC{n:Int}(h : -9223372036854775808<=n/\n<=9223372036854775807):IntKind.i64.wrap n=n:=by rw[IntKind.wrap_i64];omega
theorem aV{n:Int}(h:0<=n/\n<=18446744073709551615):IntKind.u64.wrap n=n:=by rw[IntKind.wrap_u64];omega
theorem cy{n:Int}(h:0<=n/\n<=255):IntKind.u8.wrap n=n:=by rw[IntKind.wrap_u8];omega
def qo(op:BinOp)(k:IntKind)(a b:Int)(K:A->Prop):Prop :=
 match op with
 | .add=>WR k (a+b) K
 | .sub=>WR k (a-b) K
 | .mul=>WR k (a*b) K
 | .quo=>b≠0/\WR k (a.tdiv b) K
 | .rem=>b≠0/\K (.int k (a.tmod b))
 | .and=>K (.int k (k.wrap (BitVec.ofInt k.bits a &&& BitVec.ofInt k.bits b).toNat))
 | .or=>K (.int k (k.wrap (BitVec.ofInt k.bits a ||| BitVec.ofInt k.bits b).toNat))
 | .xor=>K (.int k (k.wrap (BitVec.ofInt k.bits a ^^^ BitVec.ofInt k.bits b).toNat))
 | .andNot=>K (.int k (k.wrap (BitVec.ofInt k.bits a &&& ~~~BitVec.ofInt k.bits b).toNat))
 | .eql=>K (.sb (a==b))
 | .neq=>K (.sb (a != b))
 | .lss=>K (.sb (decide (a<b)))
 | .leq=>K (.sb (decide (a<=b)))
 | .gtr=>K (.sb (decide (b<a)))
 | .geq=>K (.sb (decide (b<=a)))
 | _=>False
def qp(op:BinOp)(a b:List UInt8)(K:A->Prop):Prop :=
 match op with
 | .add=>a.length+b.length<=9223372036854775807/\K (.str (a++b))
 | .eql=>K (.sb (a==b))
 | .neq=>K (.sb !(a==b))
 | .lss=>K (.sb (Op.bytesLess a b))
 | .leq=>K (.sb (Op.bytesLess a b||a==b))
 | .gtr=>K (.sb !(Op.bytesLess a b||a==b))
 | .geq=>K (.sb !(Op.bytesLess a b))
 | _=>False
def vk(op:BinOp)(k:IntKind)(a b:Int)(K:A->Prop):Prop :=
 match op with
 | .shl=>0<=b/\WR k (a*2 ^ (min b.toNat k.bits)) K
 | .shr=>0<=b/\K (.int k (a.fdiv (2 ^ (min b.toNat k.bits))))
 | _=>False
def Ph:BinOp->Bool
 | .shl=>true
 | .shr=>true
 | _=>false
def nA:IntKind->IntKind->Bool
 | .i8,.i8=>true|.i16,.i16=>true|.i32,.i32=>true|.i64,.i64=>true
 | .u8,.u8=>true|.u16,.u16=>true|.u32,.u32=>true|.u64,.u64=>true
 | _,_=>false
theorem j6{a b:IntKind}:nA a b=true↔a=b:=by cases a<;>cases b<;>simp[nA]
def Sb:A->Option Bool
 | .bool b=>some b
 | .sb b=>some b
 | _=>none
def Ba:List Nat->List A->List A->(Bool->Prop)->Prop
 | [],[],[],K=>K true
 | k::ks,x::xs,y::ys,K=>match k with
  | 5=>match x,y with
   | .int p a,.int q b=>match nA p q with
    | true=>Ba ks xs ys fun r=>K (a==b&&r)
    | false=>False
   | _,_=>False
  | 6=>match Sb x,Sb y with
   | some a,some b=>Ba ks xs ys fun r=>K (a==b&&r)
   | _,_=>False
  | 4=>match x,y with
   | .str a,.str b=>Ba ks xs ys fun r=>K (a==b&&r)
   | _,_=>False
  | _=>False
 | _,_,_,_=>False
/-- Is a pointer, or a map, nil? The type's kind, and the answer. -/
def Tl:A->A->Option (Nat×Bool)
 | .iH,.iH=>some (8,true)
 | .ref _ _,.iH=>some (8,false)
 | .oref _ _ _,.iH=>some (8,false)
 | .bref _ _,.iH=>some (8,false)
 | .gO,.gO=>some (7,true)
 | .omap _,.gO=>some (7,false)
 | .mv _ _ _ _,.gO=>some (7,false)
 | .bz,.bz=>some (9,true)
 | .fn _ _,.bz=>some (9,false)
 | _,_=>none
def Kg(tt:TT)(t:TypeId)(op:BinOp)(x y:A)(K:A->Prop):Prop :=
 match x,y with
 | .int k a,.int k' b=>match Ph op with
  | true=>vk op k a b K
  | false=>match nA k k' with
   | true=>qo op k a b K
   | false=>False
 | .str a,.str b=>qp op a b K
 | .agg cs,.agg dz=>match tt.lookup t with
  | some ti=>match ti.agg,ti.eqs,op with
   | true,some sh,.eql=>Ba sh cs dz fun r=>K (.sb r)
   | true,some sh,.neq=>Ba sh cs dz fun r=>K (.sb !r)
   | _,_,_=>False
  | none=>False
 | x,y=>match Tl x y with
  | some (k,b)=>match tt.lookup t with
   | some ti=>match Nat.beq ti.kind k,op with
    | true,.eql=>K (.bool b)
    | true,.neq=>K (.bool !b)
    | _,_=>False
   | none=>False
  | none=>match Sb x,Sb y,tt.lookup t with
   | some a,some b,some ti=>match ti.kind,op with
    | 6,.eql=>K (.sb (a==b))
    | 6,.neq=>K (.sb !(a==b))
    | _,_=>False
   | _,_,_=>False
def WV(op:UnOp)(x:A)(K:A->Prop):Prop :=
 match op,x with
 | .not,.bool b=>K (.bool !b)
 | .not,.sb b=>K (.sb !b)
 | .neg,.int k n=>WR k (-n) K
 | _,_=>False
def Zz(x y:A)(K:A->Prop):Prop :=
 match x,y with
 | .int k a,.int _ b=>K (.int k (if b<a then b else a))
 | _,_=>False
def ZA(x y:A)(K:A->Prop):Prop :=
 match x,y with
 | .int k a,.int _ b=>K (.int k (if a<b then b else a))
 | _,_=>False
def Bj(tt:TT)(t:TypeId)(x:A)(m:List ar)(K:A->Prop):Prop :=
 match tt.lookup t with
 | none=>False
 | some ti=>match ti.kind,x with
  | 3,.sl n _ _=>K (.int .i64 n)
  | 3,.own b=>match m.getD b .dead with
   | .row _ _ n _=>K (.int .i64 n)
   | _=>False
  | 3,.aC=>K (.int .i64 0)
  | 4,.str s=>K (.int .i64 s.length)
  | _,_=>False
def nB(x:A)(ix:Nat)(K:A->Prop):Prop :=
 match x with
 | .tup vs=>match Nat.blt ix vs.length with
  | true=>fv (vs.getD ix .aj) K
  | false=>False
 | _=>False
def Kh(x:A)(K:A->Prop):Prop :=
 match x with
 | .ref b o=>K (.ref b o)
 | .oref b i o=>K (.oref b i o)
 | .bref cs o=>K (.bref cs o)
 | .fn f cs=>K (.fn f cs)
 | _=>False
def fik(k:IntKind)(K:IntKind->Prop):Prop :=
 match k with
 | .i8=>K .i8|.i16=>K .i16|.i32=>K .i32|.i64=>K .i64
 | .u8=>K .u8|.u16=>K .u16|.u32=>K .u32|.u64=>K .u64
theorem Ki(k:IntKind)(K:IntKind->Prop):fik k K=K k:=by cases k<;>rfl
def xM(tt:TT)(src dst:TypeId)(x:A)(K:A->Prop):Prop :=
 match tt.lookup src,tt.lookup dst with
 | some _,some ti=>match ti.kind,x with
  | 5,.int _ n=>fik ti.ik fun k=>WR k n K
  | 4,.str s=>K (.str s)
  | _,_=>False
 | _,_=>False
def vl(tt:TT)(t:TypeId)(x ix:A)(K:A->Prop):Prop :=
 match tt.lookup t,ix with
 | some ti,.int _ i=>match ti.kind,x with
  | 4,.str s=>(0<=i/\i<(s.length:Int))/\K (.int .u8 ((s.getD i.toNat 0).toNat:Int))
  | 2,.agg cs=>match tt.lookup ti.aW with
   | some te=>(0<=i/\i<(ti.mz:Int))/\Kf te.agg te.size cs (i.toNat*ti.bN) K
   | none=>False
  | _,_=>False
 | _,_=>False
def vm(tt:TT)(t:TypeId)(x:A)(f:Nat)(K:A->Prop):Prop :=
 match tt.lookup t with
 | none=>False
 | some ti=>match ti.kind,ti.pE[f]?,ti.qn[f]?,x with
  | 1,some (fo,_),some ft,.agg cs=>match tt.lookup ft with
   | some te=>Kf te.agg te.size cs fo K
   | none=>False
  | _,_,_,_=>False
def Bk(x y z:A)(K:A->Prop):Prop :=
 match x with
 | .bool true=>fv y K
 | .bool false=>fv z K
 | .sb b=>(b=true->fv y K)/\(b=false->fv z K)
 | _=>False
section
variable {c:Ctx} {s:List A} {m:List ar} {a:Act} {w w':World} {ids ab:dV} {P:Program} {im bL:Nat->Prop} {tt:TT}
variable {next:Act->World->Prop} {Q:Exit->Act->World->Prop}

theorem Ef{op:BinOp}{k:IntKind}{x y:Int}{t t':TypeId}{X Y:Operand}{o:Oper}{ρ:Operand->Value}(ho:o.op=.binOp op t X Y t')(hx:ρ X=.int k x)(hy:ρ Y=.int k y){K:A->Prop}
  (h:qo op k x y K):∃r v,(execOp ρ o).run P w=.ok (.value v) w/\K r/\Rel ids im w r v:=by
 have e1:(execOp ρ o)=(do let z <-(do eqGuard op t X Y (.int k x) (.int k y);binOp op t (.int k x) (.int k y));pure (.value z)):=by
  unfold execOp;rw[ho];simp only[hx,hy]
 have e2:(eqGuard op t X Y (.int k x) (.int k y)).run P w=.ok () w:=by
  unfold eqGuard;cases op<;>rfl
 rw[e1];cases op<;>simp only[qo] at h<;>first|exact h.elim|skip
 case quo =>
  refine⟨_,.int k (k.wrap (x.tdiv y)),?_,nz h.2,.aL (.int _ _)⟩;simp[e2,binOp,Op.intDiv,h.1]
 case rem =>
  refine⟨_,.int k (x.tmod y),?_,h.2,.aL (.int _ _)⟩;simp[e2,binOp,Op.intDiv,h.1]
 case eql=>exact⟨_,.bool (x==y),by simp[e2,binOp,Op.intCmp],h,.aL (.sb _)⟩
 case neq=>exact⟨_,.bool (x != y),by simp[e2,binOp,Op.intCmp],h,.aL (.sb _)⟩
 case lss=>exact⟨_,.bool (decide (x<y)),by simp[e2,binOp,Op.intCmp],h,.aL (.sb _)⟩
 case leq=>exact⟨_,.bool (decide (x<=y)),by simp[e2,binOp,Op.intCmp],h,.aL (.sb _)⟩
 case gtr=>exact⟨_,.bool (decide (y<x)),by simp[e2,binOp,Op.intCmp],h,.aL (.sb _)⟩
 case geq=>exact⟨_,.bool (decide (y<=x)),by simp[e2,binOp,Op.intCmp],h,.aL (.sb _)⟩
 case add=>exact⟨_,.int k (k.wrap (x+y)),by simp[e2,binOp,Op.intArith],nz h,.aL (.int _ _)⟩
 case sub=>exact⟨_,.int k (k.wrap (x-y)),by simp[e2,binOp,Op.intArith],nz h,.aL (.int _ _)⟩
 case mul=>exact⟨_,.int k (k.wrap (x*y)),by simp[e2,binOp,Op.intArith],nz h,.aL (.int _ _)⟩
 case and=>exact⟨_,.int k (k.wrap (BitVec.ofInt k.bits x &&& BitVec.ofInt k.bits y).toNat),by simp[e2,binOp,Op.intBits],h,.aL (.int _ _)⟩
 case or=>exact⟨_,.int k (k.wrap (BitVec.ofInt k.bits x ||| BitVec.ofInt k.bits y).toNat),by simp[e2,binOp,Op.intBits],h,.aL (.int _ _)⟩
 case xor=>exact⟨_,.int k (k.wrap (BitVec.ofInt k.bits x ^^^ BitVec.ofInt k.bits y).toNat),by simp[e2,binOp,Op.intBits],h,.aL (.int _ _)⟩
 case andNot=>exact⟨_,.int k (k.wrap (BitVec.ofInt k.bits x &&& ~~~BitVec.ofInt k.bits y).toNat),by simp[e2,binOp,Op.intBits],h,.aL (.int _ _)⟩

theorem dr(l:List UInt8):(ByteArray.mk l.toArray).toList=l:=by simp
theorem Eg{op:BinOp}{x y:List UInt8}{t t':TypeId}{X Y:Operand}{o:Oper}{ρ:Operand->Value}(ho:o.op=.binOp op t X Y t')(hx:ρ X=.string ⟨x.toArray⟩)(hy:ρ Y=.string ⟨y.toArray⟩){K:A->Prop}
  (h:qp op x y K):∃r v,(execOp ρ o).run P w=.ok (.value v) w/\K r/\Rel ids im w r v:=by
 have e1:(execOp ρ o)=(do let z <-(do eqGuard op t X Y (.string ⟨x.toArray⟩) (.string ⟨y.toArray⟩);binOp op t (.string ⟨x.toArray⟩) (.string ⟨y.toArray⟩));pure (.value z)):=by
  unfold execOp;rw[ho];simp only[hx,hy]
 have e2:(eqGuard op t X Y (.string ⟨x.toArray⟩) (.string ⟨y.toArray⟩)).run P w=.ok () w:=by
  unfold eqGuard;cases op<;>rfl
 have e3:(binOp op t (.string ⟨x.toArray⟩) (.string ⟨y.toArray⟩))=Op.stringOp op ⟨x.toArray⟩ ⟨y.toArray⟩:=by
  cases op<;>rfl
 rw[e1,e3];cases op<;>simp only[qp] at h<;>first|exact h.elim|skip
 case add =>
  refine⟨_,.string ⟨(x++y).toArray⟩,?_,h.2,.aL (.str _)⟩
  have e4:¬(IntKind.i64.max<((x.length+y.length:Nat):Int)):=by
   have:IntKind.i64.max=9223372036854775807:=by decide
   rw[this];have:=h.1;omega
  have e6:(Op.stringOp .add ⟨x.toArray⟩ ⟨y.toArray⟩)=pure (.string ⟨(x++y).toArray⟩):=by
   unfold Op.stringOp;rw[if_neg (by simpa[ByteArray.size] using e4)]
   congr 2
  rw[e6];simp[e2]
 case eql=>exact⟨_,.bool (x==y),by simp only[Op.stringOp,dr];simp[e2],h,.aL (.sb _)⟩
 case neq=>exact⟨_,.bool !(x==y),by simp only[Op.stringOp,dr];simp[e2],h,.aL (.sb _)⟩
 case lss=>exact⟨_,.bool (Op.bytesLess x y),by simp only[Op.stringOp,dr];simp[e2],h,.aL (.sb _)⟩
 case leq=>exact⟨_,.bool (Op.bytesLess x y||x==y),by simp only[Op.stringOp,dr];simp[e2],h,.aL (.sb _)⟩
 case gtr=>exact⟨_,.bool !(Op.bytesLess x y||x==y),by simp only[Op.stringOp,dr];simp[e2],h,.aL (.sb _)⟩
 case geq=>exact⟨_,.bool !(Op.bytesLess x y),by simp only[Op.stringOp,dr];simp[e2],h,.aL (.sb _)⟩

theorem Ij{op:BinOp}{k k':IntKind}{x y:Int}{t t':TypeId}{X Y:Operand}{o:Oper}{ρ:Operand->Value}(ho:o.op=.binOp op t X Y t')(hx:ρ X=.int k x)(hy:ρ Y=.int k' y){K:A->Prop}
  (h:vk op k x y K):∃r v,(execOp ρ o).run P w=.ok (.value v) w/\K r/\Rel ids im w r v:=by
 have e1:(execOp ρ o)=(do let z <-(do eqGuard op t X Y (.int k x) (.int k' y);binOp op t (.int k x) (.int k' y));pure (.value z)):=by
  unfold execOp;rw[ho];simp only[hx,hy]
 have e2:(eqGuard op t X Y (.int k x) (.int k' y)).run P w=.ok () w:=by
  unfold eqGuard;cases op<;>rfl
 rw[e1];cases op<;>simp only[vk] at h<;>first|exact h.elim|skip
 case shl=>exact⟨_,.int k (k.wrap (x*2 ^ (min y.toNat k.bits))),by simp[e2,binOp,Op.shift,Int.not_lt.2 h.1],nz h.2,.aL (.int _ _)⟩
 case shr=>exact⟨_,.int k (x.fdiv (2 ^ (min y.toNat k.bits))),by simp[e2,binOp,Op.shift,Int.not_lt.2 h.1],h.2,.aL (.int _ _)⟩

theorem Tm{op:UnOp}{x:A}{t:TypeId}{X:Operand}{o:Oper}{ρ:Operand->Value}(ho:o.op=.unOp op t X)(hx:Rel ids im w x (ρ X)){K:A->Prop}
  (h:WV op x K):∃r v,(execOp ρ o).run P w=.ok (.value v) w/\K r/\Rel ids im w r v:=by
 have e1:(execOp ρ o)=(do let z <-Op.unary op (ρ X);pure (.value z)):=by unfold execOp;rw[ho]
 rw[e1];unfold WV at h;split at h
 ·rw[hx.eC];rename_i b;exact⟨_,.bool !b,by simp[Op.unary],h,.aL (.bool _)⟩
 ·rw[hx.jw];rename_i b;exact⟨_,.bool !b,by simp[Op.unary],h,.aL (.sb _)⟩
 ·rw[hx.cC];rename_i k n;exact⟨_,.int k (k.wrap (0-n)),by simp[Op.unary,Op.intArith],by have:=nz h;simpa using this,.aL (.int _ _)⟩
 ·exact h.elim

theorem bM.facts(aN:bM P tt){t:TypeId}{ti:TI}(h:tt.lookup t=some ti):
  ∃i d z,P.info? t=some i/\P.underlying t=some d/\i.zero=some z/\i.size=ti.size/\(∀v∈z.cells.toList,v.oneCell'=true)/\z.cells.size=i.size /\
   ti.zero=z.cells.toList.map ofConst/\ti.agg=fq d /\
   (ti.kind=1->∃fs,d=.struct fs/\ti.pE=fs.toList.map fun f=>(f.offset,((P.info? f.type).map (·.size)).getD 0)) /\
   (ti.kind=1->∃fs,d=.struct fs/\fs.toList.all (fun f=>((P.info? f.type).map (·.size)).getD 0 != 0)=true) /\
   (ti.kind=2->∃ie,d=.array ti.mz ti.aW/\P.info? ti.aW=some ie/\ie.size=ti.bN) /\
   (ti.kind=3->∃ie ze,d=.slice ti.aW/\P.info? ti.aW=some ie/\ie.size=ti.bN/\ie.bytes=ti.fk/\ie.zero=some ze/\ze.cells.size=ti.bN/\ti.bN≠0) /\
   (ti.kind=5->d=.int ti.ik)/\(ti.kind=4->d=.string)/\ti.eqs=br P 6 t/\(ti.kind=6->d=.bool):=by
 have:=aN t ti h;unfold Bi at this;split at this
 ·rename_i i d hi hd;split at this
  ·rename_i z hz;split at this
   ·rename_i hc;simp only[Bool.and_eq_true,List.all_eq_true,beq_iff_eq] at hc
    replace hc:=hc.2
    refine⟨i,d,z,hi,hd,hz,?_⟩;cases d
    case struct fs =>
     simp only at this;split at this
     ·rename_i iq;cases this;refine⟨rfl,hc.1,hc.2,rfl,rfl,fun _=>⟨fs,rfl,rfl⟩,fun _=>⟨fs,rfl,iq⟩,?_,?_,?_,?_,rfl,?_⟩<;>(intro hk;simp at hk)
     ·cases this
    case array n e =>
     simp only at this;split at this
     ·rename_i ie jJ;cases this;refine⟨rfl,hc.1,hc.2,rfl,rfl,?_,?_,fun _=>⟨ie,rfl,jJ,rfl⟩,?_,?_,?_,rfl,?_⟩<;>(intro hk;simp at hk)
     ·cases this
    case slice e =>
     simp only at this;split at this
     ·rename_i ie jJ;split at this
      ·rename_i ze hze;split at this
       ·rename_i Tn;cases this;simp only[Bool.and_eq_true,beq_iff_eq,bne_iff_ne] at Tn;refine⟨rfl,hc.1,hc.2,rfl,rfl,?_,?_,?_,fun _=>⟨ie,ze,rfl,jJ,rfl,rfl,hze,Tn.1,Tn.2⟩,?_,?_,rfl,?_⟩<;>(intro hk;simp at hk)
       ·cases this
      ·cases this
     ·cases this
    case tuple=>cases this
    case named=>cases this
    case int k =>
     cases this;refine⟨rfl,hc.1,hc.2,rfl,rfl,?_,?_,?_,?_,fun _=>rfl,?_,rfl,?_⟩<;>(intro hk;simp at hk)
    case string =>
     cases this;refine⟨rfl,hc.1,hc.2,rfl,rfl,?_,?_,?_,?_,?_,fun _=>rfl,rfl,?_⟩<;>(intro hk;simp at hk)
    case bool =>
     cases this;refine⟨rfl,hc.1,hc.2,rfl,rfl,?_,?_,?_,?_,?_,?_,rfl,fun _=>rfl⟩<;>(intro hk;simp at hk)
    all_goals
     cases this;refine⟨rfl,hc.1,hc.2,rfl,rfl,?_,?_,?_,?_,?_,?_,rfl,?_⟩<;>(intro hk;simp at hk)
   ·cases this
  ·cases this
 ·cases this

theorem bM.qn(aN:bM P tt){t:TypeId}{ti:TI}(h:tt.lookup t=some ti)(hk:ti.kind=1):∃fs,P.underlying t=some (.struct fs)/\ti.qn=fs.toList.map (·.type)/\ti.pE=fs.toList.map fun f=>(f.offset,((P.info? f.type).map (·.size)).getD 0):=by
 have:=aN t ti h;unfold Bi at this;split at this
 ·rename_i i d hi hd;split at this
  ·rename_i z hz;split at this
   ·rename_i D0;cases d
    case struct fs =>
     simp only at this;split at this
     ·cases this;exact⟨fs,hd,rfl,rfl⟩
     ·cases this
    case array n e =>
     simp only at this;split at this
     ·cases this;simp at hk
     ·cases this
    case slice e =>
     simp only at this;split at this
     ·split at this
      ·split at this
       ·cases this;simp at hk
       ·cases this
      ·cases this
     ·cases this
    case tuple=>cases this
    case named=>cases this
    all_goals (cases this;simp at hk)
   ·cases this
  ·cases this
 ·cases this
theorem bM.zAgg(aN:bM P tt){t:TypeId}{ti:TI}(h:tt.lookup t=some ti):∃i d z,P.info? t=some i/\P.underlying t=some d/\i.zero=some z/\yU z=fq d:=by
 have:=aN t ti h;unfold Bi at this;split at this
 ·rename_i i d hi hd;split at this
  ·rename_i z hz;split at this
   ·rename_i hc;simp only[Bool.and_eq_true,beq_iff_eq] at hc;exact⟨i,d,z,hi,hd,hz,hc.1⟩
   ·cases this
  ·cases this
 ·cases this
/-- The zero of a type. -/
theorem bM.Pj(aN:bM P tt){t:TypeId}{ti:TI}(h:tt.lookup t=some ti)(im:Nat->Prop)(w:World):
  ∃zv,(zeroValue t).run P w=.ok zv w/\(ti.agg=true->aA im w (.agg ti.zero) zv)/\(ti.agg=false->∃z,ti.zero=[z]/\aA im w z zv):=by
 obtain⟨i,d,z,hi,hd,hz,_,gR,_,hzero,Pg,_⟩:=aN.facts h;obtain⟨i',d',z',cx,gS,D3,J1⟩:=aN.zAgg h;rw[hi] at cx;cases cx;rw[hd] at gS;cases gS;rw[hz] at D3;cases D3;refine⟨z,by simp[zeroValue,typeInfo,hi,hz],?_,?_⟩
 ·intro ha;rw[Pg] at ha;rw[ha] at J1;obtain⟨cs,rfl⟩:∃cs,z=.agg cs:=by cases z<;>first|exact⟨_,rfl⟩|simp[yU] at J1
  have:=aA.agg (im:=im) (w:=w) (cs.toList.map ofConst) cs.toList (by simp) (fun v hv=>gR v hv) (fun j h h'=>by rw[List.getElem_map];exact fp _ _ _);rw[hzero];show aA im w (.agg (List.map ofConst cs.toList)) _;simpa using this
 ·intro ha;rw[Pg] at ha;rw[ha] at J1;have hc:z.cells = #[z]:=by cases z<;>first|rfl|simp[yU] at J1
  exact⟨ofConst z,by rw[hzero,hc];simp,fp _ _ _⟩
theorem bM.yW(aN:bM P tt){t:TypeId}{ti:TI}(h:tt.lookup t=some ti)(hk:ti.kind=7):P.underlying t=some (.map ti.mz ti.aW):=by
 have:=aN t ti h;unfold Bi at this;split at this
 ·rename_i i d hi hd;split at this
  ·split at this
   ·cases d
    case map k e=>cases this;exact hd
    case struct fs =>
     simp only at this;split at this
     ·cases this;simp at hk
     ·cases this
    case array n e =>
     simp only at this;split at this
     ·cases this;simp at hk
     ·cases this
    case slice e =>
     simp only at this;split at this
     ·split at this
      ·split at this
       ·cases this;simp at hk
       ·cases this
      ·cases this
     ·cases this
    case tuple=>cases this
    case named=>cases this
    all_goals
     cases this;simp at hk
   ·cases this
  ·cases this
 ·cases this
theorem bM.Pk(aN:bM P tt){t:TypeId}{ti:TI}(h:tt.lookup t=some ti)(hk:ti.kind=8):∃e,P.underlying t=some (.pointer e):=by
 have:=aN t ti h;unfold Bi at this;split at this
 ·rename_i i d hi hd;split at this
  ·split at this
   ·cases d
    case pointer=>exact⟨_,hd⟩
    case struct fs =>
     simp only at this;split at this
     ·cases this;simp at hk
     ·cases this
    case array n e =>
     simp only at this;split at this
     ·cases this;simp at hk
     ·cases this
    case slice e =>
     simp only at this;split at this
     ·split at this
      ·split at this
       ·cases this;simp at hk
       ·cases this
      ·cases this
     ·cases this
    case tuple=>cases this
    case named=>cases this
    all_goals
     cases this;simp at hk
   ·cases this
  ·cases this
 ·cases this
theorem bM.To(aN:bM P tt){t:TypeId}{ti:TI}(h:tt.lookup t=some ti)(hk:ti.kind=9):∃a b c,P.underlying t=some (.func a b c):=by
 have:=aN t ti h;unfold Bi at this;split at this
 ·rename_i i d hi hd;split at this
  ·split at this
   ·cases d
    case func=>exact⟨_,_,_,hd⟩
    case struct fs =>
     simp only at this;split at this
     ·cases this;simp at hk
     ·cases this
    case array n e =>
     simp only at this;split at this
     ·cases this;simp at hk
     ·cases this
    case slice e =>
     simp only at this;split at this
     ·split at this
      ·split at this
       ·cases this;simp at hk
       ·cases this
      ·cases this
     ·cases this
    case tuple=>cases this
    case named=>cases this
    all_goals
     cases this;simp at hk
   ·cases this
  ·cases this
 ·cases this
theorem Bl(aN:bM P tt){x y:A}{v u:Value}{k:Nat}{b:Bool}(h:Tl x y=some (k,b))(hx:Rel ids im w x v)(hy:Rel ids im w y u){t:TypeId}{ti:TI}(ht:tt.lookup t=some ti)(hk:ti.kind=k):
  ((Op.equal t v u).run P w=.ok b w/\binOp .eql t v u=(do pure (.bool (<-Op.equal t v u)))/\binOp .neq t v u=(do pure (.bool (!(<-Op.equal t v u))))/\∀op X Y,(eqGuard op t X Y v u).run P w=.ok () w):=by
 have hP:k=8->∃e,P.underlying t=some (.pointer e):=fun e=>aN.Pk ht (by rw[hk];exact e);have hM:k=7->P.underlying t=some (.map ti.mz ti.aW):=fun e=>aN.yW ht (by rw[hk];exact e)
 have ptr:∀(p:Option Addr),k=8->v=.pointer p->u=.pointer none->b=p.isNone->((Op.equal t v u).run P w=.ok b w/\binOp .eql t v u=(do pure (.bool (<-Op.equal t v u)))/\binOp .neq t v u=(do pure (.bool (!(<-Op.equal t v u))))/\∀op X Y,(eqGuard op t X Y v u).run P w=.ok () w):=by
  rintro p e rfl rfl hb;obtain⟨el,hu⟩:=hP e;refine⟨?_,rfl,rfl,fun op X Y=>?_⟩
  ·unfold Op.equal Op.maxDepth Op.equalIn;rw[Sem.run_bind,run_underlying hu];cases p<;>simp[hb]
  ·unfold eqGuard;cases op<;>rfl
 have mp:∀(p:Option Nat),k=7->v=.map p->u=.map none->b=p.isNone->((Op.equal t v u).run P w=.ok b w/\binOp .eql t v u=(do pure (.bool (<-Op.equal t v u)))/\binOp .neq t v u=(do pure (.bool (!(<-Op.equal t v u))))/\∀op X Y,(eqGuard op t X Y v u).run P w=.ok () w):=by
  rintro p e rfl rfl hb;have hu:=hM e;refine⟨?_,rfl,rfl,fun op X Y=>?_⟩
  ·unfold Op.equal Op.maxDepth Op.equalIn;rw[Sem.run_bind,run_underlying hu];cases p<;>simp[hb]
  ·unfold eqGuard;cases op<;>rfl
 have fnc:k=9->(v=.nilFunc/\b=true\/(∃f as cs,v=.func f as cs)/\b=false)->u=.nilFunc->((Op.equal t v u).run P w=.ok b w/\binOp .eql t v u=(do pure (.bool (<-Op.equal t v u)))/\binOp .neq t v u=(do pure (.bool (!(<-Op.equal t v u))))/\∀op X Y,(eqGuard op t X Y v u).run P w=.ok () w):=by
  intro e hv hu';obtain⟨f1,f2,f3,hu⟩:=aN.To ht (by rw[hk];exact e);subst hu';rcases hv with⟨rfl,rfl⟩|⟨⟨f,as,cs,rfl⟩,rfl⟩
  ·refine⟨?_,rfl,rfl,fun op X Y=>by unfold eqGuard;cases op<;>rfl⟩;unfold Op.equal Op.maxDepth Op.equalIn;rw[Sem.run_bind,run_underlying hu];rfl
  ·refine⟨?_,rfl,rfl,fun op X Y=>by unfold eqGuard;cases op<;>rfl⟩;unfold Op.equal Op.maxDepth Op.equalIn;rw[Sem.run_bind,run_underlying hu];rfl
 have nfn:Rel ids im w .bz u->u=.nilFunc:=fun h=>by cases h with|aL h=>cases h;rfl
 unfold Tl at h;split at h<;>cases h
 ·exact ptr none rfl hx.lE hy.lE rfl
 ·rcases hx.iV with⟨p,_,e⟩|⟨_,x,y,e⟩<;>exact ptr _ rfl e hy.lE rfl
 ·rcases hx.ja with⟨p,_,e⟩|⟨_,x,y,e⟩<;>exact ptr _ rfl e hy.lE rfl
 ·cases hx with|aL hx=>cases hx;exact ptr _ rfl rfl hy.lE rfl
 ·exact mp none rfl hx.lF hy.lF rfl
 ·rcases hx.jY with⟨p,_,e⟩|⟨_,x,e⟩<;>exact mp _ rfl e hy.lF rfl
 ·cases hx with|aL hx=>cases hx;exact mp _ rfl rfl hy.lF rfl
 ·cases hx with|aL hx=>cases hx;exact fnc rfl (.inl ⟨rfl,rfl⟩) (nfn hy)
 ·obtain⟨us,rfl,_⟩:=hx.ig;exact fnc rfl (.inr ⟨⟨_,_,_,rfl⟩,rfl⟩) (nfn hy)
theorem uB{x:A}{v:Value}{b:Bool}(h:Sb x=some b)(hr:Rel ids im w x v):v=.bool b:=by
 cases x<;>simp[Sb] at h
 ·subst h;exact hr.eC
 ·subst h;exact hr.jw

theorem sa:∀(sh:List Nat) (cs dz:List A) (vs eD:List Value) (K:Bool->Prop),vs.length=cs.length->eD.length=dz.length ->
  (∀j (h:j<cs.length) (h':j<vs.length),Rel ids im w cs[j] vs[j])->(∀j (h:j<dz.length) (h':j<eD.length),Rel ids im w dz[j] eD[j])->Ba sh cs dz K->∃r,vh sh vs eD r/\K r
 | [],[],[],vs,eD,K,h1,h2,_,_,h=>by
  have e1:vs=[]:=by cases vs<;>simp at h1 ⊢
  have e2:eD=[]:=by cases eD<;>simp at h2 ⊢
  subst e1;subst e2;exact⟨true,rfl,h⟩
 | k::ks,x::xs,y::ys,vs,eD,K,h1,h2,h3,h4,h=>by
  cases vs with
  | nil=>simp at h1
  | cons v vs =>
   cases eD with
   | nil=>simp at h2
   | cons v' eD =>
    have hx:Rel ids im w x v:=h3 0 (by simp) (by simp);have hy:Rel ids im w y v':=h4 0 (by simp) (by simp)
    have go:∀b,ok1 k v v' b->Ba ks xs ys (fun r=>K (b&&r))->∃r,vh (k::ks) (v::vs) (v'::eD) r/\K r:=by
     intro b hb hh
     obtain⟨r,g1,g2⟩:=sa ks xs ys vs eD _ (by simpa using h1) (by simpa using h2)
      (fun j p q=>h3 (j+1) (Nat.succ_lt_succ p) (Nat.succ_lt_succ q)) (fun j p q=>h4 (j+1) (Nat.succ_lt_succ p) (Nat.succ_lt_succ q)) hh
     exact⟨b&&r,⟨b,r,hb,g1,rfl⟩,g2⟩
    unfold Ba at h;split at h
    ·split at h
     ·rename_i p a q b;split at h
      ·rename_i hk;rw[j6] at hk;subst hk;exact go _ (.inl ⟨rfl,p,a,b,hx.cC,hy.cC,rfl⟩) h
      ·exact h.elim
     ·exact h.elim
    ·split at h
     ·rename_i a b ha hb;exact go _ (.inr (.inl ⟨rfl,a,b,uB ha hx,uB hb hy,rfl⟩)) h
     ·exact h.elim
    ·split at h
     ·rename_i a b;refine go (a==b) (.inr (.inr ⟨rfl,⟨a.toArray⟩,⟨b.toArray⟩,hx.iU,hy.iU,by rw[dr,dr]⟩)) h
     ·exact h.elim
    ·exact h.elim
 | [],[],_::_,_,_,_,_,_,_,_,h=>h.elim
 | [],_::_,_,_,_,_,_,_,_,_,h=>by unfold Ba at h;exact h.elim
 | _::_,[],_,_,_,_,_,_,_,_,h=>by unfold Ba at h;exact h.elim
 | _::_,_::_,[],_,_,_,_,_,_,_,h=>by unfold Ba at h;exact h.elim

theorem Pm(aN:bM P tt){op:BinOp}{x y:A}{t t':TypeId}{X Y:Operand}{o:Oper}{ρ:Operand->Value}(ho:o.op=.binOp op t X Y t')(hx:Rel ids im w x (ρ X))(hy:Rel ids im w y (ρ Y)){K:A->Prop}
  (h:Kg tt t op x y K):∃r v,(execOp ρ o).run P w=.ok (.value v) w/\K r/\Rel ids im w r v:=by
 unfold Kg at h;split at h
 ·split at h
  ·exact Ij ho hx.cC hy.cC h
  ·split at h
   ·rename_i hk;rw[j6] at hk;subst hk;exact Ef ho hx.cC hy.cC h
   ·exact h.elim
 ·exact Eg ho hx.iU hy.iU h
 ·rename_i cs dz;split at h
  ·rename_i ti ht;obtain⟨i,d,z,hi,hd,hz,cj,gR,rP,hzero,J1,Bm,Eh,nu,kA,Sc,tZ,heq,_⟩:=aN.facts ht;obtain⟨vs,D4,Kj,ZB,Sd⟩:=hx.iW;obtain⟨us,Kk,Bb,J2,hu4⟩:=hy.iW
   have e1:∀Gg,o.op=.binOp Gg t X Y t'->(execOp ρ o)=(do let z <-(do eqGuard Gg t X Y (.agg vs.toArray) (.agg us.toArray);binOp Gg t (.agg vs.toArray) (.agg us.toArray));pure (.value z)):=by
    intro Gg ho;unfold execOp;rw[ho];simp only[D4,Kk]
   have Pn:6<=P.depth:=by unfold Program.depth Made.depth;omega
   have Se:ti.agg=true->∀l:List Value,xp P t l=.agg l.toArray:=by
    intro ha l;rw[J1] at ha;unfold xp;rw[hd];cases d<;>simp[fq] at ha<;>rfl
   split at h
   ·rename_i sh Kl Ge;obtain⟨r,g1,g2⟩:=sa (ids:=ids) (im:=im) (w:=w) sh cs dz vs us _ Kj Bb Sd hu4 h;have:=tg (P:=P) (w:=w) (op:=.eql) (.inl rfl) (by rw[<-heq];exact Ge) (by omega) Pn g1 (Se Kl _) (Se Kl _) X Y;refine⟨_,.bool r,?_,g2,.aL (.sb _)⟩;rw[e1 _ ho,Sem.run_bind,this];rfl
   ·rename_i sh Kl Ge;obtain⟨r,g1,g2⟩:=sa (ids:=ids) (im:=im) (w:=w) sh cs dz vs us _ Kj Bb Sd hu4 h;have:=tg (P:=P) (w:=w) (op:=.neq) (.inr rfl) (by rw[<-heq];exact Ge) (by omega) Pn g1 (Se Kl _) (Se Kl _) X Y;refine⟨_,.bool !r,?_,g2,.aL (.sb _)⟩;rw[e1 _ ho,Sem.run_bind,this];rfl
   ·exact h.elim
  ·exact h.elim
 ·split at h
  ·rename_i k b xq;split at h
   ·rename_i ti ht
    have e0:∀Gg,o.op=.binOp Gg t X Y t'->(execOp ρ o)=(do let z <-(do eqGuard Gg t X Y (ρ X) (ρ Y);binOp Gg t (ρ X) (ρ Y));pure (.value z)):=by
     intro Gg ho;unfold execOp;rw[ho]
    split at h
    ·rename_i hk;obtain⟨g1,g2,g3,g4⟩:=Bl (P:=P) (w:=w) aN xq hx hy ht (Nat.eq_of_beq_eq_true hk);refine⟨_,.bool b,?_,h,.aL (.bool _)⟩;rw[e0 _ ho];simp[g4,g2,g1]
    ·rename_i hk;obtain⟨g1,g2,g3,g4⟩:=Bl (P:=P) (w:=w) aN xq hx hy ht (Nat.eq_of_beq_eq_true hk);refine⟨_,.bool !b,?_,h,.aL (.bool _)⟩;rw[e0 _ ho];simp[g4,g3,g1]
    ·exact h.elim
   ·exact h.elim
  rename_i hnn;split at h;rotate_left
  ·exact h.elim
  ·rename_i a b ti ha hb ht;obtain⟨i,d,z,hi,hd,hz,cj,gR,rP,hzero,J1,Bm,Eh,nu,kA,Sc,tZ,heq,hk6⟩:=aN.facts ht;have Po:=uB ha hx;have Tp:=uB hb hy
   have e1:∀Gg,o.op=.binOp Gg t X Y t'->(execOp ρ o)=(do let z <-(do eqGuard Gg t X Y (.bool a) (.bool b);binOp Gg t (.bool a) (.bool b));pure (.value z)):=by
    intro Gg ho;unfold execOp;rw[ho];simp only[Po,Tp]
   split at h
   ·rename_i hk;have gD:=hk6 hk;subst gD;have e2:(eqGuard .eql t X Y (.bool a) (.bool b)).run P w=.ok () w:=by unfold eqGuard;rfl
    refine⟨_,.bool (a==b),?_,h,.aL (.sb _)⟩;rw[e1 _ ho];simp[e2,binOp,run_equal_bool w t a b hd]
   ·rename_i hk;have gD:=hk6 hk;subst gD;have e2:(eqGuard .neq t X Y (.bool a) (.bool b)).run P w=.ok () w:=by unfold eqGuard;rfl
    refine⟨_,.bool !(a==b),?_,h,.aL (.sb _)⟩;rw[e1 _ ho];simp[e2,binOp,run_equal_bool w t a b hd]
   ·exact h.elim
end
section
variable {c:Ctx} {s:List A} {m:List ar} {a:Act} {w w':World} {ids ab:dV} {P:Program} {im bL:Nat->Prop} {tt:TT}
variable {next:Act->World->Prop} {Q:Exit->Act->World->Prop}

/-- A run of cells in memory, each related. -/
def WW(ids:dV)(im:Nat->Prop)(w:World)(cs:List A)(aq base:Nat):Prop :=
 ∃vs:List Value,vs.length=cs.length/\(∀j (h:j<vs.length),w.cell? ⟨aq,base+j,none⟩=some vs[j])/\(∀v∈vs,hU v) /\
  ∀j (h:j<cs.length) (h':j<vs.length),Rel ids im w cs[j] vs[j]

theorem nf{t:TypeId}{d:TypeDesc}{i:TypeInfo}(hi:P.info? t=some i)(hd:P.underlying t=some d)
  (hg:fq d=true) (aq off:Nat) (vs:List Value) (hl:vs.length=i.size)
  (hc:∀j (h:j<vs.length),w.cell? ⟨aq,off+j,none⟩=some vs[j]):(loadVar t ⟨aq,off,none⟩).run P w=.ok (.agg vs.toArray) w:=by
 have h1:(loadCells ⟨aq,off,none⟩ vs.length).run P w=.ok vs.toArray w:=run_loadCells_list w ⟨aq,off,none⟩ vs (fun j v hv=>by
  have hj:j<vs.length:=by
   rcases Nat.lt_or_ge j vs.length with h|h
   ·exact h
   ·rw[List.getElem?_eq_none h] at hv;cases hv
  have e:vs[j]=v:=by rw[List.getElem?_eq_getElem hj] at hv;exact Option.some.inj hv
  have:=hc j hj;rw[e] at this;unfold Addr.add;split
  ·rename_i h0;subst h0;simpa using this
  ·exact this)
 rw[hl] at h1;unfold loadVar isAgg;cases d<;>simp[fq] at hg<;>simp[underlying,hd,sizeOf,typeInfo,hi,h1]
theorem jx{t:TypeId}{d:TypeDesc}(hd:P.underlying t=some d)
  (hg:fq d=false) (aq off:Nat) (v:Value)
  (hc:w.cell? ⟨aq,off,none⟩=some v):(loadVar t ⟨aq,off,none⟩).run P w=.ok v w:=by
 unfold loadVar isAgg;cases d<;>simp[fq] at hg<;>simp[underlying,hd,hc]

theorem jR(aN:bM P tt){t:TypeId}{ti:TI}(ht:tt.lookup t=some ti){cs:List A}{aq base off:Nat}(cz:WW ids im w cs aq base){K:A->Prop}
  (h:Kf ti.agg ti.size cs off K):∃r v,(loadVar t ⟨aq,base+off,none⟩).run P w=.ok v w/\K r/\Rel ids im w r v:=by
 obtain⟨i,d,z,hi,hd,hz,cj,_,_,_,J1,_⟩:=aN.facts ht;obtain⟨vs,hl,hc,ho,hr⟩:=cz;unfold Kf at h;split at h
 ·rename_i hb;split at h
  ·rename_i hle;rw[cI,lH] at h;have hle:=Nat.le_of_ble_eq_true hle;have Tq:((vs.drop off).take ti.size).length=ti.size:=by simp;omega
   have hlc:((cs.drop off).take ti.size).length=ti.size:=by simp;omega
   refine⟨_,.agg ((vs.drop off).take ti.size).toArray,?_,h,?_⟩
   ·refine nf hi hd (by rw[<-J1];exact hb) aq (base+off) _ (by rw[Tq,cj]) ?_;intro j hj;rw[Tq] at hj;have:=hc (off+j) (by omega);rw[<-Nat.add_assoc] at this;simpa using this
   ·refine .agg _ _ (by rw[Tq,hlc]) ?_ ?_
    ·intro v hv;exact ho v (List.mem_of_mem_drop (List.mem_of_mem_take hv))
    ·intro j h1 h2;rw[hlc] at h1;have:=hr (off+j) (by omega) (by omega);simpa using this
  ·exact h.elim
 ·rename_i hb;split at h
  ·rename_i aH;rw[dL] at h;have aH:off<cs.length:=Nat.le_of_ble_eq_true aH;refine⟨_,vs[off]'(by omega),?_,h,?_⟩
   ·exact jx hd (by rw[<-J1];exact hb) aq _ _ (hc off (by omega))
   ·have:=hr off aH (by omega);simpa[List.getD_eq_getElem?_getD,aH] using this
  ·exact h.elim

theorem bI{b:Nat}{x:ar}(h:m[b]?=some x):m.getD b .dead=x:=by simp[List.getD_eq_getElem?_getD,h]

theorem aJ.uC(hs:aJ c s m a w ids){b:Nat}{p:Id}(cD:ids[b]?=some (.lv p)){ty:TypeId}{cs:List A}(hb:m.getD b .dead=.box ty cs):
  WW ids (av c ids w) w cs p.aq 0:=by
 obtain⟨x,hx,hr⟩:=hs.fu cD;rw[bI hx] at hb;subst hb;obtain⟨vs,h1,h2,h3,h4⟩:=hr;refine⟨vs.toList,by simp;omega,?_,?_,?_⟩
 ·intro j hj;unfold World.cell?;simp only[h1];simp at hj ⊢
 ·intro v hv;obtain⟨j,hj,rfl⟩:=List.getElem_of_mem hv;simp at hj;have:=(h4 j (by omega) hj).2;simpa using this
 ·intro j hj cH;simp at cH;have:=(h4 j hj cH).1;simpa using this
theorem aJ.Gh(hs:aJ c s m a w ids){b:Nat}{p:Id}(cD:ids[b]?=some (.lv p)){ty:TypeId}{sz n:Nat}{row:Nat->List A}(hb:m.getD b .dead=.row ty sz n row)
  {i:Nat} (hi:i<n):WW ids (av c ids w) w (row i) p.aq (i*p.sz):=by
 obtain⟨x,hx,hr⟩:=hs.fu cD;rw[bI hx] at hb;subst hb;obtain⟨e1,e2,vs,h1,h2,h3,hl,h4⟩:=hr;rw[e1]
 have hle:i*sz+sz<=n*sz:=by
  have:(i+1)*sz<=n*sz:=Nat.mul_le_mul_right _ hi;rw[Nat.add_mul] at this;omega
 refine⟨(vs.toList.drop (i*sz)).take sz,by simp;rw[hl i hi];omega,?_,?_,?_⟩
 ·intro j hj;simp at hj;unfold World.cell?;simp only[h1];simp
 ·intro v hv;obtain⟨j,hj,rfl⟩:=List.getElem_of_mem hv;simp at hj;have:=(h4 i j hi (by rw[hl i hi];omega) (by omega)).2;simpa using this
 ·intro j hj cH;simp at cH;have:=Rel.aL (ids:=ids) (h4 i j hi hj (by omega)).1;simpa using this

theorem Bn(aN:bM P tt)(hs:aJ c s m a w ids){o:Oper}{t:TypeId}{X:Operand}(ho:o.op=.load t X){K:KT}
  (h:nd tt t (ev s X) m K) (hn:∀v m' a' w' ab,K v m'->aJ c (bA s o.dst v) m' a' w' ab->next a' w'):o.wp P a w next Q:=by
 have hx:=hs.ev X;unfold nd at h
 have e1:∀aq off,a.eval X=.pointer (some ⟨aq,off,none⟩)->execOp a.eval o=(do let z <-loadVar t ⟨aq,off,none⟩;pure (.value z)):=by
  intro aq off he;unfold execOp;rw[ho];simp only[he];rfl
 have fin:∀ {r:A} {v:Value} {aq off:Nat},a.eval X=.pointer (some ⟨aq,off,none⟩)->(loadVar t ⟨aq,off,none⟩).run P w=.ok v w->K r m->Rel ids (av c ids w) w r v->o.wp P a w next Q:=by
  intro r v aq off he cz hk hr;refine bj (v:=v) (w':=w) ?_ (hn r m _ _ ids hk (hs.bA o.dst hr));rw[e1 _ _ he];simp[cz]
 split at h
 ·exact h.elim
 ·rename_i ti ht;split at h
  ·rename_i b off he;rw[he] at hx;split at h
   ·rename_i ty cs hb;obtain⟨p,cD,hv⟩:=hs.yT hx (by rw[hb];simp);obtain⟨r,v,h1,h2,h3⟩:=jR (P:=P) aN ht (base:=0) (hs.uC cD hb) h;rw[Nat.zero_add] at h1;exact fin hv h1 h2 h3
   ·exact h.elim
  ·rename_i b i off he;rw[he] at hx;split at h
   ·rename_i ty sz n row hb;obtain⟨p,cD,hv⟩:=hs.my hx (by rw[hb];simp);obtain⟨hi,h⟩:=h;rw[cI] at h;obtain⟨r,v,h1,h2,h3⟩:=jR (P:=P) aN ht (hs.Gh cD hb hi) h;exact fin hv h1 h2 h3
   ·exact h.elim
  ·rename_i cs off he;rw[he] at hx;cases hx with
   | aL hx =>
    generalize hv:a.eval X=vv at hx;cases hx with
    | bref aq base _ _ vs hb hc WX hr =>
     have cz:WW ids (av c ids w) w cs aq base:=by
      refine⟨(List.range cs.length).map vs,by simp,?_,?_,?_⟩
      ·intro j hj;simp at hj;simpa using hc j hj
      ·intro v hv;simp at hv;obtain⟨j,hj,rfl⟩:=hv;exact WX j hj
      ·intro j hj cH;simpa using Rel.aL (hr j hj)
     obtain⟨r,v,h1,h2,h3⟩:=jR (P:=P) aN ht cz h;exact fin hv h1 h2 h3
  ·exact h.elim
end
section
variable {c:Ctx} {s:List A} {m:List ar} {a:Act} {w w':World} {ids ab:dV} {P:Program} {im bL:Nat->Prop} {tt:TT}
variable {next:Act->World->Prop} {Q:Exit->Act->World->Prop}

theorem cS:∀(d:Nat) (x:A) (v:Value),cY d x=false->Rel ids im w x v->aA im w x v
 | 0,x,v,h,_=>by cases h
 | d+1,x,v,h,hr=>by
  cases hr with
  | aL hr=>exact hr
  | ref=>cases h
  | oref=>cases h
  | gQ=>cases h
  | own=>cases h
  | lD=>cases h
  | lC=>cases h
  | ic=>cases h
  | gI=>cases h
  | omap=>cases h
  | tf=>cases h
  | rT=>cases h
  | pe=>cases h
  | rU=>cases h
  | pD=>cases h
  | agg cs vs hl ho hr =>
   refine .agg cs vs hl ho fun j h1 h2=>cS d _ _ ?_ (hr j h1 h2);simp only[cY,List.any_eq_false] at h;simpa using h _ (List.getElem_mem h1)
  | tup cs vs hl hr =>
   refine .tup cs vs hl fun j h1 h2=>cS d _ _ ?_ (hr j h1 h2);simp only[cY,List.any_eq_false] at h;simpa using h _ (List.getElem_mem h1)
  | fn f cs vs hl hr =>
   refine .fn f cs vs hl fun j h1 h2=>cS d _ _ ?_ (hr j h1 h2);simp only[cY,List.any_eq_false] at h;simpa using h _ (List.getElem_mem h1)


theorem qq{x:A}{v:Value}(h1:one x=true)(h:Rel ids im w x v):hU v/\v.cells = #[v]:=by
 cases h with
 | aL h=>cases h<;>first|exact⟨rfl,rfl⟩|cases h1
 | ref=>exact⟨rfl,rfl⟩
 | oref=>exact⟨rfl,rfl⟩
 | gQ=>exact⟨rfl,rfl⟩
 | own=>exact⟨rfl,rfl⟩
 | lD=>exact⟨rfl,rfl⟩
 | lC=>exact⟨rfl,rfl⟩
 | ic=>exact⟨rfl,rfl⟩
 | gI=>exact⟨rfl,rfl⟩
 | omap=>exact⟨rfl,rfl⟩
 | tf=>exact⟨rfl,rfl⟩
 | rT=>exact⟨rfl,rfl⟩
 | pe=>exact⟨rfl,rfl⟩
 | rU=>exact⟨rfl,rfl⟩
 | pD=>exact⟨rfl,rfl⟩
 | agg=>cases h1
 | tup=>cases h1
 | fn=>exact⟨rfl,rfl⟩
theorem oG{x:A}{v:Value}{cs:List A}(hc:mA x=some cs)(h:Rel ids im w x v):
  ∃vs:List Value,v.cells=vs.toArray/\vs.length=cs.length/\(∀u∈vs,hU u)/\∀j (h:j<cs.length) (h':j<vs.length),Rel ids im w cs[j] vs[j]:=by
 have single:one x=true->cs=[x]->∃vs:List Value,v.cells=vs.toArray/\vs.length=cs.length/\(∀u∈vs,hU u)/\∀j (h:j<cs.length) (h':j<vs.length),Rel ids im w cs[j] vs[j]:=by
  intro h1 e;obtain⟨o1,o2⟩:=qq h1 h;refine⟨[v],by rw[o2],by rw[e];rfl,?_,?_⟩
  ·intro u hu;rw[List.mem_singleton.1 hu];exact o1
  ·subst e;intro j hj cH;have:j=0:=by simp at hj;omega
   subst this;exact h
 cases x<;>simp only[mA] at hc<;>first|cases hc|skip
 case agg =>
  obtain⟨vs,rfl,h2,h3,h4⟩:=h.iW;exact⟨vs,rfl,h2,h3,h4⟩
 all_goals exact single rfl rfl

/-- A splice of related cells. -/
theorem pG{cs us:List A}{vs xs:List Value}{off:Nat}(h1:off+us.length<=cs.length)(hl:vs.length=cs.length)(O2:xs.length=us.length)
  (hr:∀j (h:j<cs.length) (h':j<vs.length),Rel ids im w cs[j] vs[j]) (Gi:∀j (h:j<us.length) (h':j<xs.length),Rel ids im w us[j] xs[j])
  (ho:∀v∈vs,hU v) (Pp:∀v∈xs,hU v) :
  (vs.take off++xs++vs.drop (off+xs.length)).length=(th cs off us).length/\(∀v∈vs.take off++xs++vs.drop (off+xs.length),hU v) /\
  ∀j (h:j<(th cs off us).length) (h':j<(vs.take off++xs++vs.drop (off+xs.length)).length),Rel ids im w (th cs off us)[j] (vs.take off++xs++vs.drop (off+xs.length))[j]:=by
 refine⟨by simp[th];omega,?_,?_⟩
 ·intro v hv;simp only[List.mem_append] at hv;rcases hv with(hv|hv)|hv
  ·exact ho v (List.mem_of_mem_take hv)
  ·exact Pp v hv
  ·exact ho v (List.mem_of_mem_drop hv)
 ·intro j h h';simp only[th] at h ⊢;have hlen:(th cs off us).length=cs.length:=by simp[th];omega
  by_cases c1:j<off
  ·have e1:(cs.take off++us++cs.drop (off+us.length))[j]=cs[j]'(by omega):=by
    rw[List.getElem_append_left (by simp;omega),List.getElem_append_left (by simp;omega),List.getElem_take]
   have e2:(vs.take off++xs++vs.drop (off+xs.length))[j]=vs[j]'(by omega):=by
    rw[List.getElem_append_left (by simp;omega),List.getElem_append_left (by simp;omega),List.getElem_take]
   rw[e1,e2];exact hr j (by omega) (by omega)
  ·by_cases c2:j<off+us.length
   ·have e1:(cs.take off++us++cs.drop (off+us.length))[j]=us[j-off]'(by omega):=by
     rw[List.getElem_append_left (by simp;omega),List.getElem_append_right (by simp;omega)]
     congr 1;simp;omega
    have e2:(vs.take off++xs++vs.drop (off+xs.length))[j]=xs[j-off]'(by omega):=by
     rw[List.getElem_append_left (by simp;omega),List.getElem_append_right (by simp;omega)]
     congr 1;simp;omega
    rw[e1,e2];exact Gi _ (by omega) (by omega)
   ·have hj:j<cs.length:=by
     have:(th cs off us).length=(cs.take off++us++cs.drop (off+us.length)).length:=rfl;omega
    have e1:(cs.take off++us++cs.drop (off+us.length))[j]=cs[j]:=by
     rw[List.getElem_append_right (by simp;omega),List.getElem_drop]
     congr 1;simp;omega
    have e2:(vs.take off++xs++vs.drop (off+xs.length))[j]=vs[j]'(by omega):=by
     rw[List.getElem_append_right (by simp;omega),List.getElem_drop]
     congr 1;simp;omega
    rw[e1,e2];exact hr j hj (by omega)

theorem Ei{x:A}{v:Value}{cs:List A}(hc:mA x=some cs)(h:aA im w x v):
  ∃vs:List Value,v.cells=vs.toArray/\vs.length=cs.length/\(∀u∈vs,hU u)/\∀j (h:j<cs.length) (h':j<vs.length),aA im w cs[j] vs[j]:=by
 have single:one x=true->cs=[x]->∃vs:List Value,v.cells=vs.toArray/\vs.length=cs.length/\(∀u∈vs,hU u)/\∀j (h:j<cs.length) (h':j<vs.length),aA im w cs[j] vs[j]:=by
  intro h1 e;obtain⟨o1,o2⟩:=qq (ids:=[]) h1 (.aL h);refine⟨[v],by rw[o2],by rw[e];rfl,?_,?_⟩
  ·intro u hu;rw[List.mem_singleton.1 hu];exact o1
  ·subst e;intro j hj cH;have:j=0:=by simp at hj;omega
   subst this;exact h
 cases x<;>simp only[mA] at hc<;>first|cases hc|skip
 case agg =>
  cases h with
  | agg _ vs hl ho hr=>exact⟨vs,rfl,hl,ho,hr⟩
 all_goals exact single rfl rfl
theorem Bo{cs us:List A}{vs xs:List Value}{off:Nat}(h1:off+us.length<=cs.length)(hl:vs.length=cs.length)(O2:xs.length=us.length)
  (hr:∀j (h:j<cs.length) (h':j<vs.length),aA im w cs[j] vs[j]) (Gi:∀j (h:j<us.length) (h':j<xs.length),aA im w us[j] xs[j])
  (ho:∀v∈vs,hU v) (Pp:∀v∈xs,hU v) :
  (vs.take off++xs++vs.drop (off+xs.length)).length=(th cs off us).length/\(∀v∈vs.take off++xs++vs.drop (off+xs.length),hU v) /\
  ∀j (h:j<(th cs off us).length) (h':j<(vs.take off++xs++vs.drop (off+xs.length)).length),aA im w (th cs off us)[j] (vs.take off++xs++vs.drop (off+xs.length))[j]:=by
 obtain⟨q1,q2,q3⟩:=pG (ids:=[]) (im:=im) (w:=w) (cs:=cs) (us:=us) (vs:=vs) (xs:=xs) (off:=off) h1 hl O2 (fun j h h'=>.aL (hr j h h')) (fun j h h'=>.aL (Gi j h h')) ho Pp;refine⟨q1,q2,fun j h h'=>?_⟩
 have nilr:∀ {x:A} {v:Value},Rel [] im w x v->aA im w x v:=by
  intro x v h
  induction h with
  | aL h=>exact h
  | ref b off p h=>simp at h
  | oref b i off p h=>simp at h
  | gQ b h=>simp at h
  | own b cap p h=>simp at h
  | lD b x n cap h=>simp at h
  | lC b off x y h=>simp at h
  | ic b i off x y h=>simp at h
  | gI b x h=>simp at h
  | omap b p h=>simp at h
  | tf b k p n h hn=>simp at h
  | rT b k n h=>simp at h
  | pe b k cap x p h hx=>simp at h
  | rU b k h=>simp at h
  | pD b k x n cap h=>simp at h
  | agg cs vs hl ho hr ih=>exact .agg cs vs hl ho ih
  | tup cs vs hl hr ih=>exact .tup cs vs hl ih
  | fn f cs vs hl hr ih=>exact .fn f cs vs hl ih
 exact nilr (q3 j h h')

theorem ir{t:TypeId}{i:TypeInfo}(hi:P.info? t=some i)(aq off:Nat)(ty:TypeId)(cur:Array Value)(v:Value)(vs:List Value)(hv:v.cells=vs.toArray)
  (hl:vs.length=i.size) (ho:∀u∈vs,hU u) (hg:w.heap[aq]?=some (.cells cur ty (0,0))) (hle:off+vs.length<=cur.size) :
  (storeVar t ⟨aq,off,none⟩ v).run P w=.ok () (w.setRow aq (cur.toList.take off++vs++cur.toList.drop (off+vs.length)).toArray):=by
 have h1:=run_storeCells_at (P:=P) aq off ty vs 0 cur w hg (by omega) ho;unfold storeVar;have e:¬(v.cells.size≠i.size):=by rw[hv];simp[hl]
 simp[sizeOf,typeInfo,hi,hv,<-hl] at e ⊢;simpa using h1
end
section
variable {c:Ctx} {s:List A} {m:List ar} {a:Act} {w w':World} {ids ab:dV} {P:Program} {im bL:Nat->Prop} {tt:TT}
variable {next:Act->World->Prop} {Q:Exit->Act->World->Prop}

theorem mB{size:Nat}{cs:List A}{off:Nat}{v:A}{K:List A->Prop}(h:O1 size cs off v K):
  ∃vs,mA v=some vs/\vs.length=size/\off+size<=cs.length/\K (th cs off vs):=by
 unfold O1 at h;split at h
 ·rename_i vs hv;split at h
  ·rename_i h1 h2;rw[cI] at h;exact⟨vs,hv,Nat.eq_of_beq_eq_true h1,Nat.le_of_ble_eq_true h2,h⟩
  ·exact h.elim
 ·exact h.elim

theorem aJ.lI(hs:aJ c s m a w ids)(d:Option Nat)(v:Value):aJ c (_root_.Go.Proofs.YtijddijloelacaaGreat.Am.bA s d .aj) m (a.put d v) w ids:=hs.bA d (.aL (.aj _))

theorem mC(aN:bM P tt)(hs:aJ c s m a w ids){o:Oper}{t:TypeId}{X Y:Operand}(ho:o.op=.store t X Y){K:KT}
  (h:vj tt t (ev s X) (ev s Y) m K) (hn:∀v m' a' w' ab,K v m'->aJ c (bA s o.dst v) m' a' w' ab->next a' w'):o.wp P a w next Q:=by
 have hx:=hs.ev X;have hy:=hs.ev Y;unfold vj at h
 have e1:∀aq off,a.eval X=.pointer (some ⟨aq,off,none⟩)->execOp a.eval o=(do storeVar t ⟨aq,off,none⟩ (a.eval Y);pure .skip):=by
  intro aq off he;unfold execOp;rw[ho];simp only[he];rfl
 split at h
 ·exact h.elim
 ·rename_i ti ht;obtain⟨i,d,z,hi,hd,hz,cj,_⟩:=aN.facts ht;split at h
  ·rename_i b off he;rw[he] at hx;split at h
   ·rename_i ty cs hb;obtain⟨p,cD,hv⟩:=hs.yT hx (by rw[hb];simp);obtain⟨us,hu,Pq,hle,h⟩:=mB h;rw[fM] at h;obtain⟨xs,Ps,xr,O3,Tr⟩:=oG hu hy;obtain⟨x,Ik,hr⟩:=hs.fu cD;rw[bI Ik] at hb;subst hb;obtain⟨vs,h1,h2,h3,h4⟩:=hr;have rY:=ir (P:=P) (w:=w) hi p.aq off ty vs (a.eval Y) xs Ps (by omega) O3 h1 (by omega)
    obtain⟨q1,q2,q3⟩:=pG (ids:=ids) (im:=av c ids w) (w:=w) (cs:=cs) (us:=us) (vs:=vs.toList) (xs:=xs) (off:=off) (by omega) (by simp;omega) (by omega)
     (fun j hj cH=>by simpa using(h4 j hj (by simpa using cH)).1) Tr
     (fun v hv=>by obtain⟨j,hj,rfl⟩:=List.getElem_of_mem hv;simp at hj;simpa using(h4 j (by omega) hj).2) O3
    have bY:=hs.setRow b p cD (.box ty (th cs off us)) vs (vs.toList.take off++xs++vs.toList.drop (off+xs.length)).toArray ty h1 (fun g1 g2 _=>by
     refine⟨_,g1,?_,?_,?_⟩
     ·simp;omega
     ·simp[th];omega
     ·intro j hj cH;simp only[List.size_toArray] at cH;refine⟨g2 _ _ (by simpa using q3 j hj cH),?_⟩;simpa using q2 _ (List.getElem_mem cH))
    refine iL (w':=w.setRow p.aq (vs.toList.take off++xs++vs.toList.drop (off+xs.length)).toArray) ?_ (hn _ _ _ _ _ h (bY.lI o.dst _));rw[e1 _ _ hv];simp at rY;simp[rY]
   ·exact h.elim
  ·rename_i b i' off he;rw[he] at hx;split at h
   ·rename_i ty sz n row hb;obtain⟨p,cD,hv⟩:=hs.my hx (by rw[hb];simp);split at h
    case h_2=>exact h.elim
    rename_i bm;have hy:=cS 4 _ _ bm hy;obtain⟨aH,h⟩:=h;rw[cI] at h;obtain⟨us,hu,Pq,hle,h⟩:=mB h;rw[fM] at h;obtain⟨xs,Ps,xr,O3,Tr⟩:=Ei hu hy;obtain⟨x,Ik,hr⟩:=hs.fu cD;rw[bI Ik] at hb;subst hb;obtain⟨g1,g2,vs,h1,h2,h3,hl,h4⟩:=hr
    have hmul:i'*sz+sz<=n*sz:=by
     have:(i'+1)*sz<=n*sz:=Nat.mul_le_mul_right _ aH;rw[Nat.add_mul] at this;omega
    rw[hl i' aH] at hle;have rY:=ir (P:=P) (w:=w) hi p.aq (i'*p.sz+off) ty vs (a.eval Y) xs Ps (by omega) O3 h1 (by rw[g1];omega);rw[g1] at rY
    have bY:=hs.setRow b p cD (.row ty sz n (bZ row i' (th (row i') off us))) vs (vs.toList.take (i'*sz+off)++xs++vs.toList.drop (i'*sz+off+xs.length)).toArray ty h1 (fun k1 _ k2=>by
     refine⟨g1,g2,_,k1,by simp;omega,h3,?_,?_⟩
     ·intro j hj;unfold bZ;split
      ·simp[th];rw[hl i' aH];omega
      ·exact hl j hj
     ·intro j j' hj Wo Pu;simp only[List.size_toArray] at Pu
      have ZC:(bZ row i' (th (row i') off us) j).length=sz:=by
       unfold bZ;split
       ·simp[th];rw[hl i' aH];omega
       ·exact hl j hj
      have hj'sz:j'<sz:=by omega
      have hjm:j*sz+sz<=n*sz:=by
       have:(j+1)*sz<=n*sz:=Nat.mul_le_mul_right _ hj;rw[Nat.add_mul] at this;omega
      by_cases D5:j=i'
      ·subst D5
       obtain⟨q1,q2,q3⟩:=Bo (im:=av c ids w) (w:=w) (cs:=row j) (us:=us) (vs:=(vs.toList.drop (j*sz)).take sz) (xs:=xs) (off:=off)
        (by rw[hl j hj];omega) (by simp;rw[hl j hj];omega) (by omega)
        (fun k hk iu=>by
         simp at iu;simpa using(h4 j k hj hk (by omega)).1) Tr
        (fun v hv=>by
         obtain⟨k,hk,rfl⟩:=List.getElem_of_mem hv;simp at hk;simpa using(h4 j k hj (by rw[hl j hj];omega) (by omega)).2) O3
       have dj:bZ row j (th (row j) off us) j=th (row j) off us:=by simp[bZ]
       have e2:(vs.toList.take (j*sz+off)++xs++vs.toList.drop (j*sz+off+xs.length))[j*sz+j'] =
         (((vs.toList.drop (j*sz)).take sz).take off++xs++((vs.toList.drop (j*sz)).take sz).drop (off+xs.length))[j']'(by rw[q1];simp[th];rw[hl j hj];omega):=by
        by_cases c1:j'<off
        ·rw[List.getElem_append_left (by simp;omega),List.getElem_append_left (by simp;omega),List.getElem_append_left (by simp;omega),List.getElem_append_left (by simp;omega)];simp
        ·by_cases c2:j'<off+xs.length
         ·rw[List.getElem_append_left (by simp;omega),List.getElem_append_right (by simp;omega),List.getElem_append_left (by simp;omega),List.getElem_append_right (by simp;omega)]
          congr 1;simp;omega
         ·rw[List.getElem_append_right (by simp;omega),List.getElem_append_right (by simp;omega)];simp
          congr 1;omega
       have xN:j'<(th (row j) off us).length:=by simp[th];rw[hl j hj];omega
       have r1:=q3 j' xN (by rw[q1];exact xN);rw[<-e2] at r1;have r2:=q2 _ (List.getElem_mem (by rw[q1];exact xN:j'<_));rw[<-e2] at r2;simp only[dj];exact⟨k2 _ _ (by simpa using r1),by simpa using r2⟩
      ·have dj:bZ row i' (th (row i') off us) j=row j:=by simp[bZ,D5]
       have e2:(vs.toList.take (i'*sz+off)++xs++vs.toList.drop (i'*sz+off+xs.length))[j*sz+j']=vs[j*sz+j']'(by omega):=by
        rcases Nat.lt_or_ge j i' with hc|hc
        ·have:(j+1)*sz<=i'*sz:=Nat.mul_le_mul_right _ hc;rw[Nat.add_mul] at this;rw[List.getElem_append_left (by simp;omega),List.getElem_append_left (by simp;omega)];simp
        ·have:(i'+1)*sz<=j*sz:=Nat.mul_le_mul_right _ (by omega);rw[Nat.add_mul] at this;rw[List.getElem_append_right (by simp;omega)];simp
         congr 1;omega
       simp only[dj] at Wo ⊢;have:=h4 j j' hj Wo (by omega);rw[<-e2] at this;exact⟨k2 _ _ (by simpa using this.1),by simpa using this.2⟩)
    refine iL (w':=w.setRow p.aq (vs.toList.take (i'*sz+off)++xs++vs.toList.drop (i'*sz+off+xs.length)).toArray) ?_ (hn _ _ _ _ _ h (bY.lI o.dst _));rw[g1] at hv;rw[e1 _ _ hv];simp at rY;simp[rY]
   ·exact h.elim
  ·exact h.elim
end
section
variable {c:Ctx} {s:List A} {m:List ar} {a:Act} {w w':World} {ids ab:dV} {P:Program} {im bL:Nat->Prop} {tt:TT}
variable {next:Act->World->Prop} {Q:Exit->Act->World->Prop}

theorem mD:∀(vs:List Value) (k off:Nat) (cs:Array Value),off+k+vs.length<=cs.size ->
  (vs.zipIdx k).foldl (fun cs (p:Value×Nat)=>cs.setIfInBounds (off+p.2) p.1) cs=(cs.toList.take (off+k)++vs++cs.toList.drop (off+k+vs.length)).toArray
 | [],k,off,cs,h=>by simp
 | v::vs,k,off,cs,h=>by
  simp only[List.length_cons] at h;rw[List.zipIdx_cons,List.foldl_cons,mD vs (k+1) off _ (by simp;omega)]
  congr 1
  have aH:off+k<cs.size:=by omega
  apply List.ext_getElem
  ·simp;omega
  ·intro j h1 h2;simp only[Array.toList_setIfInBounds];by_cases c1:j<off+k
   ·rw[List.getElem_append_left (by simp;omega),List.getElem_append_left (by simp;omega),List.getElem_append_left (by simp;omega),List.getElem_append_left (by simp;omega)];simp[List.getElem_set];omega
   ·by_cases c2:j=off+k
    ·subst c2;rw[List.getElem_append_left (by simp;omega),List.getElem_append_left (by simp;omega),List.getElem_append_left (by simp;omega),List.getElem_append_right (by simp;omega)];simp;have e:min (off+k) cs.size=off+k:=by omega
     simp[e]
    ·by_cases c3:j<off+k+1+vs.length
     ·rw[List.getElem_append_left (by simp;omega),List.getElem_append_right (by simp;omega),List.getElem_append_left (by simp;omega),List.getElem_append_right (by simp;omega)];have e1:min (off+(k+1)) cs.size=off+k+1:=by omega
      have e2:min (off+k) cs.size=off+k:=by omega
      simp only[List.length_take,List.length_set,Array.length_toList,e1,e2];rw[List.getElem_cons];rw[dif_neg (by omega)]
      congr 1
     ·rw[List.getElem_append_right (by simp;omega),List.getElem_append_right (by simp;omega)];have e1:min (off+(k+1)) cs.size=off+k+1:=by omega
      have e2:min (off+k) cs.size=off+k:=by omega
      simp only[List.getElem_drop,List.length_append,List.length_take,List.length_set,Array.length_toList,e1,e2,List.length_cons];rw[List.getElem_set,if_neg (by omega)]
      congr 1;omega

theorem Il(place:Nat->Option (Nat×Nat))(cells:Array Value)(i:Nat)(v:Value)(rest:List (Nat×Value))(off size:Nat)(vs:List Value)
  (hp:place i=some (off,size)) (hv:v.cells=vs.toArray) (hl:vs.length=size) (hle:off+size<=cells.size) :
  Instr.fill place cells ((i,v)::rest)=Instr.fill place (cells.toList.take off++vs++cells.toList.drop (off+vs.length)).toArray rest:=by
 have:=mD vs 0 off cells (by omega);rw[Instr.fill,hp];simp only[hv];rw[if_neg (by simp;omega)]
 congr 1
 simp only[Nat.add_zero] at this;rw[<-this];simp

/-- Parts and their values, one by one. -/
def nC(ids:dV)(im:Nat->Prop)(w:World)(ps:List (Nat×A))(qs:List (Nat×Value)):Prop :=
 ps.length=qs.length/\∀j (h:j<ps.length) (h':j<qs.length),ps[j].1=qs[j].1/\Rel ids im w ps[j].2 qs[j].2

theorem nC.cons_inv{p:Nat×A}{ps:List (Nat×A)}{qs:List (Nat×Value)}(h:nC ids im w (p::ps) qs):
  ∃v WY,qs=(p.1,v)::WY/\Rel ids im w p.2 v/\nC ids im w ps WY:=by
 obtain⟨hl,hr⟩:=h;cases qs with
 | nil=>simp at hl
 | cons q qs =>
  have h0:=hr 0 (by simp) (by simp);simp at h0;refine⟨q.2,qs,?_,h0.2,by simpa using hl,?_⟩
  ·rw[h0.1]
  ·intro j h1 h2;have:=hr (j+1) (by simpa using h1) (by simpa using h2);simpa using this

theorem pH{ti:TI}:∀(ps:List (Nat×A)) (qs:List (Nat×Value)) (cs:List A) (vs:List Value) (K:List A->Prop),nC ids im w ps qs->vs.length=cs.length->(∀v∈vs,hU v) ->
  (∀j (h:j<cs.length) (h':j<vs.length),Rel ids im w cs[j] vs[j])->pF ti ps cs K ->
  ∃(dz:List A) (eD:List Value),Instr.fill (placeOf ti) vs.toArray qs=some eD.toArray/\K dz/\eD.length=dz.length/\(∀v∈eD,hU v)/\(∀j (h:j<dz.length) (h':j<eD.length),Rel ids im w dz[j] eD[j])
 | [],qs,cs,vs,K,hp,hl,ho,hr,h=>by
  have:qs=[]:=by have:=hp.1;cases qs<;>simp at this ⊢
  subst this;exact⟨cs,vs,rfl,h,hl,ho,hr⟩
 | (i,x)::ps,qs,cs,vs,K,hp,hl,ho,hr,h=>by
  obtain⟨v,WY,rfl,hv,Sf⟩:=hp.cons_inv;simp only[pF] at h;split at h
  ·rename_i off size us Sh hc;split at h
   ·rename_i h1 h2;have h1:=Nat.eq_of_beq_eq_true h1;have h2:=Nat.le_of_ble_eq_true h2;rw[cI] at h;obtain⟨xs,Ps,xr,O3,Tr⟩:=oG hc hv;obtain⟨q1,q2,q3⟩:=pG (ids:=ids) (im:=im) (w:=w) (cs:=cs) (us:=us) (vs:=vs) (xs:=xs) (off:=off) (by omega) hl xr hr Tr ho O3;obtain⟨dz,eD,f1,f2,f3,f4,f5⟩:=pH ps WY _ _ K Sf q1 q2 q3 h;refine⟨dz,eD,?_,f2,f3,f4,f5⟩;rw[Il _ _ i v WY off size xs Sh Ps (by omega) (by simp;omega)];simpa using f1
   ·exact h.elim
  ·exact h.elim
end
section
variable {c:Ctx} {s:List A} {m:List ar} {a:Act} {w w':World} {ids ab:dV} {P:Program} {im bL:Nat->Prop} {tt:TT}
variable {next:Act->World->Prop} {Q:Exit->Act->World->Prop} {o:Oper}

abbrev cL(c:Ctx)(s:List A)(o:Oper)(K:KT)(next:Act->World->Prop):Prop :=
 ∀v m' a' w' ab,K v m'->aJ c (bA s o.dst v) m' a' w' ab->next a' w'

/-- An operation that yields a value, the world as it was. -/
theorem aZ(hs:aJ c s m a w ids){K:KT}(hn:cL c s o K next)
  (h:∃r v,(execOp a.eval o).run P w=.ok (.value v) w/\K r m/\Rel ids (av c ids w) w r v):o.wp P a w next Q:=by
 obtain⟨r,v,h1,h2,h3⟩:=h;exact bj h1 (hn r m _ _ ids h2 (hs.bA o.dst h3))

theorem tm(hs:aJ c s m a w ids){X:Operand}(ho:o.op=.move X\/o.op=.assign X){K:KT}(h:K (ev s X) m)(hn:cL c s o K next):o.wp P a w next Q :=
 aZ hs hn ⟨_,a.eval X,by unfold execOp;rcases ho with ho|ho<;>rw[ho]<;>rfl,h,hs.ev X⟩

theorem Bp(hs:aJ c s m a w ids){X Y Z:Operand}(ho:o.op=.pick X Y Z){K:KT}(h:Bk (ev s X) (ev s Y) (ev s Z) fun v=>K v m)(hn:cL c s o K next):o.wp P a w next Q:=by
 have hx:=hs.ev X;have e:execOp a.eval o=(do pure (.value (if <-asBool (a.eval X) then a.eval Y else a.eval Z))):=by unfold execOp;rw[ho]
 unfold Bk at h;split at h
 ·rename_i hv;rw[hv] at hx;rw[dL] at h;exact aZ hs hn ⟨_,a.eval Y,by rw[e,hx.eC];rfl,h,hs.ev Y⟩
 ·rename_i hv;rw[hv] at hx;rw[dL] at h;exact aZ hs hn ⟨_,a.eval Z,by rw[e,hx.eC];rfl,h,hs.ev Z⟩
 ·rename_i b hv;rw[hv] at hx;rw[dL,dL] at h;cases b
  ·exact aZ hs hn ⟨_,a.eval Z,by rw[e,hx.jw];rfl,h.2 rfl,hs.ev Z⟩
  ·exact aZ hs hn ⟨_,a.eval Y,by rw[e,hx.jw];rfl,h.1 rfl,hs.ev Y⟩
 ·exact h.elim

theorem vn(hs:aJ c s m a w ids){X:Operand}{ix:Nat}(ho:o.op=.extract X ix){K:KT}(h:nB (ev s X) ix fun v=>K v m)(hn:cL c s o K next):o.wp P a w next Q:=by
 have hx:=hs.ev X;have e:execOp a.eval o=(do let z <-Instr.extract (a.eval X) ix;pure (.value z)):=by unfold execOp;rw[ho]
 unfold nB at h;split at h
 ·rename_i vs hv;rw[hv] at hx;split at h
  ·rename_i aH;have aH:ix<vs.length:=Nat.le_of_ble_eq_true aH;rw[dL] at h;obtain⟨us,h1,h2,h3⟩:=hx.kK;refine aZ hs hn ⟨_,us[ix]'(by omega),?_,h,?_⟩
   ·rw[e,h1];simp[Instr.extract,List.getElem?_eq_getElem (show ix<us.length by omega)]
   ·simpa[List.getD_eq_getElem?_getD,aH] using h3 ix aH (by omega)
  ·exact h.elim
 ·exact h.elim

theorem Ej(hs:aJ c s m a w ids){X:Operand}(ho:o.op=.nilCheck X){K:KT}(h:Kh (ev s X) fun v=>K v m)(hn:cL c s o K next):o.wp P a w next Q:=by
 have hx:=hs.ev X
 have fin:∀v,a.eval X=v->(∀p,v=.pointer p->p≠none)->((∃p,v=.pointer p)\/∃f us,v=.func (.func f) #[] us)->(execOp a.eval o).run P w=.ok (.value v) w:=by
  intro v hv h1 h2;unfold execOp;rw[ho];simp only[hv];rcases h2 with⟨p,rfl⟩|⟨f,us,rfl⟩
  ·cases p with
   | none=>exact absurd rfl (h1 none rfl)
   | some p=>rfl
  ·rfl
 unfold Kh at h;split at h
 ·rename_i hv;rw[hv] at hx
  obtain⟨q,h2⟩:∃q,a.eval X=.pointer (some q):=by
   rcases hx.iV with⟨p,_,h2⟩|⟨_,x,y,h2⟩<;>exact⟨_,h2⟩
  exact aZ hs hn ⟨_,a.eval X,fin _ rfl (fun q hq=>by rw[h2] at hq;cases hq;simp) (.inl ⟨_,h2⟩),h,hx⟩
 ·rename_i hv;rw[hv] at hx
  obtain⟨q,h2⟩:∃q,a.eval X=.pointer (some q):=by
   rcases hx.ja with⟨p,_,h2⟩|⟨_,x,y,h2⟩<;>exact⟨_,h2⟩
  exact aZ hs hn ⟨_,a.eval X,fin _ rfl (fun q hq=>by rw[h2] at hq;cases hq;simp) (.inl ⟨_,h2⟩),h,hx⟩
 ·rename_i hv;rw[hv] at hx
  have h2:∃q,a.eval X=.pointer (some q):=by
   cases hx with|aL hx=>generalize a.eval X=vv at hx;cases hx;exact⟨_,rfl⟩
  obtain⟨q,h2⟩:=h2;exact aZ hs hn ⟨_,a.eval X,fin _ rfl (fun q hq=>by rw[h2] at hq;cases hq;simp) (.inl ⟨_,h2⟩),h,hx⟩
 ·rename_i hv;rw[hv] at hx;obtain⟨us,h2,_⟩:=hx.ig;exact aZ hs hn ⟨_,a.eval X,fin _ rfl (fun q hq=>by rw[h2] at hq;cases hq) (.inr ⟨_,_,h2⟩),h,hx⟩
 ·exact h.elim

theorem tn(aN:bM P tt)(hs:aJ c s m a w ids){X:Operand}{src dst:TypeId}(ho:o.op=.convert src dst X){K:KT}(h:xM tt src dst (ev s X) fun v=>K v m)(hn:cL c s o K next):o.wp P a w next Q:=by
 have hx:=hs.ev X;have e:execOp a.eval o=(do let z <-convert src dst (a.eval X);pure (.value z)):=by unfold execOp;rw[ho]
 unfold xM at h;split at h
 ·rename_i tj ti hj hi;obtain⟨i,d,z,_,hd,_⟩:=aN.facts hj;obtain⟨i',d',z',_,gS,_,_,_,_,_,_,_,_,_,_,Sc,tZ,_⟩:=aN.facts hi;split at h
  ·rename_i k n hk hv;rw[hv] at hx;rw[Sc hk] at gS;rw[Ki] at h;refine aZ hs hn ⟨_,.int ti.ik (ti.ik.wrap n),?_,nz h,.aL (.int _ _)⟩;rw[e,hx.cC];simp[convert,underlying,hd,gS,Conv.intToInt]
  ·rename_i st hk hv;rw[hv] at hx;rw[tZ hk] at gS;refine aZ hs hn ⟨_,.string ⟨st.toArray⟩,?_,h,.aL (.str _)⟩;rw[e,hx.iU];simp[convert,underlying,hd,gS]
  ·exact h.elim
 ·exact h.elim
end
section
variable {c:Ctx} {s:List A} {m:List ar} {a:Act} {w w':World} {ids ab:dV} {P:Program} {im bL:Nat->Prop} {tt:TT}
variable {next:Act->World->Prop} {Q:Exit->Act->World->Prop} {o:Oper}

theorem Bq{cs:List A}{off:Nat}{v:Value}(h:Rel ids im w (.bref cs off) v):
  ∃aq base,v=.pointer (some ⟨aq,base+off,none⟩)/\∀Pv,Rel ids im w (.bref cs Pv) (.pointer (some ⟨aq,base+Pv,none⟩)):=by
 cases h with
 | aL h=>cases h with|bref aq base _ _ vs hb hc ho hr=>exact⟨aq,base,rfl,fun Pv=>.aL (.bref aq base Pv cs vs hb hc ho hr)⟩

theorem sc(aN:bM P tt)(hs:aJ c s m a w ids){t:TypeId}{X:Operand}{f:Nat}(ho:o.op=.fieldAddr t X f){K:KT}
  (h:iM tt t (ev s X) f m K) (hn:cL c s o K next):o.wp P a w next Q:=by
 have hx:=hs.ev X;have e:execOp a.eval o=(do let z <-Instr.fieldAt t (a.eval X) f;pure (.value z)):=by unfold execOp;rw[ho]
 unfold iM at h;split at h
 ·exact h.elim
 ·rename_i ti ht;obtain⟨i,d,z,hi,hd,_,_,_,_,_,_,Bm,Eh,_⟩:=aN.facts ht;split at h
  ·rename_i hk;obtain⟨fs,WZ,Km⟩:=Bm hk;obtain⟨Ts,Kn,iq⟩:=Eh hk;have:Ts=fs:=by rw[WZ] at Kn;cases Kn;rfl
   subst this;subst WZ;split at h
   ·exact h.elim
   ·rename_i fo fsz Si;rw[Km,List.getElem?_map] at Si;cases Pf:Ts.toList[f]? with
    | none=>rw[Pf] at Si;cases Si
    | some fd =>
     rw[Pf] at Si;simp only[Option.map_some,Option.some.injEq,Prod.mk.injEq] at Si;obtain⟨rfl,rfl⟩:=Si
     have cj:((P.info? fd.type).map (·.size)).getD 0≠0:=by
      have:=List.all_eq_true.1 iq fd (List.mem_of_getElem? Pf);simpa using this
     have run:∀aq off,a.eval X=.pointer (some ⟨aq,off,none⟩)->(execOp a.eval o).run P w=.ok (.value (.pointer (some ⟨aq,off+fd.offset,none⟩))) w:=by
      intro aq off hv;rw[e,hv];cases Tt:P.info? fd.type with
      | none=>rw[Tt] at cj;simp at cj
      | some fi =>
       rw[Tt] at cj;simp only[Option.map_some,Option.getD_some] at cj;have hfa:Ts[f]?=some fd:=by simpa using Pf
       have Ko:Addr.add ⟨aq,off,none⟩ fd.offset=⟨aq,off+fd.offset,none⟩:=by
        unfold Addr.add;split
        ·rename_i h0;rw[h0];rfl
        ·rfl
       simp[Instr.fieldAt,underlying,hd,hfa,Instr.sureAddr,fieldPlace,sizeOf,typeInfo,Tt,cj,Ko]
     split at h
     ·rename_i b off hv;rw[hv] at hx;rw[aX] at h;rcases hx.iV with⟨p,h1,h2⟩|⟨h1,x,y,h2⟩
      ·exact aZ hs hn ⟨_,_,run _ _ h2,h,.ref b _ p h1⟩
      ·exact aZ hs hn ⟨_,_,run _ _ h2,h,.lC b _ _ _ h1⟩
     ·rename_i b i' off hv;rw[hv] at hx;rw[aX] at h;rcases hx.ja with⟨p,h1,h2⟩|⟨h1,x,y,h2⟩
      ·refine aZ hs hn ⟨_,_,run _ _ h2,h,?_⟩;rw[Nat.add_assoc];exact .oref b i' _ p h1
      ·exact aZ hs hn ⟨_,_,run _ _ h2,h,.ic b i' _ _ _ h1⟩
     ·rename_i cs off hv;rw[hv] at hx;obtain⟨aq,base,h1,h2⟩:=Bq hx;rw[aX] at h;refine aZ hs hn ⟨_,_,run _ _ h1,h,?_⟩;rw[Nat.add_assoc];exact h2 _
     ·exact h.elim
  ·exact h.elim

theorem vo(aq off n:Nat):Addr.add ⟨aq,off,none⟩ n=⟨aq,off+n,none⟩:=by
 unfold Addr.add;split
 ·rename_i h0;rw[h0];rfl
 ·rfl

theorem sd(aN:bM P tt)(hs:aJ c s m a w ids){t:TypeId}{X Y:Operand}(ho:o.op=.indexAddr t X Y){K:KT}
  (h:fz tt t (ev s X) (ev s Y) m K) (hn:cL c s o K next):o.wp P a w next Q:=by
 have hx:=hs.ev X;have hy:=hs.ev Y;have e:execOp a.eval o=(do let z <-Instr.indexAt t (a.eval X) (a.eval Y);pure (.value z)):=by unfold execOp;rw[ho]
 unfold fz at h;split at h
 ·exact h.elim
 ·rename_i ti ht;obtain⟨i,d,z,hi,hd,_,_,_,_,_,_,_,_,nu,kA,_⟩:=aN.facts ht;split at h
  ·rename_i k ix hk hv;rw[hv] at hy;obtain⟨ie,ze,Ek,jJ,pI,_⟩:=kA hk;subst Ek
   have run:∀aq base n cap,a.eval X=.slice (some ⟨aq,base,none⟩) n cap->0<=ix->ix<n->(execOp a.eval o).run P w=.ok (.value (.pointer (some ⟨aq,base+ix.toNat*ti.bN,none⟩))) w:=by
    intro aq base n cap Br h0 h1;rw[e,Br,hy.cC];simp[Instr.indexAt,asIntOf,underlying,hd,h0,h1,sizeOf,typeInfo,jJ,pI,vo]
   split at h
   ·rename_i n sz row Br;rw[Br] at hx;split at h
    ·rename_i cj;have cj:sz=ti.bN:=Nat.eq_of_beq_eq_true cj;obtain⟨⟨h0,h1⟩,h⟩:=h;rw[cI] at h;cases hx with
     | aL hx =>
      generalize Wp:a.eval X=vv at hx;cases hx with
      | uu=>exact absurd h1 (by simp;omega)
      | sle=>exact absurd h1 (by simp;omega)
      | sl _ _ _ aq base cap vs hb mw hl hc WX hr =>
       have aH:ix.toNat<n:=by omega
       refine aZ hs hn ⟨_,_,run _ _ _ _ Wp h0 h1,h,?_⟩;rw[<-cj];refine .aL (.bref aq (base+ix.toNat*sz) 0 (row ix.toNat) (vs ix.toNat) hb ?_ ?_ ?_)
       ·intro j hj;rw[hl _ aH] at hj;exact hc _ _ aH hj
       ·intro j hj;rw[hl _ aH] at hj;exact WX _ _ aH hj
       ·intro j hj;exact hr _ _ aH hj
    ·exact h.elim
   ·rename_i b Br;rw[Br] at hx;split at h
    ·rename_i ty sz n row hb;split at h
     ·rename_i cj;have cj:sz=ti.bN:=Nat.eq_of_beq_eq_true cj;obtain⟨⟨h0,h1⟩,h⟩:=h;rcases hs.gC hx (by rw[hb];simp) with⟨g1,g2⟩|⟨p,cap,g1,g2,g3,g4⟩
      ·exfalso
       have gk:b<ids.length:=by
        rcases Nat.lt_or_ge b ids.length with h'|h'
        ·exact h'
        ·rw[List.getElem?_eq_none h'] at g1;cases g1
       have mE:b<m.length:=by rw[<-hs.aU];exact gk
       have ng:=hs.bP b mE gk;rw[List.getElem?_eq_getElem gk] at g1;rw[Option.some.inj g1] at ng;have:m[b]=.row ty sz n row:=by simpa[List.getD_eq_getElem?_getD,mE] using hb
       rw[this] at ng;have ng:n=0:=ng;omega
      ·obtain⟨x,nD,ng⟩:=hs.fu g1;rw[bI nD] at hb;subst hb;obtain⟨q1,q2,_⟩:=ng;rw[q2] at g4;refine aZ hs hn ⟨_,_,run _ _ _ _ g4 h0 h1,h,?_⟩;have:=Rel.oref (ids:=ids) (im:=av c ids w) (w:=w) b ix.toNat 0 p g1;rw[<-cj,<-q1];simpa using this
     ·exact h.elim
    ·exact h.elim
   ·exact h.elim
  ·rename_i k ix hk hv;rw[hv] at hy;obtain⟨ie,Ek,jJ,pI⟩:=nu hk;subst Ek
   have run:∀aq off,a.eval X=.pointer (some ⟨aq,off,none⟩)->0<=ix->ix<(ti.mz:Int)->(execOp a.eval o).run P w=.ok (.value (.pointer (some ⟨aq,off+ix.toNat*ti.bN,none⟩))) w:=by
    intro aq off Br h0 h1;rw[e,Br,hy.cC];simp[Instr.indexAt,asIntOf,underlying,hd,Instr.sureAddr,h0,h1,sizeOf,typeInfo,jJ,pI,vo]
   split at h
   ·rename_i b off Br;rw[Br] at hx;obtain⟨⟨h0,h1⟩,h⟩:=h;rw[aX] at h;rcases hx.iV with⟨p,g1,g2⟩|⟨g1,x,y,g2⟩
    ·exact aZ hs hn ⟨_,_,run _ _ g2 h0 h1,h,.ref b _ p g1⟩
    ·exact aZ hs hn ⟨_,_,run _ _ g2 h0 h1,h,.lC b _ _ _ g1⟩
   ·rename_i cs off Br;rw[Br] at hx;obtain⟨⟨h0,h1⟩,h⟩:=h;obtain⟨aq,base,g1,g2⟩:=Bq hx;rw[aX] at h;refine aZ hs hn ⟨_,_,run _ _ g1 h0 h1,h,?_⟩;rw[Nat.add_assoc];exact g2 _
   ·exact h.elim
  ·exact h.elim
end
section
variable {c:Ctx} {s:List A} {m:List ar} {a:Act} {w w':World} {ids ab:dV} {P:Program} {im bL:Nat->Prop} {tt:TT}
variable {next:Act->World->Prop} {Q:Exit->Act->World->Prop} {o:Oper}

/-- A new block, and a value that names it. -/
theorem yX(hs:aJ c s m a w ids){K:KT}(hn:cL c s o K next)(x:ar)(vs:Array Value)(ty:TypeId)(n sz:Nat){r:A}{v:Value}
  (cz:(execOp a.eval o).run P w=.ok (.value v) (w.alloc (.cells vs ty))) (hk:K r (m++[x]))
  (hx:∀ab bL w',(∀b,av c ids w b->bL b)->(∀b,av c ids w b->w'.heap[b]?=w.heap[b]?)->(∀(b:Nat) p,ids[b]?=some p->p≠.dead->ab[b]?=some p) ->
   w'.heap[w.heap.size]?=some (.cells vs ty (0,0))->bq ab bL w' x (.lv (mkId w.heap.size vs.size n sz)))
  (hr:∀ab bL w',ab[m.length]?=some (.lv (mkId w.heap.size vs.size n sz))->Rel ab bL w' r v):o.wp P a w next Q:=by
 have bY:=hs.alloc x vs ty n sz hx;refine bj cz (hn r _ _ _ _ hk (bY.bA o.dst (hr _ _ _ ?_)));rw[<-hs.aU];simp

theorem El(hs:aJ c s m a w ids){t:TypeId}{X:Operand}(ho:o.op=.box t X){K:KT}(h:Tk t (ev s X) m K)(hn:cL c s o K next):o.wp P a w next Q:=by
 have hx:=hs.ev X;unfold Tk at h;split at h
 ·rename_i cs hc;rw[gj] at h;obtain⟨vs,h1,h2,h3,h4⟩:=oG hc hx;refine yX hs hn (.box t cs) vs.toArray t 0 0 (v:=.pointer (some ⟨w.heap.size,0,none⟩)) ?_ h ?_ ?_
  ·unfold execOp;rw[ho];simp[Instr.box,newVar,newRow,h1]
  ·intro ab bL w' g1 g2 g3 g4;refine⟨vs.toArray,g4,rfl,by simp[h2],?_⟩;intro j hj cH;simp at cH;refine⟨(by simpa using(h4 j hj cH).mono g1 g2 g3),?_⟩;simpa using h3 _ (List.getElem_mem cH)
  ·intro ab bL w' g;exact .ref _ _ _ g
 ·exact h.elim

theorem yY(aN:bM P tt)(hs:aJ c s m a w ids){t:TypeId}(ho:o.op=.alloc t){K:KT}(h:Ee tt t m K)(hn:cL c s o K next):o.wp P a w next Q:=by
 unfold Ee at h;split at h
 ·rename_i ti ht;obtain⟨i,d,z,hi,hd,hz,cj,gR,rP,hzero,_⟩:=aN.facts ht;rw[gj] at h;refine yX hs hn (.box t ti.zero) z.cells t 0 0 (v:=.pointer (some ⟨w.heap.size,0,none⟩)) ?_ h ?_ ?_
  ·unfold execOp;rw[ho];simp[Instr.alloc,zeroValue,typeInfo,hi,hz,newVar,newRow]
  ·intro ab bL w' g1 g2 g3 g4;refine⟨z.cells,g4,rfl,by simp[hzero],?_⟩;intro j hj cH;refine⟨?_,gR _ (by simp)⟩;simp only[hzero,List.getElem_map,Array.getElem_toList];exact .aL (fp _ _ _)
  ·intro ab bL w' g;exact .ref _ _ _ g
 ·exact h.elim

theorem xO(hs:aJ c s m a w ids)(ps:List (Nat×Operand)):nC ids (av c ids w) w (ps.map fun p=>(p.1,ev s p.2)) (ps.map fun p=>(p.1,a.eval p.2)) :=
 ⟨by simp,fun j h h'=>by simp;exact hs.ev _⟩

theorem Im(fs:List Field)(h:fs.all (fun f=>((P.info? f.type).map (·.size)).getD 0 != 0)=true):
  fs.mapM (fun f=>(P.info? f.type).map fun i=>(f.offset,i.size))=some (fs.map fun f=>(f.offset,((P.info? f.type).map (·.size)).getD 0)):=by
 induction fs with
 | nil=>rfl
 | cons f fs ih =>
  simp only[List.all_cons,Bool.and_eq_true] at h;cases hi:P.info? f.type with
  | none=>rw[hi] at h;simp at h
  | some i=>simp[hi,ih h.2]

theorem yZ(aN:bM P tt)(hs:aJ c s m a w ids){t:TypeId}{ps:Array (Nat×Operand)}(ho:o.op=.build t ps){K:KT}
  (h:r9 tt t (ps.toList.map fun p=>(p.1,ev s p.2)) m K) (hn:cL c s o K next):o.wp P a w next Q:=by
 have hp:=xO hs ps.toList;unfold r9 at h;split at h
 ·exact h.elim
 ·rename_i ti ht;obtain⟨i,d,z,hi,hd,hz,cj,gR,rP,hzero,_,Bm,Eh,nu,_⟩:=aN.facts ht
  have key:pF ti (ps.toList.map fun p=>(p.1,ev s p.2)) ti.zero (fun cs=>K (.agg cs) m)->(∀parts eD,Instr.fill (placeOf ti) z.cells parts=some eD->P.built t parts=some eD)->o.wp P a w next Q:=by
   intro h hb
   obtain⟨dz,eD,f1,f2,f3,f4,f5⟩:=pH (ti:=ti) _ _ ti.zero z.cells.toList _ hp (by simp[hzero]) gR
    (fun j h1 h2=>by simp only[hzero,List.getElem_map];exact .aL (fp _ _ _)) h
   refine aZ hs hn ⟨_,.agg eD.toArray,?_,f2,.agg dz eD f3 f4 f5⟩;have:=run_build (P:=P) w t (ps.map fun p=>(p.1,a.eval p.2)) eD.toArray (hb _ _ (by simpa using f1));have e:execOp a.eval o=(do let z <-Instr.build t (ps.map fun p=>(p.1,a.eval p.2));pure (.value z)):=by unfold execOp;rw[ho]
   rw[e];simp[this]
  split at h
  ·rename_i hk;obtain⟨fs,WZ,Km⟩:=Bm hk;obtain⟨Ts,Kn,iq⟩:=Eh hk;have:Ts=fs:=by rw[WZ] at Kn;cases Kn;rfl
   subst this;subst WZ;refine key h ?_;intro parts eD hf;unfold Program.built;simp only[hi,hd,hz,Im Ts.toList iq]
   have:(fun x=>(Ts.toList.map fun f=>(f.offset,((P.info? f.type).map (·.size)).getD 0)).toArray[x]?)=placeOf ti:=by
    funext x;unfold placeOf;rw[hk];simp[Km]
   rw[this];exact hf
  ·rename_i hk;obtain⟨ie,Ek,jJ,pI⟩:=nu hk;subst Ek;refine key h ?_;intro parts eD hf;unfold Program.built;simp only[hi,hd,hz,jJ]
   have:(fun i=>some (i*ie.size,ie.size))=placeOf ti:=by
    funext x;unfold placeOf;rw[hk,pI];rfl
   rw[this];exact hf
  ·exact h.elim

theorem oH(hs:aJ c s m a w ids){b:Nat}{v:Value}(hx:Rel ids (av c ids w) w (.own b) v){ty:TypeId}{sz n:Nat}{row:Nat->List A}(hb:m.getD b .dead=.row ty sz n row):
  (n=0/\v=.slice none 0 0/\ids[b]?=some .bg)\/∃p cap,ids[b]?=some (.lv p)/\(n<=cap/\cap<=maxLen)/\cap*sz=p.k/\p.sz=sz/\p.n=n/\v=.slice (some ⟨p.aq,0,none⟩) n cap:=by
 rcases hs.gC hx (by rw[hb];simp) with⟨g1,g2⟩|⟨p,cap,g1,g2,g3,g4⟩
 ·have gk:b<ids.length:=by
   rcases Nat.lt_or_ge b ids.length with h'|h'
   ·exact h'
   ·rw[List.getElem?_eq_none h'] at g1;cases g1
  have mE:b<m.length:=by rw[<-hs.aU];exact gk
  have ng:=hs.bP b mE gk;rw[List.getElem?_eq_getElem gk] at g1;rw[Option.some.inj g1] at ng;have:m[b]=.row ty sz n row:=by simpa[List.getD_eq_getElem?_getD,mE] using hb
  rw[this] at ng;exact .inl ⟨ng,g2,by rw[List.getElem?_eq_getElem gk];exact g1⟩
 ·obtain⟨x,nD,ng⟩:=hs.fu g1;rw[bI nD] at hb;subst hb;obtain⟨q1,q2,_⟩:=ng;exact .inr ⟨p,cap,g1,by rw[<-q2];exact g2,by rw[<-q1];exact g3,q1,q2,by rw[<-q2];exact g4⟩

theorem Em(aN:bM P tt)(hs:aJ c s m a w ids){X:Operand}{t:TypeId}
  (ho:o.op=.call { callee:=.builtin .len,args:=#[X],argTypes:=#[t] }) {K:KT} (h:Bj tt t (ev s X) m fun v=>K v m) (hn:cL c s o K next):o.wp P a w next Q:=by
 have hx:=hs.ev X
 have e:(execOp a.eval o)=(do pure (.value (<-Builtin.len_ #[t] o.type #[a.eval X]))):=by
  obtain⟨dst,op,ty,pos,after,guard⟩:=o;simp only at ho;subst ho;rw[BigFrame.execOp_builtin,BigFrame.builtin_len];simp
 unfold Bj at h;split at h
 ·exact h.elim
 ·rename_i ti ht;obtain⟨i,d,z,hi,hd,hz,cj,gR,rP,hzero,_,Bm,Eh,nu,kA,Sc,tZ,_⟩:=aN.facts ht
  have Io:∀ad n cap,a.eval X=.slice ad n cap->ti.kind=3->(execOp a.eval o).run P w=.ok (.value (.int .i64 n)) w:=by
   intro ad n cap hv hk;obtain⟨ie,ze,Ek,_⟩:=kA hk;subst Ek;rw[e,hv];simp[Builtin.len_,underlying,hd,goInt]
  split at h
  ·rename_i n sz row hk hv;rw[hv] at hx;cases hx with
   | aL hx =>
    generalize Wp:a.eval X=vv at hx;cases hx with
    | uu=>exact aZ hs hn ⟨_,_,Io _ _ _ Wp hk,h,.aL (.int _ _)⟩
    | sle=>exact aZ hs hn ⟨_,_,Io _ _ _ Wp hk,h,.aL (.int _ _)⟩
    | sl=>exact aZ hs hn ⟨_,_,Io _ _ _ Wp hk,h,.aL (.int _ _)⟩
  ·rename_i b hk hv;rw[hv] at hx;split at h
   ·rename_i ty sz n row hb;rcases oH hs hx hb with⟨rfl,g2,_⟩|⟨p,cap,g1,g2,g3,_,_,g4⟩
    ·exact aZ hs hn ⟨_,_,Io _ _ _ g2 hk,h,.aL (.int _ _)⟩
    ·exact aZ hs hn ⟨_,_,Io _ _ _ g4 hk,h,.aL (.int _ _)⟩
   ·exact h.elim
  ·rename_i hk hv;rw[hv] at hx;exact aZ hs hn ⟨_,_,Io _ _ _ hx.dO hk,h,.aL (.int _ _)⟩
  ·rename_i st hk hv;rw[hv] at hx;have gD:=tZ hk;subst gD;refine aZ hs hn ⟨_,.int .i64 st.length,?_,h,.aL (.int _ _)⟩;rw[e,hx.iU];simp[Builtin.len_,underlying,hd,goInt];rfl
  ·exact h.elim
end
section
variable {c:Ctx} {s:List A} {m:List ar} {a:Act} {w w':World} {ids ab:dV} {P:Program} {im bL:Nat->Prop} {tt:TT}
variable {next:Act->World->Prop} {Q:Exit->Act->World->Prop} {o:Oper}

theorem y7(aN:bM P tt)(hs:aJ c s m a w ids){t:TypeId}{X Y:Operand}(ho:o.op=.index t X Y){K:KT}
  (h:vl tt t (ev s X) (ev s Y) fun v=>K v m) (hn:cL c s o K next):o.wp P a w next Q:=by
 have hx:=hs.ev X;have hy:=hs.ev Y;have e:execOp a.eval o=(do let z <-Instr.index t (a.eval X) (a.eval Y);pure (.value z)):=by unfold execOp;rw[ho]
 unfold vl at h;split at h
 ·rename_i ti k ix ht hv;rw[hv] at hy;obtain⟨i,d,z,hi,hd,hz,cj,gR,rP,hzero,_,Bm,Eh,nu,kA,Sc,tZ,_⟩:=aN.facts ht;split at h
  ·rename_i st hk Br;rw[Br] at hx;have gD:=tZ hk;subst gD;obtain⟨⟨h0,h1⟩,h⟩:=h;have aH:ix.toNat<st.length:=by omega
   refine aZ hs hn ⟨_,_,?_,h,.aL (.int _ _)⟩;rw[e,hx.iU,hy.cC]
   have hg:(ByteArray.mk st.toArray)[ix.toNat]?=some (st[ix.toNat]):=by
    have:ix.toNat<(ByteArray.mk st.toArray).size:=aH;exact(getElem?_pos (ByteArray.mk st.toArray) ix.toNat this)
   simp[Instr.index,asIntOf,underlying,hd,h0,hg,List.getD_eq_getElem?_getD,aH]
  ·rename_i cs hk Br;rw[Br] at hx;obtain⟨ie,Ek,jJ,pI⟩:=nu hk;subst Ek;split at h
   ·rename_i te Bc;obtain⟨⟨h0,h1⟩,h⟩:=h;obtain⟨i',d',z',cx,gS,_,Kq,_,_,_,Kr,_⟩:=aN.facts Bc;have hie':ie=i':=by rw[jJ] at cx;exact Option.some.inj cx
    obtain⟨vs,D4,Kj,ZB,Sd⟩:=hx.iW
    have run:∀v,(part ti.aW vs.toArray (ix.toNat*ti.bN)).run P w=.ok v w->(execOp a.eval o).run P w=.ok (.value v) w:=by
     intro v hp;rw[e,D4,hy.cC];simp[Instr.index,asIntOf,underlying,hd,h0,h1,sizeOf,typeInfo,jJ,pI,hp]
    unfold Kf at h;split at h
    ·rename_i hb;split at h
     ·rename_i hle;have hle:=Nat.le_of_ble_eq_true hle;rw[cI,lH] at h;have Tq:((vs.drop (ix.toNat*ti.bN)).take te.size).length=te.size:=by simp;omega
      refine aZ hs hn ⟨_,.agg ((vs.drop (ix.toNat*ti.bN)).take te.size).toArray,run _ ?_,h,.agg _ _ (by rw[Tq];simp;omega) ?_ ?_⟩
      ·unfold part isAgg;rw[Kr] at hb;cases d'<;>simp[fq] at hb<;>simp[underlying,gS,sizeOf,typeInfo,cx,Kq]
      ·intro v hv;exact ZB v (List.mem_of_mem_drop (List.mem_of_mem_take hv))
      ·intro j h1 h2;simp at h1 h2;have:=Sd (ix.toNat*ti.bN+j) (by omega) (by omega);simpa using this
     ·exact h.elim
    ·rename_i hb;split at h
     ·rename_i aH;have aH:ix.toNat*ti.bN<cs.length:=Nat.le_of_ble_eq_true aH;rw[dL] at h;refine aZ hs hn ⟨_,vs[ix.toNat*ti.bN]'(by omega),run _ ?_,h,?_⟩
      ·unfold part isAgg;rw[Kr] at hb;cases d'<;>simp[fq] at hb<;>simp[underlying,gS,List.getElem?_eq_getElem (show ix.toNat*ti.bN<vs.length by omega)]
      ·simpa[List.getD_eq_getElem?_getD,aH] using Sd _ aH (by omega)
     ·exact h.elim
   ·exact h.elim
  ·exact h.elim
 ·exact h.elim

theorem y8(aN:bM P tt)(hs:aJ c s m a w ids){t:TypeId}{X:Operand}{f:Nat}(ho:o.op=.field t X f){K:KT}
  (h:vm tt t (ev s X) f fun v=>K v m) (hn:cL c s o K next):o.wp P a w next Q:=by
 have hx:=hs.ev X;have e:execOp a.eval o=(do let z <-Instr.field t (a.eval X) f;pure (.value z)):=by unfold execOp;rw[ho]
 unfold vm at h;split at h
 ·exact h.elim
 ·rename_i ti ht;split at h
  ·rename_i fo fsz ft cs hk hfo hft Br;rw[Br] at hx;obtain⟨fs,hd,hf1,hf2⟩:=aN.qn ht hk;rw[hf1] at hft;rw[hf2] at hfo;simp only[List.getElem?_map,Option.map_eq_some_iff] at hft hfo;obtain⟨Ks,Kt,rfl⟩:=hft;obtain⟨fl2,ua,hfl2⟩:=hfo;have e12:Ks=fl2:=by rw[Kt] at ua;exact Option.some.inj ua
   subst e12;have hoff:Ks.offset=fo:=congrArg Prod.fst hfl2;subst hoff;have hg:fs[f]?=some Ks:=by rw[<-Array.getElem?_toList];exact Kt
   split at h
   ·rename_i te Bc;obtain⟨i',d',z',cx,gS,_,Kq,_,_,_,Kr,_⟩:=aN.facts Bc;obtain⟨vs,D4,Kj,ZB,Sd⟩:=hx.iW
    have run:∀v,(part Ks.type vs.toArray Ks.offset).run P w=.ok v w->(execOp a.eval o).run P w=.ok (.value v) w:=by
     intro v hp;rw[e,D4];simp[Instr.field,underlying,hd,hg,asAgg,hp]
    unfold Kf at h;split at h
    ·rename_i hb;split at h
     ·rename_i hle;have hle:=Nat.le_of_ble_eq_true hle;rw[cI,lH] at h;have Tq:((vs.drop Ks.offset).take te.size).length=te.size:=by simp;omega
      refine aZ hs hn ⟨_,.agg ((vs.drop Ks.offset).take te.size).toArray,run _ ?_,h,.agg _ _ (by rw[Tq];simp;omega) ?_ ?_⟩
      ·unfold part isAgg;rw[Kr] at hb;cases d'<;>simp[fq] at hb<;>simp[underlying,gS,sizeOf,typeInfo,cx,Kq]
      ·intro v hv;exact ZB v (List.mem_of_mem_drop (List.mem_of_mem_take hv))
      ·intro j h1 h2;simp at h1 h2;have:=Sd (Ks.offset+j) (by omega) (by omega);simpa using this
     ·exact h.elim
    ·rename_i hb;split at h
     ·rename_i aH;have aH:Ks.offset<cs.length:=Nat.le_of_ble_eq_true aH;rw[dL] at h;refine aZ hs hn ⟨_,vs[Ks.offset]'(by omega),run _ ?_,h,?_⟩
      ·unfold part isAgg;rw[Kr] at hb;cases d'<;>simp[fq] at hb<;>simp[underlying,gS,List.getElem?_eq_getElem (show Ks.offset<vs.length by omega)]
      ·simpa[List.getD_eq_getElem?_getD,aH] using Sd _ aH (by omega)
     ·exact h.elim
   ·exact h.elim
  ·exact h.elim

theorem mF(hs:aJ c s m a w ids)(xs:List Operand):∀j (h:j<(xs.map (ev s)).length) (h':j<(xs.map a.eval).length),Rel ids (av c ids w) w (xs.map (ev s))[j] (xs.map a.eval)[j]:=by
 intro j h h';simp;exact hs.ev _

theorem ub(hs:aJ c s m a w ids){f:FuncId}{xs:Array Operand}(ho:o.op=.makeFunc (.func f) #[] xs){K:KT}
  (h:K (.fn f (xs.toList.map (ev s))) m) (hn:cL c s o K next):o.wp P a w next Q:=by
 refine aZ hs hn ⟨_,.func (.func f) #[] (xs.toList.map a.eval).toArray,?_,h,.fn f _ _ (by simp) (mF hs xs.toList)⟩;have e:(xs.map a.eval)=(xs.toList.map a.eval).toArray:=by apply Array.ext';simp
 unfold execOp;rw[ho];simp[Instr.makeFunc,e]

def Ku:A->List A->(A->Prop)->Prop
 | x,[],K=>fv x K
 | x,y::ys,K=>Zz x y fun v=>Ku v ys K
def Kv:A->List A->(A->Prop)->Prop
 | x,[],K=>fv x K
 | x,y::ys,K=>ZA x y fun v=>Kv v ys K
theorem xP:∀(ys:List A) (vs:List Value) (x:A) (v:Value) (K:A->Prop),Rel ids im w x v->ys.length=vs.length->(∀j (h:j<ys.length) (h':j<vs.length),Rel ids im w ys[j] vs[j])->Ku x ys K ->
  ∃r u,(vs.foldlM Builtin.min2 v).run P w=.ok u w/\K r/\Rel ids im w r u
 | [],vs,x,v,K,hx,hl,hr,h=>by
  have:vs=[]:=by cases vs<;>simp at hl ⊢
  subst this;rw[Ku,dL] at h;exact⟨x,v,by simp,h,hx⟩
 | y::ys,vs,x,v,K,hx,hl,hr,h=>by
  cases vs with
  | nil=>simp at hl
  | cons u us =>
   have hy:Rel ids im w y u:=hr 0 (by simp) (by simp);simp only[Ku] at h;unfold Zz at h;split at h
   ·rename_i k a' k' b';rw[hx.cC,hy.cC]
    obtain⟨r,z,h1,h2,h3⟩:=xP ys us (.int k (if b'<a' then b' else a')) (.int k (if b'<a' then b' else a')) K (.aL (.int _ _)) (by simpa using hl)
     (fun j h1 h2=>hr (j+1) (Nat.succ_lt_succ h1) (Nat.succ_lt_succ h2)) h
    exact⟨r,z,by simp[List.foldlM_cons,Builtin.min2,h1],h2,h3⟩
   ·exact h.elim
theorem xQ:∀(ys:List A) (vs:List Value) (x:A) (v:Value) (K:A->Prop),Rel ids im w x v->ys.length=vs.length->(∀j (h:j<ys.length) (h':j<vs.length),Rel ids im w ys[j] vs[j])->Kv x ys K ->
  ∃r u,(vs.foldlM Builtin.max2 v).run P w=.ok u w/\K r/\Rel ids im w r u
 | [],vs,x,v,K,hx,hl,hr,h=>by
  have:vs=[]:=by cases vs<;>simp at hl ⊢
  subst this;rw[Kv,dL] at h;exact⟨x,v,by simp,h,hx⟩
 | y::ys,vs,x,v,K,hx,hl,hr,h=>by
  cases vs with
  | nil=>simp at hl
  | cons u us =>
   have hy:Rel ids im w y u:=hr 0 (by simp) (by simp);simp only[Kv] at h;unfold ZA at h;split at h
   ·rename_i k a' k' b';rw[hx.cC,hy.cC]
    obtain⟨r,z,h1,h2,h3⟩:=xQ ys us (.int k (if a'<b' then b' else a')) (.int k (if a'<b' then b' else a')) K (.aL (.int _ _)) (by simpa using hl)
     (fun j h1 h2=>hr (j+1) (Nat.succ_lt_succ h1) (Nat.succ_lt_succ h2)) h
    exact⟨r,z,by simp[List.foldlM_cons,Builtin.max2,h1],h2,h3⟩
   ·exact h.elim
end
def fd:Nat->A->(A->Prop)->Prop
 | 0,x,K=>fv x K
 | d+1,x,K=>match x with
  | .agg cs=>sf d cs fun c=>K (.agg c)
  | .tup cs=>sf d cs fun c=>K (.tup c)
  | .fn f cs=>sf d cs fun c=>K (.fn f c)
  | .bref cs o=>sf d cs fun c=>K (.bref c o)
  | x=>fv x K
where sf (d:Nat):List A->(List A->Prop)->Prop
 | [],K=>K []
 | a::as,K=>fd d a fun a'=>sf d as fun j0=>K (a'::j0)
mutual
theorem fA:∀(d:Nat) (x:A) (K:A->Prop),fd d x K=K x
 | 0,x,K=>by rw[fd,dL]
 | d+1,x,K=>by cases x<;>simp only[fd,cX,dL]
theorem cX:∀(d:Nat) (l:List A) (K:List A->Prop),fd.sf d l K=K l
 | _,[],_=>by rw[fd.sf]
 | d,a::as,K=>by rw[fd.sf];simp only[fA,cX d as]
end

def plain:Nat->A->Bool
 | 0,_=>false
 | d+1,x=>match x with
  | .int _ _=>true
  | .bool _=>true
  | .sb _=>true
  | .str _=>true
  | .iH=>true
  | .aC=>true
  | .gO=>true
  | .agg cs=>cs.all (plain d)
  | .tup cs=>cs.all (plain d)
  | _=>false
/-- A cell of a slice of maps, as a value. -/
def gvA(agg:Bool)(sh:List KS)(x:Nat)(has:List KC->Bool)(val:List KC->A):A:=match x with
 | 0=>.gO
 | 1=>.mv agg sh has val
 | _=>.aj
def wk(m:List ar):Nat->A->A
 | 0,_=>.aj
 | d+1,x=>match x with
  | .ref b off=>match m.getD b .dead with
   | .box _ cs=>.bref (cs.map (wk m d)) off
   | _=>.aj
  | .oref _ _ _=>.aj
  | .own b=>match m.getD b .dead with
   | .row _ sz n row=>.sl n sz row
   | .nest _ _ sz n hole len row=>match hole with
    | none=>.sl n 1 fun i=>[.sl (len i) sz (row i)]
    | some _=>.aj
   | .cZ _ agg sh n _ cs kI has val=>match cs.isEmpty with
    | true=>.sl n 1 fun i=>[gvA agg sh (kI i) (has i) (val i)]
    | false=>.aj
   | _=>.aj
  | .omap b=>match m.getD b .dead with
   | .fK g n key val=>.mv g n key val
   | _=>.aj
  | .tf _ _=>.aj
  | .pe _ _=>.aj
  | .agg cs=>.agg (cs.map (wk m d))
  | .tup cs=>.tup (cs.map (wk m d))
  | .fn f cs=>.fn f (cs.map (wk m d))
  | x=>x

section
variable {c:Ctx} {s:List A} {m:List ar} {a:Act} {w w':World} {ids ab:dV} {P:Program} {im bL:Nat->Prop} {tt:TT}
variable {next:Act->World->Prop} {Q:Exit->Act->World->Prop} {o:Oper}

theorem sg:∀(d:Nat) (x:A) (v:Value),plain d x=true->aA im w x v->aA bL w' x v
 | 0,x,v,h,_=>by cases h
 | d+1,x,v,h,hr=>by
  cases hr with
  | int=>exact .int _ _
  | bool=>exact .bool _
  | sb=>exact .sb _
  | str=>exact .str _
  | iH=>exact .iH
  | aC=>exact .aC
  | agg cs vs hl ho hr =>
   refine .agg cs vs hl ho fun j h1 h2=>sg d _ _ ?_ (hr j h1 h2);simp only[plain,List.all_eq_true] at h;exact h _ (List.getElem_mem h1)
  | tup cs vs hl hr =>
   refine .tup cs vs hl fun j h1 h2=>sg d _ _ ?_ (hr j h1 h2);simp only[plain,List.all_eq_true] at h;exact h _ (List.getElem_mem h1)
  | bref=>cases h
  | uu=>cases h
  | sle=>cases h
  | sl=>cases h
  | fn=>cases h
  | bz=>cases h
  | gO=>exact .gO
  | mv=>cases h
  | aj=>cases h

/-- What may be read through a value, all that is the call's own besides. -/
def tp(c:Ctx)(ids:dV)(w:World):Nat->Prop:=fun b=>av c ids w b\/∃p,eU.lv p∈ids/\p.has b

theorem Bs{ty:TypeId}{agg:Bool}{sh:List KS}{n hi:Nat}{cs:List A}{kI:Nat->Nat}{has:Nat->List KC->Bool}{val:Nat->List KC->A}{p:Id}{cap:Nat}
  (hB:bq ids im w (.cZ ty agg sh n hi cs kI has val) (.lv p)) (he:cs.isEmpty=true) (hc:p.n<=cap) (hA:∀x,im x->bL x) (hZ:∀x,p.has x->bL x) :
  aA bL w (.sl n 1 fun i=>[gvA agg sh (kI i) (has i) (val i)]) (.slice (some ⟨p.aq,0,none⟩) p.n cap):=by
 obtain⟨q1,q2,q3,uc,g1,g2,g3,g4,kb,g5⟩:=hB;subst q2;have he:cs.length=0:=by cases cs with|nil=>rfl|cons x xs=>cases he
 refine .sl p.n 1 _ p.aq 0 cap (fun i j=>uc.getD (i*1+j) undef) (hZ _ (.inl rfl)) hc (fun _ _=>rfl) ?_ ?_ ?_
 ·intro i j hi hj;rw[Nat.zero_add,cell_of_row w p.aq _ uc ty (0,0) g1];simp[Array.getD_eq_getD_getElem?,show i+j<uc.size by omega]
 ·intro i j hi hj;have Kw:j=0:=by omega
  subst Kw;have hk:i<uc.size:=by omega
  simp only[Nat.mul_one,Nat.add_zero,Array.getD_eq_getD_getElem?,Array.getElem?_eq_getElem hk,Option.getD_some];obtain⟨⟨x,e⟩,_⟩:=g5 i hi hk;rw[e];rfl
 ·intro i j hi hj;have Kw:j=0:=by simp at hj;omega
  subst Kw;have hk:i<uc.size:=by omega
  simp only[Nat.mul_one,Nat.add_zero,Array.getD_eq_getD_getElem?,Array.getElem?_eq_getElem hk,Option.getD_some,List.getElem_cons_zero];obtain⟨_,k1⟩:=g5 i hi hk;obtain⟨k2,k3⟩:=k1 (.inl he);unfold gvA;split
  ·rename_i e;rw[k2 e];exact .gO
  ·rename_i e;obtain⟨e1,e2,⟨es,clock,f,m1,m2,m3,m4,m5,m6,m7⟩,_⟩:=k3 e;rw[e1];exact .mv _ _ _ _ _ es clock f (hZ _ (.inr e2)) m1 m2 m3 m4 (fun i hi=>(m5 i hi).mono hA (fun _ _=>rfl)) m6 m7
  ·exact .aj _
theorem lf(hs:aJ c s m a w ids):∀(d:Nat) (x:A) (v:Value),Rel ids (av c ids w) w x v->aA (tp c ids w) w (wk m d x) v
 | 0,x,v,_=>.aj _
 | d+1,x,v,hr=>by
  have up:aA (av c ids w) w x v->aA (tp c ids w) w x v:=fun h=>h.mono (fun _ h=>.inl h) (fun _ _=>rfl);cases hr with
  | aL hr =>
   cases hr with
   | agg cs vs hl ho hr=>exact .agg _ vs (by simp[hl]) ho fun j h1 h2=>by simpa using lf hs d _ _ (.aL (hr j (by simpa using h1) h2))
   | tup cs vs hl hr=>exact .tup _ vs (by simp[hl]) fun j h1 h2=>by simpa using lf hs d _ _ (.aL (hr j (by simpa using h1) h2))
   | fn f cs vs hl hr=>exact .fn f _ vs (by simp[hl]) fun j h1 h2=>by simpa using lf hs d _ _ (.aL (hr j (by simpa using h1) h2))
   | int=>exact .int _ _
   | bool=>exact .bool _
   | sb=>exact .sb _
   | str=>exact .str _
   | iH=>exact .iH
   | aC=>exact .aC
   | bz=>exact .bz
   | gO=>exact .gO
   | mv g n key val r es clock f hb hh hk hd hc hv Ig F9=>exact up (.mv g n key val r es clock f hb hh hk hd hc hv Ig F9)
   | aj=>exact .aj _
   | uu=>exact .uu _ _
   | sle=>exact .sle _ _ _ _
   | sl n sz row aq base cap vs hb mw hl hc ho hr=>exact up (.sl n sz row aq base cap vs hb mw hl hc ho hr)
   | bref aq base off cs vs hb hc ho hr=>exact up (.bref aq base off cs vs hb hc ho hr)
  | ref b off p h =>
   simp only[wk];split
   ·rename_i ty cs hb;obtain⟨vs,h1,h2,h3,h4⟩:=hs.uC h hb
    have:=aA.bref (im:=tp c ids w) (w:=w) p.aq 0 off (cs.map (wk m d)) (fun j=>vs.getD j undef) (.inr ⟨p,List.mem_of_getElem? h,.inl rfl⟩)
     (fun j hj=>by simp at hj;have:=h2 j (by omega);simpa[List.getD_eq_getElem?_getD,show j<vs.length by omega] using this)
     (fun j hj=>by simp at hj;have:=h3 _ (List.getElem_mem (show j<vs.length by omega));simpa[List.getD_eq_getElem?_getD,show j<vs.length by omega] using this)
     (fun j hj=>by
      simp at hj;have:=lf hs d _ _ (h4 j hj (by omega));simpa[List.getD_eq_getElem?_getD,show j<vs.length by omega] using this)
    simpa using this
   ·exact .aj _
  | oref=>exact .aj _
  | tf=>exact .aj _
  | rT=>exact .aj _
  | pe=>exact .aj _
  | rU=>exact .aj _
  | pD=>exact .aj _
  | lD b x n cap h=>simp only[wk,hs.dG h];exact .aj _
  | lC b off x y h=>simp only[wk,hs.dG h];exact .aj _
  | ic=>exact .aj _
  | gI b x h=>simp only[wk,hs.dG h];exact .aj _
  | gQ b h =>
   simp only[wk];split
   ·rename_i ty sz n row hb;rcases oH hs (.gQ b h) hb with⟨rfl,_,_⟩|⟨p,cap,g1,_⟩
    ·exact .uu _ _
    ·rw[h] at g1;cases g1
   ·rename_i hb
    have aH:b<ids.length:=by
     rcases Nat.lt_or_ge b ids.length with h'|h'
     ·exact h'
     ·rw[List.getElem?_eq_none h'] at h;cases h
    have:=hs.bP b (by rw[<-hs.aU];exact aH) aH;rw[List.getElem?_eq_getElem aH] at h
    have e:m[b]'(by rw[<-hs.aU];exact aH)=m.getD b .dead:=by
     rw[List.getD_eq_getElem?_getD,List.getElem?_eq_getElem (by rw[<-hs.aU];exact aH)];rfl
    rw[e,hb,Option.some.inj h] at this;have this:_=0:=this;subst this;split
    ·exact .uu _ _
    ·exact .aj _
   ·rename_i ty agg sh n dH cs kI has val hb
    have aH:b<ids.length:=by
     rcases Nat.lt_or_ge b ids.length with h'|h'
     ·exact h'
     ·rw[List.getElem?_eq_none h'] at h;cases h
    have:=hs.bP b (by rw[<-hs.aU];exact aH) aH;rw[List.getElem?_eq_getElem aH] at h
    have e:m[b]'(by rw[<-hs.aU];exact aH)=m.getD b .dead:=by
     rw[List.getD_eq_getElem?_getD,List.getElem?_eq_getElem (by rw[<-hs.aU];exact aH)];rfl
    rw[e,hb,Option.some.inj h] at this;have this:_=0:=this;subst this;split
    ·exact .uu _ _
    ·exact .aj _
   ·exact .aj _
  | own b cap p h hn hm =>
   simp only[wk];split
   ·rename_i ty sz n row hb;obtain⟨x,nD,ng⟩:=hs.fu h;rw[bI nD] at hb;subst hb;obtain⟨q1,q2,uc,g1,g2,g3,hl,g5⟩:=ng;subst q1;subst q2
    have aH:∀i j,i<p.n->j<p.sz->i*p.sz+j<uc.size:=by
     intro i j hi hj;have:=Nat.mul_le_mul_right p.sz (show i+1<=p.n from hi);rw[Nat.add_mul] at this;omega
    refine .sl p.n p.sz row p.aq 0 cap (fun i j=>uc.getD (i*p.sz+j) undef) (.inr ⟨p,List.mem_of_getElem? h,.inl rfl⟩) hn.1 hl ?_ ?_ ?_
    ·intro i j hi hj;have hk:=aH i j hi hj;rw[Nat.zero_add,cell_of_row w p.aq _ uc ty (0,0) g1];simp[Array.getD_eq_getD_getElem?,hk]
    ·intro i j hi hj;have hk:=aH i j hi hj;have:=(g5 i j hi (by rw[hl i hi];exact hj) hk).2;simpa[Array.getD_eq_getD_getElem?,hk] using this
    ·intro i j hi hj;have hk:=aH i j hi (by rw[<-hl i hi];exact hj);have:=(g5 i j hi hj hk).1;simp only[Array.getD_eq_getD_getElem?,Array.getElem?_eq_getElem hk,Option.getD_some];exact this.mono (fun _ h=>.inl h) (fun _ _=>rfl)
   ·rename_i ty aW sz n hole len row hb;split
    ·skip
     obtain⟨x,nD,ng⟩:=hs.fu h;rw[bI nD] at hb;subst hb;obtain⟨q1,q2,q3,uc,g1,g2,g3,kb,g5⟩:=ng;subst q2;refine .sl p.n 1 _ p.aq 0 cap (fun i j=>uc.getD (i*1+j) undef) (.inr ⟨p,List.mem_of_getElem? h,.inl rfl⟩) hn.1 (fun _ _=>rfl) ?_ ?_ ?_
     ·intro i j hi hj;rw[Nat.zero_add,cell_of_row w p.aq _ uc ty (0,0) g1];simp[Array.getD_eq_getD_getElem?,show i+j<uc.size by omega]
     ·intro i j hi hj;have Kw:j=0:=by omega
      subst Kw;have hk:i<uc.size:=by omega
      simp only[Nat.mul_one,Nat.add_zero,Array.getD_eq_getD_getElem?,Array.getElem?_eq_getElem hk,Option.getD_some];rcases (g5 i hi (by simp) hk).1 with⟨e,_⟩|⟨q,pJ,eD,e,_⟩<;>rw[e]<;>rfl
     ·intro i j hi hj;have Kw:j=0:=by simp at hj;omega
      subst Kw;have hk:i<uc.size:=by omega
      simp only[Nat.mul_one,Nat.add_zero,Array.getD_eq_getD_getElem?,Array.getElem?_eq_getElem hk,Option.getD_some,List.getElem_cons_zero];obtain⟨k1,k2,_⟩:=g5 i hi (by simp) hk;rcases k1 with⟨e1,e2,_⟩|⟨q,pJ,eD,e1,e2,e3,e4,e5,e6,e7,e8⟩
      ·rw[e1,e2];exact .uu _ _
      ·rw[e1]
       have aH:∀i' j,i'<len i->j<sz->i'*sz+j<eD.size:=by
        intro i' j cx hj;have h1:=Nat.mul_le_mul_right sz (show i'+1<=len i from cx);have h2:=Nat.mul_le_mul_right sz e5;rw[Nat.add_mul] at h1;omega
       refine .sl (len i) sz (row i) q 0 pJ (fun i' j=>eD.getD (i'*sz+j) undef) (.inr ⟨p,List.mem_of_getElem? h,.inr (k2 q e2)⟩) e5 e7 ?_ ?_ ?_
       ·intro i' j cx hj;have hk:=aH i' j cx hj;rw[Nat.zero_add,cell_of_row w q _ eD aW (0,0) e3];simp[Array.getD_eq_getD_getElem?,hk]
       ·intro i' j cx hj;have hk:=aH i' j cx hj;have:=(e8 i' j cx (by rw[e7 i' cx];exact hj) hk).2;simpa[Array.getD_eq_getD_getElem?,hk] using this
       ·intro i' j cx hj;have hk:=aH i' j cx (by rw[<-e7 i' cx];exact hj);have:=(e8 i' j cx hj hk).1;simp only[Array.getD_eq_getD_getElem?,Array.getElem?_eq_getElem hk,Option.getD_some];exact this.mono (fun _ h=>.inl h) (fun _ _=>rfl)
    ·exact .aj _
   ·rename_i ty agg sh n dH cs kI has val hb;split
    ·rename_i he;obtain⟨x,nD,ng⟩:=hs.fu h;rw[bI nD] at hb;subst hb;exact Bs ng he hn.1 (fun _ h=>.inl h) (fun x hx=>.inr ⟨p,List.mem_of_getElem? h,hx⟩)
    ·exact .aj _
   ·exact .aj _
  | omap b p h =>
   simp only[wk];split
   ·rename_i g n key val hb;obtain⟨x,nD,ng⟩:=hs.fu h;rw[bI nD] at hb;subst hb;obtain⟨es,clock,f,g1,g2,g3,g4,g5,g6,g7⟩:=ng;exact .mv g n key val p.aq es clock f (.inr ⟨p,List.mem_of_getElem? h,.inl rfl⟩) g1 g2 g3 g4 (fun i hi=>(g5 i hi).mono (fun _ h=>.inl h) (fun _ _=>rfl)) g6 g7
   ·exact .aj _
  | agg cs vs hl ho hr=>exact .agg _ vs (by simp[hl]) ho fun j h1 h2=>by simpa using lf hs d _ _ (hr j (by simpa using h1) h2)
  | tup cs vs hl hr=>exact .tup _ vs (by simp[hl]) fun j h1 h2=>by simpa using lf hs d _ _ (hr j (by simpa using h1) h2)
  | fn f cs vs hl hr=>exact .fn f _ vs (by simp[hl]) fun j h1 h2=>by simpa using lf hs d _ _ (hr j (by simpa using h1) h2)
end
def qt(s:List A):Option Operand->Option A
 | none=>none
 | some x=>some (ev s x)
def y9(x:Option A)(d y:Nat)(K:Nat->Prop):Prop :=
 match x with
 | none=>K d
 | some v=>match v with
  | .int _ i=>(0<=i/\i<=(y:Int))/\K i.toNat
  | _=>False
def vr(tt:TT)(t:TypeId)(x:A)(lo hi:Option A)(K:A->Prop):Prop :=
 match tt.lookup t with
 | none=>False
 | some ti=>match ti.kind,x with
  | 4,.str s=>y9 hi s.length s.length fun h=>y9 lo 0 h fun l=>K (.str ((s.take h).drop l))
  | 3,.sl n sz row=>match Nat.beq sz ti.bN with
   | true=>y9 hi n n fun h=>y9 lo 0 h fun l=>K (.sl (h-l) sz fun i=>row (l+i))
   | false=>False
  | 3,.aC=>y9 hi 0 0 fun h=>y9 lo 0 h fun _=>K .aC
  | _,_=>False

section
variable {c:Ctx} {s:List A} {m:List ar} {a:Act} {w w':World} {ids ab:dV} {P:Program} {im bL:Nat->Prop} {tt:TT}
variable {next:Act->World->Prop} {Q:Exit->Act->World->Prop} {o:Oper}

theorem gy(hs:aJ c s m a w ids){x:Option Operand}{d y y':Nat}{K:Nat->Prop}(h:y9 (qt s x) d y K)(hy:y<=y'):
  ∃n,K n/\(x=none->n=d)/\(x.isSome->n<=y)/\∀X,x=some X->∃k i,a.eval X=.int k i/\i.toNat=n/\0<=i/\i<=(y':Int):=by
 cases x with
 | none=>exact⟨d,h,fun _=>rfl,fun h=>by simp at h,fun _ h=>by simp at h⟩
 | some X =>
  simp only[y9,qt] at h;split at h
  ·rename_i v k i hv;have hx:=hs.ev X;rw[hv] at hx;exact⟨i.toNat,h.2,fun h=>by simp at h,fun _=>by omega,fun X' hX'=>by cases hX';exact⟨k,i,hx.cC,rfl,h.1.1,by omega⟩⟩
  ·exact h.elim

theorem dY{O4:Bool}{len cap:Nat}{lo hi:Option Operand}{h l:Nat}(hh:hi=none->h=len)(hl:lo=none->l=0)
  (eh:∀X,hi=some X->∃k i,a.eval X=.int k i/\i.toNat=h/\0<=i/\i<=(cap:Int))
  (el:∀X,lo=some X->∃k i,a.eval X=.int k i/\i.toNat=l/\0<=i/\i<=(h:Int)) :
  (Instr.sliceBounds O4 len cap (lo.map a.eval) (hi.map a.eval) none).run P w=.ok (l,h,cap) w:=by
 cases hi with
 | none =>
  have:=hh rfl;subst this;cases lo with
  | none=>have:=hl rfl;subst this;simp[Instr.sliceBounds]
  | some L =>
   obtain⟨k,i,e1,e2,e3,e4⟩:=el L rfl;simp[Instr.sliceBounds,e1,run_sliceBound,e3,e4,e2]
 | some H =>
  obtain⟨k,i,e1,e2,e3,e4⟩:=eh H rfl;cases lo with
  | none=>have:=hl rfl;subst this;simp[Instr.sliceBounds,e1,run_sliceBound,e3,e4,e2]
  | some L =>
   obtain⟨k',i',f1,f2,f3,f4⟩:=el L rfl;simp[Instr.sliceBounds,e1,run_sliceBound,e3,e4,e2,f1,f3,f4,f2]

theorem za(aN:bM P tt)(hs:aJ c s m a w ids){t:TypeId}{X:Operand}{lo hi:Option Operand}(ho:o.op=.slice t X lo hi none){K:KT}
  (h:vr tt t (ev s X) (qt s lo) (qt s hi) fun v=>K v m) (hn:cL c s o K next):o.wp P a w next Q:=by
 have hx:=hs.ev X;have e:execOp a.eval o=(do let z <-Instr.sliceAt t (a.eval X) (lo.map a.eval) (hi.map a.eval) none;pure (.value z)):=by unfold execOp;rw[ho];rfl
 unfold vr at h;split at h
 ·exact h.elim
 ·rename_i ti j7;obtain⟨i,d,z,_,hd,_,_,_,_,_,_,_,_,_,kA,Sc,tZ,_⟩:=aN.facts j7;split at h
  ·rename_i st hk hv;rw[hv] at hx;rw[tZ hk] at hd;obtain⟨hb,h,b1,b2,b3⟩:=gy hs h (Nat.le_refl _);obtain⟨lb,h,c1,c2,c3⟩:=gy hs h (Nat.le_refl _);refine aZ hs hn ⟨_,.string ⟨((st.take hb).drop lb).toArray⟩,?_,h,.aL (.str _)⟩;have cj:(ByteArray.mk st.toArray).size=st.length:=by simp[ByteArray.size]
   rw[e,hx.iU,Sem.run_bind,run_sliceAt_string _ _ _ _ _ _ hd];have:=dY (P:=P) (w:=w) (a:=a) (O4:=false) (len:=st.length) (cap:=st.length) b1 c1 b3 c3;simp[Instr.slice,underlying,hd,cj,this];apply ByteArray.ext
   have:lb<=hb:=by
    cases lo with
    | none=>have:=c1 rfl;omega
    | some L=>exact c2 rfl
   have:hb<=st.length:=by
    cases hi with
    | none=>have:=b1 rfl;omega
    | some L=>exact b2 rfl
   simp[ByteArray.data_extract];rw[List.drop_take]
  ·rename_i n sz row hk hv;rw[hv] at hx;obtain⟨ie,ze,gS,jJ,cj,_,_,_,_⟩:=kA hk;subst gS;split at h
   ·rename_i hb;have hb:=Nat.eq_of_beq_eq_true hb
    have xR:P.underlying t=some (.slice (P.elem t)):=by
     have:P.elem t=ti.aW:=by simp[Program.elem,hd]
     rw[this];exact hd
    have Ip:P.elem t=ti.aW:=by simp[Program.elem,hd]
    cases hx with
    | aL hx =>
     have key:∀(ba:Option Addr) (cap:Nat),n<=cap->a.eval X=.slice ba n cap ->
       (∀(l h:Nat),l<=h->h<=n->aA (av c ids w) w (.sl (h-l) sz fun i=>row (l+i)) (.slice (if cap=l then ba else ba.map (·.add (l*sz))) (h-l) (cap-l)))->o.wp P a w next Q:=by
      intro ba cap mw hX hrel;obtain⟨fN,h,b1,b2,b3⟩:=gy hs h mw;obtain⟨lb,h,c1,c2,c3⟩:=gy hs h (Nat.le_refl _)
      have q1:lb<=fN:=by
       cases lo with
       | none=>have:=c1 rfl;omega
       | some L=>exact c2 rfl
      have q2:fN<=n:=by
       cases hi with
       | none=>have:=b1 rfl;omega
       | some L=>exact b2 rfl
      refine aZ hs hn ⟨_,_,?_,h,.aL (hrel lb fN q1 q2)⟩;rw[e,hX,Sem.run_bind,run_sliceAt_slice _ _ _ _ _ _ xR,run_slice_any _ _ _ _ _ xR];have:=dY (P:=P) (w:=w) (a:=a) (O4:=true) (len:=n) (cap:=cap) b1 c1 b3 c3;simp[this,Ip,sizeOf,typeInfo,jJ,cj,sliced,hb]
     generalize hX:a.eval X=V at hx;cases hx with
     | uu =>
      refine key none 0 (by omega) hX (fun l h h1 h2=>?_);have:l=0:=by omega
      subst this;have:h=0:=by omega
      subst this;exact .uu _ _
     | sle _ _ ad cap =>
      refine key (some ad) cap (by omega) hX (fun l h h1 h2=>?_);have:l=0:=by omega
      subst this;have:h=0:=by omega
      subst this;split
      ·exact .sle _ _ _ _
      ·exact .sle _ _ _ _
     | sl _ _ _ aq base cap vs hb mw hl hc hoo hr =>
      refine key _ cap mw hX (fun l h h1 h2=>?_);by_cases Iq:cap=l
      ·have e1:h-l=0:=by omega
       rw[if_pos Iq,e1];exact .sl 0 sz _ aq base _ vs hb (by omega) (fun _ h=>by omega) (fun _ _ h=>by omega) (fun _ _ h=>by omega) (fun _ _ h=>by omega)
      ·rw[if_neg Iq];show aA _ _ _ (.slice (some (Addr.add ⟨aq,base,none⟩ (l*sz))) _ _);rw[show Addr.add ⟨aq,base,none⟩ (l*sz)=⟨aq,base+l*sz,none⟩ from by simp[Addr.add]];refine .sl (h-l) sz (fun i=>row (l+i)) aq (base+l*sz) (cap-l) (fun i j=>vs (l+i) j) hb (by omega) (fun i hi=>hl (l+i) (by omega)) (fun i j hi hj=>?_) (fun i j hi hj=>hoo (l+i) j (by omega) hj) (fun i j hi hj=>hr (l+i) j (by omega) hj);rw[<-hc (l+i) j (by omega) hj,Nat.add_mul,Nat.add_assoc base]
   ·exact h.elim
  ·rename_i hk hv;rw[hv] at hx;obtain⟨ie,ze,gS,jJ,cj,_,_,_,_⟩:=kA hk;subst gS
   have xR:P.underlying t=some (.slice (P.elem t)):=by
    have:P.elem t=ti.aW:=by simp[Program.elem,hd]
    rw[this];exact hd
   have Ip:P.elem t=ti.aW:=by simp[Program.elem,hd]
   obtain⟨fN,h,b1,b2,b3⟩:=gy hs h (Nat.le_refl _);obtain⟨lb,h,c1,c2,c3⟩:=gy hs h (Nat.le_refl _);refine aZ hs hn ⟨_,.slice none 0 0,?_,h,.aL .aC⟩
   have q2:fN<=0:=by
    cases hi with
    | none=>have:=b1 rfl;omega
    | some L=>exact b2 rfl
   have q1:lb<=fN:=by
    cases lo with
    | none=>have:=c1 rfl;omega
    | some L=>exact c2 rfl
   have:fN=0:=by omega
   subst this;have:lb=0:=by omega
   subst this;rw[e,hx.dO,Sem.run_bind,run_sliceAt_slice _ _ _ _ _ _ xR,run_slice_any _ _ _ _ _ xR];have:=dY (P:=P) (w:=w) (a:=a) (O4:=true) (len:=0) (cap:=0) b1 c1 b3 c3;simp[this,Ip,sizeOf,typeInfo,jJ,cj,sliced]
  ·exact h.elim
end
/-- What is known of the world at each moment: it hangs on the first n blocks alone. -/
structure aK where
 G:World->Prop
 n:Nat
 lt:∀w,G w->n<=w.heap.size
 st:∀w w',G w->w.heap.size<=w'.heap.size->(∀b,b<n->w'.heap[b]?=w.heap[b]?)->G w'
def aK.ok(G:aK)(c:Ctx):Prop:=G.G c.w0/\∀b,c.mu b->G.n<=b
theorem aK.ok.now{G:aK}{c:Ctx}{w:World}(h:G.ok c)(hf:Fr c w):G.G w :=
 G.st _ _ h.1 hf.size fun b hb=>hf.block b (Nat.lt_of_lt_of_le hb (G.lt _ h.1)) fun hm=>by have:=h.2 b hm;omega

def aa(P:Program)(G:aK)(f:FuncId)(args:List A)(r:A):Prop :=
 (∃ fn cd, P.funcs[f]? = some fn ∧ fn.body = some cd ∧ (fn.name == "runtime.NumGoroutine") = false) ∧
 ∀(im:Nat->Prop) (w:World) (vs:List Value),(∀b,im b->b<w.heap.size)->G.G w->vs.length=args.length ->
  (∀j (h:j<args.length) (h':j<vs.length),aA im w args[j] vs[j]) ->
  Calls P f vs.toArray w fun e w'=>∃v,e=.returned v/\aA (fun b=>im b\/(w.heap.size<=b/\b<w'.heap.size)) w' r v/\Bw w.heap.size w w'

def pn(P:Program)(G:aK)(f:A)(args:List A)(m:List ar)(K:KT):Prop :=
 match f with
 | .fn g cap=>fd.sf 4 (args++cap) fun as=>match as.any (cY 4) with
  | false=>∃r,aa P G g as r/\fd 3 r fun r'=>K r' m
  | true=>fd.sf 4 (as.map (wk m 5)) fun j0=>∃r,aa P G g j0 r/\plain 4 r=true/\fd 3 r fun r'=>K r' m
 | _=>False

section
variable {c:Ctx} {s:List A} {m:List ar} {a:Act} {w w':World} {ids ab:dV} {P:Program} {im bL:Nat->Prop} {tt:TT} {G:aK}
variable {next:Act->World->Prop} {Q:Exit->Act->World->Prop} {o:Oper}

theorem bD{f:FuncId}{args:Array Value}{R R':Ending->World->Prop}(h:Calls P f args w R)(hr:∀e w',R e w'->R' e w'):Calls P f args w R':=by
 intro cs;obtain⟨e,w',fr,h1,h2⟩:=h cs;exact⟨e,w',fr,hr _ _ h1,h2⟩

theorem nE(hs:aJ c s m a w ids)(hG:G.ok c){F:Operand}{xs:Array Operand}{ts:Array TypeId}(ho:o.op=.call { callee:=.value F,args:=xs,argTypes:=ts }){K:KT}
  (h:pn P G (ev s F) (xs.toList.map (ev s)) m K) (hn:cL c s o K next):o.wp P a w next Q:=by
 have hf:=hs.ev F;have ZD:G.G w:=hG.now hs.frame;unfold pn at h;split at h
 ·rename_i g cap hv;rw[hv] at hf;obtain⟨us,Kk,Bb,J2⟩:=hf.ig;rw[cX] at h
  have hrel:∀j (h:j<(xs.toList.map (ev s)++cap).length) (h':j<(xs.toList.map a.eval++us).length),Rel ids (av c ids w) w (xs.toList.map (ev s)++cap)[j] (xs.toList.map a.eval++us)[j]:=by
   intro j h h';by_cases hj:j<xs.toList.length
   ·rw[List.getElem_append_left (by simpa using hj),List.getElem_append_left (by simpa using hj)];exact mF hs xs.toList j (by simpa using hj) (by simpa using hj)
   ·rw[List.getElem_append_right (by simpa using hj),List.getElem_append_right (by simpa using hj)];simp at h h' hj;have:=J2 (j-xs.size) (by omega) (by omega);simpa using this
  have hlen:(xs.toList.map a.eval++us).length=(xs.toList.map (ev s)++cap).length:=by simp[Bb]
  have run : ∀ fn cd, P.funcs[g]? = some fn → fn.body = some cd → (fn.name == "runtime.NumGoroutine") = false → (execOp a.eval o).run P w = .ok (.enter g (xs.toList.map a.eval ++ us).toArray) w := by
   intro fn cd h1 h2 h3;have e:execOp a.eval o=(do let d <-resolve a.eval { callee:=.value F,args:=xs,argTypes:=ts } o.type;invoke d.target d.args):=by unfold execOp;rw[ho]
   have e2:(xs.map a.eval++us.toArray)=(xs.toList.map a.eval++us).toArray:=by apply Array.ext';simp
   have h4 : ¬ fn.name = "runtime.NumGoroutine" := by simpa using h3
   rw[e];simp[resolve,Kk,Deferred.ofValue,invoke,callFunc,h1,h2,h4,e2]
  split at h
  ·rename_i bm;obtain⟨r,hc,hk⟩:=h;rw[fA] at hk;obtain⟨⟨fn,cd,h1,h2,h3⟩,hc⟩:=hc;unfold Oper.wp;rw[run fn cd h1 h2 h3];show Calls P g _ w _;refine bD (hc (av c ids w) w (xs.toList.map a.eval++us) (fun b hb=>cU hs hb) ZD hlen (fun j h h'=>cS 4 _ _ ?_ (hrel j h h'))) ?_
   ·have:=List.any_eq_false.1 bm _ (List.getElem_mem h);simpa using this
   ·rintro e w' ⟨v,rfl,hr,hb⟩;refine hn r m _ _ ids hk ((hs.same hb).bA o.dst (.aL (hr.mono ?_ (fun _ _=>rfl))));rintro b (fN|⟨oI,mr⟩)
    ·rcases fN with h|⟨q1,q2,q3⟩
     ·exact .inl h
     ·exact .inr ⟨q1,Nat.lt_of_lt_of_le q2 hb.size,q3⟩
    ·refine .inr ⟨.inl (Nat.le_trans hs.frame.size oI),mr,fun p hp=>?_⟩;intro hx;have:=(hs.au p hp b hx).2;omega
  ·rw[cX] at h;obtain⟨r,hc,Sh,hk⟩:=h;rw[fA] at hk;obtain⟨⟨fn,cd,h1,h2,h3⟩,hc⟩:=hc;unfold Oper.wp;rw[run fn cd h1 h2 h3];show Calls P g _ w _;refine bD (hc (tp c ids w) w (xs.toList.map a.eval++us) ?_ ZD (by simp[Bb]) (fun j h h'=>?_)) ?_
   ·rintro b (hb|⟨p,hp,hx⟩)
    ·exact cU hs hb
    ·exact(hs.au p hp b hx).2
   ·have:=lf hs 5 _ _ (hrel j (by simpa using h) h');rw[List.getElem_map];exact this
   ·rintro e w' ⟨v,rfl,hr,hb⟩;exact hn r m _ _ ids hk ((hs.same hb).bA o.dst (.aL (sg 4 _ _ Sh hr)))
 ·exact h.elim

def step(P:Program)(G:aK)(tt:TT)(o:Oper)(s:List A)(m:List ar)(K:KT):Prop :=
 match o.op with
 | .move x=>fv (ev s x) fun v=>K v m
 | .assign x=>fv (ev s x) fun v=>K v m
 | .pick x y z=>Bk (ev s x) (ev s y) (ev s z) fun v=>K v m
 | .alloc t=>Ee tt t m K
 | .box t x=>Tk t (ev s x) m K
 | .build t ps=>r9 tt t (ps.toList.map fun p=>(p.1,ev s p.2)) m K
 | .load t x=>nd tt t (ev s x) m K
 | .store t x y=>vj tt t (ev s x) (ev s y) m K
 | .nilCheck x=>Kh (ev s x) fun v=>K v m
 | .binOp op t x y _=>Kg tt t op (ev s x) (ev s y) fun v=>K v m
 | .unOp op _ x=>WV op (ev s x) fun v=>K v m
 | .convert src dst x=>xM tt src dst (ev s x) fun v=>K v m
 | .makeFunc (.func f) first cap=>match first.toList with
  | []=>K (.fn f (cap.toList.map (ev s))) m
  | _=>False
 | .fieldAddr t x f=>iM tt t (ev s x) f m K
 | .indexAddr t x i=>fz tt t (ev s x) (ev s i) m K
 | .index t x i=>vl tt t (ev s x) (ev s i) fun v=>K v m
 | .field t x f=>vm tt t (ev s x) f fun v=>K v m
 | .extract x ix=>nB (ev s x) ix fun v=>K v m
 | .slice t x lo hi mx=>match mx with
  | none=>vr tt t (ev s x) (qt s lo) (qt s hi) fun v=>K v m
  | some _=>False
 | .call { callee:=.builtin .len,args,argTypes }=>match args.toList,argTypes.toList with
  | [x],[t]=>Bj tt t (ev s x) m fun v=>K v m
  | _,_=>False
 | .call { callee:=.builtin .min,args,.. }=>match args.toList with
  | x::xs=>Ku (ev s x) (xs.map (ev s)) fun v=>K v m
  | _=>False
 | .call { callee:=.builtin .max,args,.. }=>match args.toList with
  | x::xs=>Kv (ev s x) (xs.map (ev s)) fun v=>K v m
  | _=>False
 | .call { callee:=.value f,args,.. }=>pn P G (ev s f) (args.toList.map (ev s)) m K
 | _=>False

theorem vu{α:Type}{xs:Array α}{x:α}(h:xs.toList=[x]):xs = #[x]:=by apply Array.ext';simpa using h

theorem pK(aN:bM P tt)(hG:G.ok c)(hs:aJ c s m a w ids){K:KT}(h:step P G tt o s m K)(hn:cL c s o K next):o.wp P a w next Q:=by
 unfold step at h;split at h
 ·rename_i x ho;rw[dL] at h;exact tm hs (.inl ho) h hn
 ·rename_i x ho;rw[dL] at h;exact tm hs (.inr ho) h hn
 ·rename_i ho;exact Bp hs ho h hn
 ·rename_i ho;exact yY aN hs ho h hn
 ·rename_i ho;exact El hs ho h hn
 ·rename_i ho;exact yZ aN hs ho h hn
 ·rename_i ho;exact Bn aN hs ho h hn
 ·rename_i ho;exact mC aN hs ho h hn
 ·rename_i ho;exact Ej hs ho h hn
 ·rename_i ho;exact aZ hs hn (Pm aN ho (hs.ev _) (hs.ev _) h)
 ·rename_i ho;exact aZ hs hn (Tm ho (hs.ev _) h)
 ·rename_i ho;exact tn aN hs ho h hn
 ·rename_i f first cap ho;split at h
  ·rename_i hf;have:first = #[]:=by apply Array.ext';simpa using hf
   subst this;exact ub hs ho h hn
  ·exact h.elim
 ·rename_i ho;exact sc aN hs ho h hn
 ·rename_i ho;exact sd aN hs ho h hn
 ·rename_i ho;exact y7 aN hs ho h hn
 ·rename_i ho;exact y8 aN hs ho h hn
 ·rename_i ho;exact vn hs ho h hn
 ·rename_i ho;split at h
  ·exact za aN hs ho h hn
  ·exact h.elim
 ·rename_i args ts ho;split at h
  ·rename_i x t hx ht;rw[vu hx,vu ht] at ho;exact Em aN hs ho h hn
  ·exact h.elim
 ·rename_i args ts ho;split at h
  ·rename_i x xs hx
   have e:(execOp a.eval o)=(do pure (.value (<-Builtin.min_ ts o.type (args.map a.eval)))):=by
    obtain⟨dst,op,ty,pos,after,guard⟩:=o;simp only at ho;subst ho;rw[BigFrame.execOp_builtin,BigFrame.builtin_min]
   obtain⟨r,v,h1,h2,h3⟩:=xP (P:=P) (xs.map (ev s)) (xs.map a.eval) (ev s x) (a.eval x) _ (hs.ev x) (by simp) (mF hs xs) h;refine aZ hs hn ⟨r,v,?_,h2,h3⟩;rw[e];simp[Builtin.min_] at h1 ⊢;simp[hx,h1]
  ·exact h.elim
 ·rename_i args ts ho;split at h
  ·rename_i x xs hx
   have e:(execOp a.eval o)=(do pure (.value (<-Builtin.max_ ts o.type (args.map a.eval)))):=by
    obtain⟨dst,op,ty,pos,after,guard⟩:=o;simp only at ho;subst ho;rw[BigFrame.execOp_builtin,BigFrame.builtin_max]
   obtain⟨r,v,h1,h2,h3⟩:=xQ (P:=P) (xs.map (ev s)) (xs.map a.eval) (ev s x) (a.eval x) _ (hs.ev x) (by simp) (mF hs xs) h;refine aZ hs hn ⟨r,v,?_,h2,h3⟩;rw[e];simp[Builtin.max_] at h1 ⊢;simp[hx,h1]
  ·exact h.elim
 ·rename_i ho;exact nE hs hG ho h hn
 ·exact h.elim
end
def xm(b:Nat):Nat->A->A
 | 0,_=>.aj
 | d+1,x=>match x with
  | .ref b' o=>match Nat.beq b' b with
   | true=>.aj
   | false=>.ref b' o
  | .oref b' i o=>match Nat.beq b' b with
   | true=>.aj
   | false=>.oref b' i o
  | .own b'=>match Nat.beq b' b with
   | true=>.aj
   | false=>.own b'
  | .omap b'=>match Nat.beq b' b with
   | true=>.aj
   | false=>.omap b'
  | .tf _ _=>.aj
  | .pe _ _=>.aj
  | .agg cs=>.agg (cs.map (xm b d))
  | .tup cs=>.tup (cs.map (xm b d))
  | .fn f cs=>.fn f (cs.map (xm b d))
  | x=>x
def Bt(b d:Nat):ar->ar
 | .box ty cs=>.box ty (cs.map (xm b d))
 | .ghost cs=>.ghost (cs.map (xm b d))
 | .cZ ty g sh n hi cs kI has val=>.cZ ty g sh n hi (cs.map (xm b d)) kI has val
 | x=>x

section
variable {c:Ctx} {s:List A} {m:List ar} {a:Act} {w w':World} {ids ab:dV} {P:Program} {im bL:Nat->Prop} {tt:TT} {G:aK}
variable {next:Act->World->Prop} {Q:Exit->Act->World->Prop} {o:Oper}

theorem kN{b:Nat}(hi:∀b,im b->bL b)(hw:∀b,im b->w'.heap[b]?=w.heap[b]?)(hd:∀(b':Nat) p,b'≠b->ids[b']?=some p->ab[b']?=some p):
  ∀(d:Nat) (x:A) (v:Value),Rel ids im w x v->Rel ab bL w' (xm b d x) v
 | 0,x,v,_=>.aL (.aj _)
 | d+1,x,v,h=>by
  have keep:∀y,aA im w y v->Rel ab bL w' y v:=fun y hy=>.aL (hy.mono hi hw);cases x with
  | ref b' o =>
   simp only[xm];split
   ·exact .aL (.aj _)
   ·rename_i hb;rcases h.iV with⟨p,h1,rfl⟩|⟨h1,x,y,rfl⟩;rotate_left
    ·exact .lC _ _ x y (hd b' _ (fun e=>by subst e;simp at hb) h1)
    exact .ref _ _ p (hd b' _ (fun e=>by subst e;simp at hb) h1)
  | oref b' i o =>
   simp only[xm];split
   ·exact .aL (.aj _)
   ·rename_i hb;rcases h.ja with⟨p,h1,rfl⟩|⟨h1,x,y,rfl⟩;rotate_left
    ·exact .ic _ _ _ x y (hd b' _ (fun e=>by subst e;simp at hb) h1)
    exact .oref _ _ _ p (hd b' _ (fun e=>by subst e;simp at hb) h1)
  | own b' =>
   simp only[xm];split
   ·exact .aL (.aj _)
   ·rename_i hb;have hne:b'≠b:=fun e=>by subst e;simp at hb
    rcases h.kJ with⟨h1,rfl⟩|⟨p,cap,h1,h2,h3,rfl⟩|⟨h1,x,n,cap,rfl⟩
    ·exact .gQ _ (hd b' _ hne h1)
    ·exact .own _ cap p (hd b' _ hne h1) h2 h3
    ·exact .lD _ x n cap (hd b' _ hne h1)
  | omap b' =>
   simp only[xm];split
   ·exact .aL (.aj _)
   ·rename_i hb;rcases h.jY with⟨p,h1,rfl⟩|⟨h1,x,rfl⟩;rotate_left
    ·exact .gI _ x (hd b' _ (fun e=>by subst e;simp at hb) h1)
    exact .omap _ p (hd b' _ (fun e=>by subst e;simp at hb) h1)
  | agg cs =>
   obtain⟨vs,rfl,hl,ho,hr⟩:=h.iW;exact .agg _ vs (by simpa using hl) ho (fun j h h'=>by rw[List.getElem_map];exact kN hi hw hd d _ _ (hr j (by simpa using h) h'))
  | tup cs =>
   obtain⟨vs,rfl,hl,hr⟩:=h.kK;exact .tup _ vs (by simpa using hl) (fun j h h'=>by rw[List.getElem_map];exact kN hi hw hd d _ _ (hr j (by simpa using h) h'))
  | fn f cs =>
   obtain⟨vs,rfl,hl,hr⟩:=h.ig;exact .fn f _ vs (by simpa using hl) (fun j h h'=>by rw[List.getElem_map];exact kN hi hw hd d _ _ (hr j (by simpa using h) h'))
  | int k n=>cases h with|aL h=>exact keep _ h
  | bool k=>cases h with|aL h=>exact keep _ h
  | sb k=>cases h with|aL h=>exact keep _ h
  | str k=>cases h with|aL h=>exact keep _ h
  | iH=>cases h with|aL h=>exact keep _ h
  | bref cs off=>cases h with|aL h=>exact keep _ h
  | aC=>cases h with|aL h=>exact keep _ h
  | sl n sz row=>cases h with|aL h=>exact keep _ h
  | bz=>cases h with|aL h=>exact keep _ h
  | gO=>cases h with|aL h=>exact keep _ h
  | mv g n k v=>cases h with|aL h=>exact keep _ h
  | aj=>exact .aL (.aj _)
  | tf=>exact .aL (.aj _)
  | pe=>exact .aL (.aj _)

/-- Block b becomes another one: written in place, or moved to a new block. -/
theorem aJ.rebind(hs:aJ c s m a w ids)(b:Nat)(q:eU)(x:ar)(d:Nat)(hb:b<m.length)
  (Sj:w'.os=w.os) (W4:w'.tape=w.tape) (W5:w'.output=w.output) (cj:w.heap.size<=w'.heap.size)
  (gk:∀k,k<w.heap.size->(∀p,ids[b]?=some (.lv p)->¬p.has k)->w'.heap[k]?=w.heap[k]?)
  (Wq:∀vs,q≠.cV vs)
  (hq:∀p',q=.lv p'->∀x,p'.has x->x<w'.heap.size/\(w.heap.size<=x\/∃p,ids[b]?=some (.lv p)/\p.has x))
  (hx:(∀u v,aA (av c ids w) w u v->aA (av c (ids.set b q) w') w' u v)->bq (ids.set b q) (av c (ids.set b q) w') w' x q) (Bu:fL w.drawn w'.drawn:=by exact fL.refl _) :
  aJ c (s.map (xm b d)) ((m.map (Bt b d)).set b x) a w' (ids.set b q):=by
 have fg:b<ids.length:=by rw[hs.aU];exact hb
 have k9:∀p',eU.lv p'∈ids.set b q->eU.lv p'∈ids\/q=.lv p':=by
  intro p' h;rcases List.mem_or_eq_of_mem_set h with h|h
  ·exact .inl h
  ·exact .inr h.symm
 have hi:∀k,av c ids w k->av c (ids.set b q) w' k:=by
  intro k h;rcases h with h|⟨h1,h2,h3⟩
  ·exact .inl h
  ·refine .inr ⟨h1,Nat.lt_of_lt_of_le h2 cj,fun p hp=>?_⟩;rcases k9 p hp with hp|hp
   ·exact h3 p hp
   ·intro hx;rcases (hq p hp k hx).2 with h|⟨p0,h4,h5⟩
    ·omega
    ·exact h3 p0 (List.mem_of_getElem? h4) h5
 have hh:∀k,av c ids w k->w'.heap[k]?=w.heap[k]?:=by
  intro k h;refine gk k (cU hs h) (fun p hp e=>?_);rcases h with h|⟨_,_,h3⟩
  ·exact hs.rX h (hs.au p (List.mem_of_getElem? hp) k e).1
  ·exact h3 p (List.mem_of_getElem? hp) e
 have hd:∀(b':Nat) p,b'≠b->ids[b']?=some p->(ids.set b q)[b']?=some p:=by
  intro b' p hne h;rw[List.getElem?_set_ne (fun e=>hne e.symm)];exact h
 refine⟨hs.defers,by simp[hs.len],?_,by simp[hs.aU],?_,?_,?_,?_,hs.fh,?_⟩
 ·intro i h h';rw[List.getElem_map];exact kN hi hh hd d _ _ (hs.cc i (by simpa using h) h')
 ·intro i h h';rw[List.getElem_set,List.getElem_set];split
  ·rename_i he;subst he;exact hx (fun u v h=>h.mono hi hh)
  ·rename_i he;have h1:i<m.length:=by simpa using h
   have h2:i<ids.length:=by simpa using h'
   have hB:=hs.bP i h1 h2;rw[List.getElem_map]
   have hkX:∀p,ids[i]=.lv p->∀k,p.has k->w'.heap[k]?=w.heap[k]?:=by
    intro p hp k hk;have W6:ids[i]?=some (.lv p):=by rw[List.getElem?_eq_getElem h2,hp]
    refine gk _ (hs.au p (List.mem_of_getElem? W6) k hk).2 (fun p0 ZE e=>?_);exact he (hs.al b i p0 p k ZE W6 e hk)
   have hk:∀p,ids[i]=.lv p->w'.heap[p.aq]?=w.heap[p.aq]?:=fun p hp=>hkX p hp _ (.inl rfl);cases hm:m[i] with
   | dead=>rw[hm] at hB;exact hB
   | gone=>rw[hm] at hB;exact hB
   | box ty cs =>
    rw[hm] at hB;cases hp:ids[i] with
    | dead=>rw[hp] at hB;exact hB.elim
    | aw=>rw[hp] at hB;exact hB.elim
    | bg=>rw[hp] at hB;exact hB.elim
    | cV vs=>rw[hp] at hB;exact hB.elim
    | lv p =>
     rw[hp] at hB;obtain⟨vs,g1,g2,g3,g4⟩:=hB;refine⟨vs,by rw[hk p hp];exact g1,g2,by simpa using g3,?_⟩;intro j hj cH;have:=g4 j (by simpa using hj) cH;rw[List.getElem_map];exact⟨kN hi hh hd d _ _ this.1,this.2⟩
   | row ty sz n row =>
    rw[hm] at hB;cases hp:ids[i] with
    | dead=>rw[hp] at hB;exact hB.elim
    | aw=>rw[hp] at hB;exact hB.elim
    | bg=>rw[hp] at hB;exact hB
    | cV vs=>rw[hp] at hB;exact hB.elim
    | lv p =>
     rw[hp] at hB;obtain⟨e1,e2,vs,g1,g2,g3,g4,g5⟩:=hB;exact⟨e1,e2,vs,by rw[hk p hp];exact g1,g2,g3,g4,fun i' j cx h h'=>⟨(g5 i' j cx h h').1.mono hi hh,(g5 i' j cx h h').2⟩⟩
   | nest ty aW sz n hole len row =>
    rw[hm] at hB;cases hp:ids[i] with
    | dead=>rw[hp] at hB;exact hB.elim
    | aw=>rw[hp] at hB;exact hB.elim
    | bg=>rw[hp] at hB;exact hB
    | cV vs=>rw[hp] at hB;exact hB.elim
    | lv p =>
     rw[hp] at hB;obtain⟨e1,e2,e3,vs,g1,g2,g3,kb,g5⟩:=hB;refine⟨e1,e2,e3,vs,by rw[hk p hp];exact g1,g2,g3,kb,fun i' cx hh' h=>?_⟩;obtain⟨k1,k2,k3⟩:=g5 i' cx hh' h;exact⟨k1.mono hi hh (fun x hx=>hkX p hp _ (.inr (k2 x hx))),k2,k3⟩
   | fK g n key val =>
    rw[hm] at hB;cases hp:ids[i] with
    | dead=>rw[hp] at hB;exact hB.elim
    | aw=>rw[hp] at hB;exact hB.elim
    | bg=>rw[hp] at hB;exact hB.elim
    | cV vs=>rw[hp] at hB;exact hB.elim
    | lv p =>
     rw[hp] at hB;obtain⟨es,clock,f,h1,h2,h3,h4,h5,h6⟩:=hB;exact⟨es,clock,f,by rw[hk p hp];exact h1,h2,h3,h4,fun i h=>(h5 i h).mono hi hh,h6⟩
   | qm g n key val =>
    rw[hm] at hB;cases hp:ids[i] with
    | dead=>rw[hp] at hB;exact hB.elim
    | aw=>rw[hp] at hB;exact hB.elim
    | bg=>rw[hp] at hB;exact hB.elim
    | cV vs=>rw[hp] at hB;exact hB.elim
    | lv p =>
     rw[hp] at hB;obtain⟨es,clock,f,h1,h2,h3,h4,h5,h6⟩:=hB;exact⟨es,clock,f,by rw[hk p hp];exact h1,h2,h3,h4,fun i h=>(h5 i h).mono hi hh,h6⟩
   | Ie g n key val se =>
    rw[hm] at hB;cases hp:ids[i] with
    | dead=>rw[hp] at hB;exact hB.elim
    | aw=>rw[hp] at hB;exact hB.elim
    | bg=>rw[hp] at hB;exact hB.elim
    | cV vs=>rw[hp] at hB;exact hB.elim
    | lv p =>
     rw[hp] at hB;obtain⟨r,es,clock,f,sb,h1,h2,h3,h4,h5,h6,h7,h8⟩:=hB;exact⟨r,es,clock,f,sb,by rw[hk p hp];exact h1,hi _ h2,by rw[hh _ h2];exact h3,h4,h5,h6,fun i h=>(h7 i h).mono hi hh,h8⟩
   | cZ ty g sh c dH cs kI has val =>
    rw[hm] at hB;cases hp:ids[i] with
    | dead=>rw[hp] at hB;exact hB.elim
    | aw=>rw[hp] at hB;exact hB.elim
    | bg=>rw[hp] at hB;exact hB
    | cV vs=>rw[hp] at hB;exact hB.elim
    | lv p =>
     rw[hp] at hB;exact nw (xm b d) (hkX p hp) (fun _ _ h=>h.mono hi hh) (fun x v h=>kN hi hh hd d x v h) hB
   | bW ty sz n Φ =>
    rw[hm] at hB;cases hp:ids[i] with
    | dead=>rw[hp] at hB;exact hB.elim
    | aw=>rw[hp] at hB;exact hB.elim
    | bg=>rw[hp] at hB;exact hB
    | cV vs=>rw[hp] at hB;exact hB.elim
    | lv p =>
     rw[hp] at hB;obtain⟨row,h0,e1,e2,vs,g1,g2,g3,g4,g5⟩:=hB;exact⟨row,h0,e1,e2,vs,by rw[hk p hp];exact g1,g2,g3,g4,fun i' j cx h h'=>⟨(g5 i' j cx h h').1.mono hi hh,(g5 i' j cx h h').2⟩⟩
   | ghost cs =>
    rw[hm] at hB;cases hp:ids[i] with
    | dead=>rw[hp] at hB;exact hB.elim
    | aw=>rw[hp] at hB;exact hB.elim
    | bg=>rw[hp] at hB;exact hB.elim
    | lv p=>rw[hp] at hB;exact hB.elim
    | cV vs =>
     rw[hp] at hB;refine⟨by simpa using hB.1,fun j hj cH=>?_⟩;rw[List.getElem_map];exact kN hi hh hd d _ _ (hB.2 j (by simpa using hj) cH)
 ·intro i j p p2 x h1 h2 h3 Gf;by_cases Tu:i=b<;>by_cases ZF:j=b
  ·rw[Tu,ZF]
  ·subst Tu;rw[List.getElem?_set_self fg] at h1;rw[List.getElem?_set_ne (fun e=>ZF e.symm)] at h2;have hqp:=Option.some.inj h1;have f2:=hs.au p2 (List.mem_of_getElem? h2) x Gf;rcases (hq p hqp x h3).2 with h|⟨p0,h4,h5⟩
   ·omega
   ·exact hs.al i j p0 p2 x h4 h2 h5 Gf
  ·subst ZF;rw[List.getElem?_set_self fg] at h2;rw[List.getElem?_set_ne (fun e=>Tu e.symm)] at h1;have hqp:=Option.some.inj h2;have f2:=hs.au p (List.mem_of_getElem? h1) x h3;rcases (hq p2 hqp x Gf).2 with h|⟨p0,h4,h5⟩
   ·omega
   ·exact hs.al i j p p0 x h1 h4 h3 h5
  ·rw[List.getElem?_set_ne (fun e=>Tu e.symm)] at h1;rw[List.getElem?_set_ne (fun e=>ZF e.symm)] at h2;exact hs.al i j p p2 x h1 h2 h3 Gf
 ·intro p hp x hx;rcases k9 p hp with hp|hp
  ·have:=hs.au p hp x hx;exact⟨this.1,Nat.lt_of_lt_of_le this.2 cj⟩
  ·refine⟨?_,(hq p hp x hx).1⟩;rcases (hq p hp x hx).2 with h|⟨p0,h4,h5⟩
   ·exact .inl (Nat.le_trans hs.frame.size h)
   ·exact(hs.au p0 (List.mem_of_getElem? h4) x h5).1
 ·refine hs.frame.go Sj W4 W5 cj (fun k hk hm=>?_) Bu;refine gk k (Nat.lt_of_lt_of_le hk hs.frame.size) (fun p hp e=>?_);rcases (hs.au p (List.mem_of_getElem? hp) k e).1 with h|h
  ·omega
  ·exact hm h
 ·intro vs h;rcases List.mem_or_eq_of_mem_set h with h|h
  ·exact hs.cV vs h
  ·exact absurd h.symm (Wq vs)
end
section
variable {P:Program}
theorem tq{w:World}(t ty e:TypeId)(i:TypeInfo)(ht:P.underlying t=some (.slice e))(hi:P.info? e=some i)(ad:Option Addr)(n cap:Nat)(hn:n<=cap):
  (Builtin.append_ #[t,t] ty #[.slice ad n cap,.slice none 0 0]).run P w=.ok (.slice ad n cap) w:=by
 cases ad<;>simp[Builtin.append_,run_underlying ht,sizeOf,typeInfo,hi,Builtin.lenOf,Builtin.firstCells,hn,storeCells]
theorem Bv{w:World}(t ty e:TypeId)(i:TypeInfo)(ht:P.underlying t=some (.slice e))(hi:P.info? e=some i)(a:Addr)(c:Nat):
  (Builtin.append_ #[t,t] ty #[.slice none 0 0,.slice (some a) 0 c]).run P w=.ok (.slice none 0 0) w:=by
 simp[Builtin.append_,run_underlying ht,sizeOf,typeInfo,hi,Builtin.lenOf,Builtin.firstCells,loadCells,loadCellsFrom]

/-- What an append leaves: nothing new; or a block of cells that begin with the old ones and the new ones: the old block, or a new one. -/
def Kx(w:World)(v:Value)(e:TypeId)(size n m:Nat)(xs news:List Value)(v':Value)(w':World):Prop :=
 w'.os=w.os/\w'.tape=w.tape/\w'.output=w.output/\w.heap.size<=w'.heap.size/\(∀k,k<w.heap.size->v.ownBlock≠some k->w'.heap[k]?=w.heap[k]?)/\fL w.drawn w'.drawn /\
 ((v'=.slice none 0 0/\n+m=0) \/
  ∃g cap cur,v'=.slice (some ⟨g,0,none⟩) (n+m) cap/\w'.heap[g]?=some (.cells cur e (0,0))/\n+m<=cap/\cap<=maxLen/\cur.size=cap*size/\cur.toList.take ((n+m)*size)=xs++news /\
   g<w'.heap.size/\(w.heap.size<=g\/v.ownBlock=some g))

theorem mG{w:World}(t ty e:TypeId)(i:TypeInfo)(z:Value)(ht:P.underlying t=some (.slice e))(hi:P.info? e=some i)(hz:i.zero=some z)(rP:z.cells.size=i.size)
  (v:Value) (n:Nat) (xs:List Value) (hv:(v=.slice none 0 0/\n=0/\xs=[])\/∃g cap cur,v=.slice (some ⟨g,0,none⟩) n cap/\w.heap[g]?=some (.cells cur e (0,0))/\n<=cap/\cap<=maxLen/\cur.size=cap*i.size/\cur.toList.take (n*i.size)=xs)
  (y:Value) (m:Nat) (news:List Value) (hy:(y=.slice none 0 0/\m=0/\news=[])\/∃a c,y=.slice (some a) m c/\news.length=m*i.size/\(∀j u,news[j]?=some u->w.cell? (a.add j)=some u)) (h1:∀u∈news,u.oneCell'=true)
  (h63:n+m<=140737488355328) (Ky:(n+m)*i.bytes<=140737488355328) :
  ∃v' w',(Builtin.append_ #[t,t] ty #[v,y]).run P w=.ok v' w'/\Kx w v e i.size n m xs news v' w':=by
 have h63':n+m<=maxLen:=by simp only[maxLen];omega
 have W7:∀(Ke:Nat) (v:Value),xs.length=n*i.size->news.length=m*i.size->Kx w v e i.size n m xs news (.slice (some ⟨w.heap.size,0,none⟩) (n+m) (grownCap w (n+m) Ke e))
   (w.drew.alloc (.cells (xs.toArray++news.toArray++Builtin.zeroCells z.cells (grownCap w (n+m) Ke e-(n+m))) e)):=by
  intro Ke v hx hnw;have Ir:=grownCap_ge w (n+m) Ke e;have hlen:(xs++news).length=(n+m)*i.size:=by rw[List.length_append,hx,hnw,Nat.add_mul]
  refine⟨rfl,rfl,rfl,by simp,fun k hk _=>Below.heap_alloc w.drew _ k hk,fL.succ _,.inr ⟨w.heap.size,_,_,rfl,heap_alloc_new w.drew _,Ir,grownCap_le_maxLen w (n+m) Ke e h63',?_,?_,by simp,.inl (Nat.le_refl _)⟩⟩
  ·simp only[Array.size_append,List.size_toArray,size_zeroCells,rP,hx,hnw,<-Nat.add_mul]
   congr 1;omega
  ·simp only[Array.toList_append,List.append_assoc];rw[<-List.append_assoc,<-hlen];exact List.take_left
 rcases hv with⟨rfl,rfl,rfl⟩|⟨g,cap,cur,rfl,hg,hnc,Tv,By,Gj⟩
 ·rcases hy with⟨rfl,rfl,rfl⟩|⟨a,c,rfl,hl,Gk⟩
  ·exact⟨_,_,tq t ty e i ht hi none 0 0 (Nat.le_refl _),rfl,rfl,rfl,Nat.le_refl _,fun _ _ _=>rfl,fL.refl _,.inl ⟨rfl,rfl⟩⟩
  ·by_cases hm:m=0
   ·subst hm;exact⟨_,_,Bv t ty e i ht hi a c,rfl,rfl,rfl,Nat.le_refl _,fun _ _ _=>rfl,fL.refl _,.inl ⟨rfl,rfl⟩⟩
   ·have hr:=run_append_nil (P:=P) w t ty e i z ht hi hz a m c news hl Gk (by omega) (by omega) (by have hb:=Ky;simp only[Nat.zero_add] at hb;omega);have:=W7 0 (.slice none 0 0) (by simp) hl;simp only[Nat.zero_add,Array.empty_append] at this hr ⊢;exact⟨_,_,hr,this⟩
 ·have xr:xs.length=n*i.size:=by
   rw[<-Gj,List.length_take,Array.length_toList,By];exact Nat.min_eq_left (Nat.mul_le_mul_right _ hnc)
  have holds:∀j u,xs[j]?=some u->w.cell? ((⟨g,0,none⟩:Addr).add j)=some u:=by
   intro j u hu;have Ko:(⟨g,0,none⟩:Addr).add j=⟨g,j,none⟩:=by unfold Addr.add;split<;>simp_all
   rw[Ko,cell_of_row w g j cur e (0,0) hg];rw[<-Gj,List.getElem?_take] at hu;split at hu
   ·simpa using hu
   ·cases hu
  rcases hy with⟨rfl,rfl,rfl⟩|⟨a,c,rfl,hl,Gk⟩
  ·refine⟨_,_,tq t ty e i ht hi _ n cap hnc,rfl,rfl,rfl,Nat.le_refl _,fun _ _ _=>rfl,fL.refl _,.inr ⟨g,cap,cur,rfl,hg,hnc,Tv,By,by simpa using Gj,(Array.getElem?_eq_some_iff.1 hg).1,.inr rfl⟩⟩
  ·by_cases Kz:n+m<=cap
   ·have hfit:n*i.size+news.length<=cur.size:=by rw[hl,By,<-Nat.add_mul];exact Nat.mul_le_mul_right _ Kz
    have hr:=run_append_room (P:=P) w t ty e i ht hi g n cap cur hg a m c news hl Gk h1 Kz hfit;refine⟨_,_,hr,rfl,rfl,rfl,by simp,fun k _ hk=>setRow_other w g k _ (fun e=>hk (by simp[Value.ownBlock,e])),fL.refl _,.inr ⟨g,cap,_,rfl,setRow_heap w g cur _ e _ hg,Kz,Tv,?_,?_,?_,.inr rfl⟩⟩
    ·simp only[List.size_toArray,List.length_append,List.length_take,List.length_drop,Array.length_toList];omega
    ·have hlen:(xs++news).length=(n+m)*i.size:=by rw[List.length_append,xr,hl,Nat.add_mul]
     rw[Gj,<-hlen];exact List.take_left
    ·have:=(Array.getElem?_eq_some_iff.1 hg).1;simpa[World.setRow] using this
   ·have hr:=run_append_grow (P:=P) w t ty e i z ht hi hz ⟨g,0,none⟩ n cap xs xr holds a m c news hl Gk (by omega) (by omega) (growslice_fits (by omega) Ky);exact⟨_,_,hr,W7 cap _ xr hl⟩
end
/-- The rows of what is appended. -/
def Bz(m:List ar)(bN:Nat)(y:A):Option (Nat×(Nat->List A)) :=
 match y with
 | .own b=>match m.getD b .dead with
  | .row _ sz n row=>match Nat.beq sz bN with
   | true=>some (n,row)
   | false=>none
  | _=>none
 | .sl n sz row=>match Nat.beq sz bN with
  | true=>some (n,row)
  | false=>none
 | .aC=>some (0,fun _=>[])
 | .pe b k=>match m.getD b .dead with
  | .row _ sz n row=>match Nat.beq sz bN with
   | true=>some (n-k,fun i=>row (k+i))
   | false=>none
  | _=>none
 | _=>none
def aO(n:Nat)(r1 r2:Nat->List A):Nat->List A:=fun i=>match Nat.blt i n with
 | true=>r1 i
 | false=>r2 (i-n)
def sj:List ar->(List ar->Prop)->Prop
 | [],K=>K []
 | x::xs,K=>match x with
  | .box ty cs=>fd.sf 3 cs fun dz=>sj xs fun ys=>K (.box ty dz::ys)
  | .row ty sz n r=>sj xs fun ys=>K (.row ty sz n r::ys)
  | .nest ty aW sz n ho le r=>sj xs fun ys=>K (.nest ty aW sz n ho le r::ys)
  | .fK g n k v=>sj xs fun ys=>K (.fK g n k v::ys)
  | .qm g n k v=>sj xs fun ys=>K (.qm g n k v::ys)
  | .Ie g n k v se=>sj xs fun ys=>K (.Ie g n k v se::ys)
  | .cZ ty g sh n hi cs kI has val=>fd.sf 3 cs fun dz=>sj xs fun ys=>K (.cZ ty g sh n hi dz kI has val::ys)
  | .bW ty sz n Φ=>sj xs fun ys=>K (.bW ty sz n Φ::ys)
  | .ghost cs=>fd.sf 3 cs fun dz=>sj xs fun ys=>K (.ghost dz::ys)
  | .gone=>sj xs fun ys=>K (.gone::ys)
  | .dead=>sj xs fun ys=>K (.dead::ys)
theorem eK:∀(l:List ar) (K:List ar->Prop),sj l K=K l
 | [],K=>rfl
 | x::xs,K=>by cases x<;>simp only[sj,cX,eK xs]
def Tw(tt:TT)(t:TypeId)(x y:A)(s:List A)(m:List ar)(K:List A->A->List ar->Prop):Prop :=
 match tt.lookup t with
 | none=>False
 | some ti=>match ti.kind,Bz m ti.bN y with
  | 3,some (n2,jK)=>match x with
   | .own b=>match m.getD b .dead with
    | .row ty sz n row=>match Nat.beq sz ti.bN,Nat.beq ty ti.aW with
     | true,true=>dP ti.fk fun eb=>(n+n2<=140737488355328/\(n+n2)*eb<=140737488355328) /\
      fd.sf 4 (s.map (xm b 4)) fun s'=>sj ((m.map (Bt b 4)).set b (.row ty sz (n+n2) (aO n row jK))) fun m'=>K s' (.own b) m'
     | _,_=>False
    | _=>False
   | .aC=>dP ti.fk fun eb=>dP ti.aW fun aW=>dP ti.bN fun bN=>(n2<=140737488355328/\n2*eb<=140737488355328)/\nc m (.row aW bN n2 jK) fun b m'=>K s (.own b) m'
   | _=>False
  | _,_=>False

section
variable {c:Ctx} {s:List A} {m:List ar} {a:Act} {w w':World} {ids ab:dV} {P:Program} {im bL:Nat->Prop} {tt:TT} {G:aK}
variable {next:Act->World->Prop} {Q:Exit->Act->World->Prop} {o:Oper}

theorem j8{b:Nat}{ty:TypeId}{sz n:Nat}{row:Nat->List A}(h:m.getD b .dead=.row ty sz n row):∃hb:b<m.length,m[b]=.row ty sz n row:=by
 rcases Nat.lt_or_ge b m.length with hb|hb
 ·exact⟨hb,by rw[List.getD_eq_getElem?_getD,List.getElem?_eq_getElem hb] at h;simpa using h⟩
 ·rw[List.getD_eq_getElem?_getD,List.getElem?_eq_none hb] at h;cases h

/-- Values that stand for rows. -/
def eE(im:Nat->Prop)(w:World)(n sz:Nat)(row:Nat->List A)(vs:List Value):Prop :=
 vs.length=n*sz/\(∀u∈vs,hU u)/\(∀i,i<n->(row i).length=sz)/\∀i j,i<n->∀(h:j<(row i).length) (h':i*sz+j<vs.length),aA im w (row i)[j] vs[i*sz+j]

theorem eE.nil(im:Nat->Prop)(w:World)(sz:Nat)(row:Nat->List A):eE im w 0 sz row [] :=
 ⟨by simp,by simp,fun i h=>by omega,fun i j h=>by omega⟩

theorem eE.cat{n n2 sz:Nat}{r1 r2:Nat->List A}{xs ys:List Value}(h1:eE im w n sz r1 xs)(h2:eE im w n2 sz r2 ys):eE im w (n+n2) sz (aO n r1 r2) (xs++ys):=by
 obtain⟨a1,a2,a3,a4⟩:=h1;obtain⟨b1,b2,b3,b4⟩:=h2;have rc:∀i,i<n->aO n r1 r2 i=r1 i:=fun i hi=>by simp only[aO];rw[show Nat.blt i n=true from Nat.ble_eq_true_of_le hi]
 have rc2:∀i,¬i<n->aO n r1 r2 i=r2 (i-n):=fun i hi=>by
  simp only[aO]
  have:Nat.blt i n=false:=by
   cases h:Nat.blt i n with
   | false=>rfl
   | true=>exact absurd (Nat.le_of_ble_eq_true h) hi
  rw[this]
 refine⟨by rw[List.length_append,a1,b1,Nat.add_mul],?_,?_,?_⟩
 ·intro u hu;rcases List.mem_append.1 hu with h|h
  ·exact a2 u h
  ·exact b2 u h
 ·intro i hi;by_cases h:i<n
  ·rw[rc i h];exact a3 i h
  ·rw[rc2 i h];exact b3 _ (by omega)
 ·intro i j hi h h';by_cases pL:i<n
  ·have e:=rc i pL;have hl:=a3 i pL;have hj:j<(r1 i).length:=by rw[e] at h;exact h
   have aH:i*sz+j<n*sz:=by
    have:=Nat.mul_le_mul_right sz (show i+1<=n from pL);rw[Nat.add_mul] at this;omega
   rw[List.getElem_append_left (by omega)];have:=a4 i j pL hj (by omega);simpa only[e] using this
  ·have e:=rc2 i pL;have hl:=b3 (i-n) (by omega);have hj:j<(r2 (i-n)).length:=by rw[e] at h;exact h
   have Ir:n*sz<=i*sz+j:=Nat.le_trans (Nat.mul_le_mul_right sz (by omega)) (Nat.le_add_right _ _);rw[List.getElem_append_right (by omega)]
   have e2:i*sz+j-xs.length=(i-n)*sz+j:=by
    rw[a1,Nat.sub_mul];have:=Nat.mul_le_mul_right sz (show n<=i by omega);omega
   have:=b4 (i-n) j (by omega) hj (by rw[<-e2];rw[List.length_append] at h';omega);simpa only[e,e2] using this

theorem vw(g o j:Nat):(⟨g,o,none⟩:Addr).add j=⟨g,o+j,none⟩:=by unfold Addr.add;split<;>simp_all

theorem j9{i j sz n k:Nat}(hk:k<n*sz)(hi:i=k/sz)(hj:j=k%sz):i<n/\j<sz/\i*sz+j=k:=by
 have hs:0<sz:=by
  rcases Nat.eq_zero_or_pos sz with h|h
  ·subst h;omega
  ·exact h
 subst hi;subst hj;refine⟨(Nat.div_lt_iff_lt_mul hs).2 hk,Nat.mod_lt _ hs,?_⟩;have:=Nat.div_add_mod k sz;rw[Nat.mul_comm] at this;exact this

theorem bq.Gl{ty:TypeId}{sz n:Nat}{row:Nat->List A}{p:Id}(h:bq ids im w (.row ty sz n row) (.lv p)):
  ∃cur:Array Value,p.sz=sz/\p.n=n/\w.heap[p.aq]?=some (.cells cur ty (0,0))/\cur.size=p.k/\n*sz<=p.k/\eE im w n sz row (cur.toList.take (n*sz)):=by
 obtain⟨e1,e2,vs,g1,g2,g3,g4,g5⟩:=h;have hl:(vs.toList.take (n*sz)).length=n*sz:=by simp;omega
 refine⟨vs,e1,e2,g1,g2,g3,hl,?_,g4,?_⟩
 ·intro u hu;obtain⟨k,hk,rfl⟩:=List.getElem_of_mem hu;rw[hl] at hk;obtain⟨q1,q2,q3⟩:=j9 hk rfl rfl;have aH:k<vs.size:=by omega
  have:=(g5 (k/sz) (k%sz) q1 (by rw[g4 _ q1];exact q2) (by rw[q3];exact aH)).2;simp only[List.getElem_take,Array.getElem_toList];simpa only[q3] using this
 ·intro i j hi h h';rw[hl] at h';have:=(g5 i j hi h (by omega)).1;simpa using this

theorem eE.tail{im:Nat->Prop}{w:World}{n sz:Nat}{row:Nat->List A}{vs:List Value}(h:eE im w n sz row vs)(k:Nat):eE im w (n-k) sz (fun i=>row (k+i)) (vs.drop (k*sz)):=by
 obtain⟨h1,h2,h3,h4⟩:=h;refine⟨by rw[List.length_drop,h1,Nat.sub_mul],fun u hu=>h2 u (List.mem_of_mem_drop hu),fun i hi=>h3 _ (by omega),fun i j hi hj h'=>?_⟩;have:=h4 (k+i) j (by omega) hj (by rw[List.length_drop] at h';rw[Nat.add_mul];omega);rw[List.getElem_drop];have e:(k+i)*sz+j=k*sz+(i*sz+j):=by rw[Nat.add_mul];omega
 simpa only[e] using this
theorem vz(hs:aJ c s m a w ids){bN n:Nat}{row:Nat->List A}{y:A}{v:Value}(h:Bz m bN y=some (n,row))(hy:Rel ids (av c ids w) w y v):
  ∃news,eE (av c ids w) w n bN row news/\((v=.slice none 0 0/\n=0/\news=[])\/∃ad cp,v=.slice (some ad) n cp/\(∀j u,news[j]?=some u->w.cell? (ad.add j)=some u)):=by
 unfold Bz at h;split at h
 ·rename_i b;split at h
  ·rename_i ty sz n' dZ hb;split at h
   ·rename_i he;have he:=Nat.eq_of_beq_eq_true he;cases h;subst he;obtain⟨aH,hm⟩:=j8 hb;have fg:b<ids.length:=by rw[hs.aU];exact aH
    have hB:=hs.bP b aH fg;rw[hm] at hB;rcases hs.gC hy (by rw[hb];simp) with⟨h1,rfl⟩|⟨p,cap,h1,h2,h3,rfl⟩
    ·have:ids[b]=.bg:=by rw[List.getElem?_eq_getElem fg] at h1;exact Option.some.inj h1
     rw[this] at hB;have hB:n=0:=hB;subst hB;exact⟨[],eE.nil _ _ _ _,.inl ⟨rfl,rfl,rfl⟩⟩
    ·have:ids[b]=.lv p:=by rw[List.getElem?_eq_getElem fg] at h1;exact Option.some.inj h1
     rw[this] at hB;obtain⟨cur,e1,e2,g1,g2,g3,hR⟩:=hB.Gl;refine⟨_,hR,.inr ⟨_,cap,by rw[e2],fun j u hu=>?_⟩⟩;rw[vw,Nat.zero_add,cell_of_row w p.aq j cur ty (0,0) g1];rw[List.getElem?_take] at hu;split at hu
     ·simpa using hu
     ·cases hu
   ·cases h
  ·cases h
 ·rename_i n' sz dZ;split at h
  ·rename_i he;have he:=Nat.eq_of_beq_eq_true he;cases h;subst he;cases hy with
   | aL hy =>
    cases hy with
    | uu=>exact⟨[],eE.nil _ _ _ _,.inl ⟨rfl,rfl,rfl⟩⟩
    | sle _ _ ad cap=>exact⟨[],eE.nil _ _ _ _,.inr ⟨ad,cap,rfl,fun j u hu=>by simp at hu⟩⟩
    | sl _ _ _ aq base cap vs hb mw hl hc ho hr =>
     refine⟨(List.range (n*sz)).map fun k=>vs (k/sz) (k%sz),⟨by simp,?_,hl,?_⟩,.inr ⟨_,cap,rfl,?_⟩⟩
     ·intro u hu;simp only[List.mem_map,List.mem_range] at hu;obtain⟨k,hk,rfl⟩:=hu;obtain⟨q1,q2,q3⟩:=j9 hk rfl rfl;exact ho _ _ q1 q2
     ·intro i j hi hj h';have Pu:j<sz:=by rw[<-hl i hi];exact hj
      have ZG:0<sz:=by omega
      have e1:(i*sz+j)/sz=i:=by rw[Nat.mul_comm,Nat.mul_add_div ZG,Nat.div_eq_of_lt Pu];simp
      have e2:(i*sz+j)%sz=j:=by rw[Nat.mul_comm,Nat.mul_add_mod,Nat.mod_eq_of_lt Pu]
      simp only[List.getElem_map,List.getElem_range,e1,e2];exact hr i j hi hj
     ·intro k u hu;rw[List.getElem?_map] at hu;rcases Nat.lt_or_ge k (n*sz) with hk|hk
      ·rw[List.getElem?_eq_getElem (by simpa using hk)] at hu;simp at hu;obtain⟨q1,q2,q3⟩:=j9 hk rfl rfl;rw[vw,<-hu,<-hc _ _ q1 q2,Nat.add_assoc,q3]
      ·rw[List.getElem?_eq_none (by simpa using hk)] at hu;cases hu
  ·cases h
 ·cases h;exact⟨[],eE.nil _ _ _ _,.inl ⟨hy.dO,rfl,rfl⟩⟩
 ·rename_i b k;split at h
  ·rename_i ty sz n' dZ hb;split at h
   ·rename_i he;have he:=Nat.eq_of_beq_eq_true he;cases h;subst he;obtain⟨aH,hm⟩:=j8 hb;have fg:b<ids.length:=by rw[hs.aU];exact aH
    have hB:=hs.bP b aH fg;rw[hm] at hB;rcases hs.Ti hy (by rw[hb];simp) with⟨h1,rfl⟩|⟨p,cap,x,h1,hx,rfl⟩
    ·have:ids[b]=.bg:=by rw[List.getElem?_eq_getElem fg] at h1;exact Option.some.inj h1
     rw[this] at hB;have hB:n'=0:=hB;subst hB;rw[Nat.zero_sub];exact⟨[],eE.nil _ _ _ _,.inl ⟨rfl,rfl,rfl⟩⟩
    ·have:ids[b]=.lv p:=by rw[List.getElem?_eq_getElem fg] at h1;exact Option.some.inj h1
     rw[this] at hB;obtain⟨cur,e1,e2,g1,g2,g3,hR⟩:=hB.Gl;refine⟨_,hR.tail k,.inr ⟨_,cap,by rw[e2],fun j u hu=>?_⟩⟩;rw[List.getElem?_drop,List.getElem?_take] at hu;split at hu
     ·rename_i hj
      have hkn:k<p.n:=by
       rw[e2];rcases Nat.lt_or_ge k n' with hk|hk
       ·exact hk
       ·have:=Nat.mul_le_mul_right sz hk;omega
      rw[hx hkn,e1,vw,cell_of_row w p.aq _ cur ty (0,0) g1];simpa using hu
     ·cases hu
   ·cases h
  ·cases h
 ·cases h

theorem eE.mono{n sz:Nat}{row:Nat->List A}{vs:List Value}(h:eE im w n sz row vs)(hm:∀u v,aA im w u v->aA bL w' u v):eE bL w' n sz row vs :=
 ⟨h.1,h.2.1,h.2.2.1,fun i j hi hj cH=>hm _ _ (h.2.2.2 i j hi hj cH)⟩

/-- A block whose first cells stand for rows. -/
theorem bq.oJ{ty:TypeId}{sz n cap:Nat}{row:Nat->List A}{g:Nat}{cur:Array Value}{vs:List Value}(hg:w.heap[g]?=some (.cells cur ty (0,0)))(By:cur.size=cap*sz)(hn:n<=cap)
  (ht:cur.toList.take (n*sz)=vs) (hR:eE im w n sz row vs):bq ids im w (.row ty sz n row) (.lv (mkId g cur.size n sz)):=by
 have hle:n*sz<=cur.size:=by rw[By];exact Nat.mul_le_mul_right _ hn
 refine⟨rfl,rfl,cur,hg,rfl,hle,hR.2.2.1,?_⟩;intro i j hi hj cH
 have aH:i*sz+j<n*sz:=by
  have:=Nat.mul_le_mul_right sz (show i+1<=n from hi);have:=hR.2.2.1 i hi;rw[Nat.add_mul] at *;omega
 have xT:=hR.1;have e:vs[i*sz+j]'(by omega)=cur[i*sz+j]:=by subst ht;simp
 refine⟨by rw[<-e];exact hR.2.2.2 i j hi hj (by omega),?_⟩;rw[<-e];exact hR.2.1 _ (List.getElem_mem _)

theorem En(aN:bM P tt)(hs:aJ c s m a w ids){t:TypeId}{X Y:Operand}(ho:o.op=.call { callee:=.builtin .append,args:=#[X,Y],argTypes:=#[t,t] })
  {K:List A->A->List ar->Prop} (h:Tw tt t (ev s X) (ev s Y) s m K)
  (hn:∀s1 v m' a' w' ab,K s1 v m'->aJ c (bA s1 o.dst v) m' a' w' ab->next a' w'):o.wp P a w next Q:=by
 have hx:=hs.ev X;have hy:=hs.ev Y
 have e:(execOp a.eval o)=(do pure (.value (<-Builtin.append_ #[t,t] o.type #[a.eval X,a.eval Y]))):=by
  obtain⟨dst,op,ty,pos,after,guard⟩:=o;simp only at ho;subst ho;simp[execOp,resolve,invoke,builtin]
 unfold Tw at h;split at h
 ·exact h.elim
 ·rename_i ti j7;obtain⟨i0,d,z0,_,hd,_,_,_,_,_,_,_,_,_,kA,_⟩:=aN.facts j7;split at h
  ·rename_i n2 jK hk hv;obtain⟨ie,ze,gS,jJ,cj,D6,hz,rP,hne⟩:=kA hk;subst gS;obtain⟨news,Pw,Tp⟩:=vz hs hv hy
   have Px:(a.eval Y=.slice none 0 0/\n2=0/\news=[])\/∃ad cp,a.eval Y=.slice (some ad) n2 cp/\news.length=n2*ie.size/\(∀j u,news[j]?=some u->w.cell? (ad.add j)=some u):=by
    rcases Tp with h|⟨ad,cp,h1,h2⟩
    ·exact .inl h
    ·exact .inr ⟨ad,cp,h1,by rw[cj];exact Pw.1,h2⟩
   have Iu:ze.cells.size=ie.size:=by rw[rP,cj]
   split at h
   ·rename_i b Po;rw[Po] at hx;split at h
    ·rename_i ty sz n row hb;split at h
     ·rename_i oI mr;have oI:=Nat.eq_of_beq_eq_true oI;have mr:=Nat.eq_of_beq_eq_true mr;subst oI;subst mr;rw[aX] at h;obtain⟨⟨Eb,uz⟩,h⟩:=h;rw[cX,eK] at h;obtain⟨aH,hm⟩:=j8 hb;have fg:b<ids.length:=by rw[hs.aU];exact aH
      have hB:=hs.bP b aH fg;rw[hm] at hB
      have Ps:∃xs,eE (av c ids w) w n ti.bN row xs/\((a.eval X=.slice none 0 0/\n=0/\xs=[])\/∃g cap cur,a.eval X=.slice (some ⟨g,0,none⟩) n cap/\w.heap[g]?=some (.cells cur ti.aW (0,0))/\n<=cap/\cap<=maxLen/\cur.size=cap*ie.size/\cur.toList.take (n*ie.size)=xs) /\
        ((a.eval X).ownBlock=none\/∃p,ids[b]?=some (.lv p)/\(a.eval X).ownBlock=some p.aq):=by
       rcases hs.gC hx (by rw[hb];simp) with⟨h1,h2⟩|⟨p,cap,h1,h2,h3,h4⟩
       ·have:ids[b]=.bg:=by rw[List.getElem?_eq_getElem fg] at h1;exact Option.some.inj h1
        rw[this] at hB;have hB:n=0:=hB;subst hB;exact⟨[],eE.nil _ _ _ _,.inl ⟨h2,rfl,rfl⟩,.inl (by rw[h2];rfl)⟩
       ·have:ids[b]=.lv p:=by rw[List.getElem?_eq_getElem fg] at h1;exact Option.some.inj h1
        rw[this] at hB;obtain⟨cur,e1,e2,g1,g2,g3,hR⟩:=hB.Gl;subst e2;exact⟨_,hR,.inr ⟨p.aq,cap,cur,h4,g1,h2.1,h2.2,by rw[g2,<-h3,e1,cj],by rw[cj]⟩,.inr ⟨p,h1,by rw[h4];rfl⟩⟩
      obtain⟨xs,hR1,Tx,bm⟩:=Ps;obtain⟨v',w',cz,o1,o2,o3,o4,o5,Py,o6⟩:=mG (P:=P) (w:=w) t o.type ti.aW ie ze hd jJ hz Iu (a.eval X) n xs Tx (a.eval Y) n2 news Px Pw.2.1 Eb (by rw[D6];exact uz);have hRR:=hR1.cat Pw
      have hblk:∀k,k<w.heap.size->(∀p,ids[b]?=some (.lv p)->¬p.has k)->w'.heap[k]?=w.heap[k]?:=by
       intro k hk hp;refine o5 k hk (fun e=>?_);rcases bm with h|⟨p,h1,h2⟩
       ·rw[h] at e;cases e
       ·rw[h2] at e;exact hp p h1 (.inl (Option.some.inj e).symm)
      rcases o6 with⟨rfl,xq⟩|⟨g,cap,cur,rfl,q1,q2,q3,q4,q5,q6,q7⟩
      ·have bY:=hs.rebind (w':=w') b .bg (.row ti.aW ti.bN (n+n2) (aO n row jK)) 4 aH o1 o2 o3 o4 hblk (fun _ h=>by cases h) (fun p' h=>by cases h) (fun _=>xq) Py;refine bj (by rw[e];simp[cz]) (hn _ _ _ _ _ _ h (bY.bA o.dst (.gQ b ?_)));rw[List.getElem?_set_self fg]
      ·rw[cj] at q4 q5
       have bY:=hs.rebind (w':=w') b (.lv (mkId g cur.size (n+n2) ti.bN)) (.row ti.aW ti.bN (n+n2) (aO n row jK)) 4 aH o1 o2 o3 o4 hblk (fun _ h=>by cases h)
        (fun p' h x hx=>by
         cases h;have:=cQ hx;subst this;refine⟨q6,?_⟩;rcases q7 with h|h
         ·exact .inl h
         ·rcases bm with h'|⟨p,h1,h2⟩
          ·rw[h'] at h;cases h
          ·rw[h2] at h;exact .inr ⟨p,h1,.inl (Option.some.inj h).symm⟩)
        (fun hm=>bq.oJ q1 q4 q2 q5 (hRR.mono hm)) Py
       refine bj (by rw[e];simp[cz]) (hn _ _ _ _ _ _ h (bY.bA o.dst (.own b cap (mkId g cur.size (n+n2) ti.bN) ?_ ⟨q2,q3⟩ q4.symm)));rw[List.getElem?_set_self fg]
     ·exact h.elim
    ·exact h.elim
   ·rename_i Po;rw[Po] at hx;simp only[aX] at h;obtain⟨⟨Eb,uz⟩,h⟩:=h;rw[gj] at h;obtain⟨v',w',cz,o1,o2,o3,o4,o5,Py,o6⟩:=mG (P:=P) (w:=w) t o.type ti.aW ie ze hd jJ hz Iu (a.eval X) 0 [] (.inl ⟨hx.dO,rfl,rfl⟩) (a.eval Y) n2 news Px Pw.2.1 (by omega) (by rw[D6];simpa using uz);have Ty:Bw w.heap.size w w':=⟨o1,o2,o3,o4,fun k hk=>o5 k hk (by rw[hx.dO];simp[Value.ownBlock]),Py⟩;simp only[Nat.zero_add,List.nil_append] at o6
    have nh:∀js:dV,(∀p,eU.lv p∈js->∀x,p.has x->w.heap.size<=x)->∀u v,aA (av c ids w) w u v->aA (av c (ids++js) w') w' u v:=by
     intro js Pu u v hu;refine hu.mono ?_ (fun k hk=>Ty.block k (cU hs hk));intro k hk;rcases hk with hk|⟨h1,h2,h3⟩
     ·exact .inl hk
     ·refine .inr ⟨h1,Nat.lt_of_lt_of_le h2 o4,fun p hp=>?_⟩;rcases List.mem_append.1 hp with hp|hp
      ·exact h3 p hp
      ·intro hx;have:=Pu p hp k hx;omega
    rcases o6 with⟨rfl,xq⟩|⟨g,cap,cur,rfl,q1,q2,q3,q4,q5,q6,q7⟩
    ·have bY := hs.grow Ty [.row ti.aW ti.bN n2 jK] [.bg] rfl (fun i h1 h2 => by
       have:i=0:=by simp at h1;omega
       subst this;exact xq) (fun p h=>by simp at h) (fun vs h=>by simp at h) (fun i j p q x h1=>by
       cases i with
       | zero=>simp at h1
       | succ i=>simp at h1)
     refine bj (by rw[e];simp[cz]) (hn _ _ _ _ _ _ h (bY.bA o.dst (.gQ m.length ?_)));rw[<-hs.aU];simp
    ·rw[cj] at q4 q5
     have Ir:w.heap.size<=g:=by
      rcases q7 with h|h
      ·exact h
      ·rw[hx.dO] at h;simp[Value.ownBlock] at h
     have bY:=hs.grow Ty [.row ti.aW ti.bN n2 jK] [.lv (mkId g cur.size n2 ti.bN)] rfl (fun i h1 h2=>by
       have:i=0:=by simp at h1;omega
       subst this;exact bq.oJ q1 q4 q2 q5 (Pw.mono (nh _ (fun p hp x hx=>by simp at hp;subst hp;rw[cQ hx];exact Ir)))) (fun p h x hx=>by simp at h;subst h;rw[cQ hx];exact⟨Ir,q6⟩) (fun vs h=>by simp at h) (fun i j p q x h1 h2 _ _=>by
       cases i with
       | zero=>cases j with
        | zero=>rfl
        | succ j=>simp at h2
       | succ i=>simp at h1)
     refine bj (by rw[e];simp[cz]) (hn _ _ _ _ _ _ h (bY.bA o.dst (.own m.length cap (mkId g cur.size n2 ti.bN) ?_ ⟨q2,q3⟩ q4.symm)));rw[<-hs.aU];simp
   ·exact h.elim
  ·exact h.elim
end
def Iv(z:List A):Nat->List A
 | 0=>[]
 | n+1=>z++Iv z n
theorem Gm(z:List A):∀n,(Iv z n).length=n*z.length
 | 0=>by simp[Iv]
 | n+1=>by simp[Iv,Gm z n,Nat.add_mul];omega
theorem Gn(z:List A):∀(n k:Nat) (h:k<(Iv z n).length) (h':k%z.length<z.length),(Iv z n)[k]=z[k%z.length]
 | 0,k,h,_=>by simp[Iv] at h
 | n+1,k,h,h'=>by
  simp only[Iv];by_cases hk:k<z.length
  ·rw[List.getElem_append_left hk];simp[Nat.mod_eq_of_lt hk]
  ·rw[List.getElem_append_right (by omega)];have e:(k-z.length)%z.length=k%z.length:=(Nat.mod_eq_sub_mod (by omega)).symm;rw[Gn z n (k-z.length) (by simp[Iv] at h;omega) (by rw[e];exact h')];simp only[e]

def KA(tt:TT)(t:TypeId)(l k:A)(m:List ar)(K:KT):Prop :=
 match tt.lookup t,l,k with
 | some ti,.int _ l,.int _ k=>match ti.kind,tt.lookup ti.aW with
  | 3,some te=>dP ti.fk fun eb=>dP ti.aW fun aW=>dP ti.bN fun bN=>fl te.zero fun z=>(0<=l/\l<=k/\k<=140737488355328/\k*(eb:Int)<=140737488355328)/\nc m (.row aW bN l.toNat fun _=>z) fun b m'=>K (.own b) m'
  | _,_=>False
 | _,_,_=>False
def vA(tt:TT)(t:TypeId)(len:Nat)(parts:List (Nat×A))(m:List ar)(K:KT):Prop :=
 match tt.lookup t with
 | none=>False
 | some ti=>match ti.kind,tt.lookup ti.aW,Nat.ble (len*ti.bN) 1000000 with
  | 3,some te,true=>pF ti parts (Iv te.zero len) fun cs=>match cs.any (cY 4),Nat.beq cs.length (len*ti.bN) with
   | false,true=>dP ti.aW fun aW=>dP ti.bN fun bN=>nc m (.row aW bN len fun i=>il bN (cs.drop (i*bN))) fun b m'=>K (.own b) m'
   | _,_=>False
  | _,_,_=>False
/-- A slice of a row of ours: the row itself, shorter. -/
def Eo(tt:TT)(t:TypeId)(b:Nat)(lo hi:Option A)(s:List A)(m:List ar)(K:List A->A->List ar->Prop):Prop :=
 match tt.lookup t,lo with
 | some ti,none=>match ti.kind,m.getD b .dead with
  | 3,.row ty sz n row=>y9 hi n n fun h =>
   fd.sf 4 (s.map (xm b 4)) fun s'=>sj ((m.map (Bt b 4)).set b (.row ty sz h row)) fun m'=>K s' (.own b) m'
  | _,_=>False
 | some ti,some l=>match ti.kind,hi,m.getD b .dead with
  | 3,none,.row _ sz n _=>match Nat.beq sz ti.bN with
   | true=>y9 (some l) 0 n fun k=>dP b fun b'=>K s (.pe b' k) m
   | false=>False
  | _,_,_=>False
 | _,_=>False
/-- An operation that may strike names. -/
def qu(P:Program)(G:aK)(tt:TT)(o:Oper)(s:List A)(m:List ar)(K:List A->A->List ar->Prop):Prop :=
 match o.op with
 | .call { callee:=.builtin .append,args,argTypes }=>match args.toList,argTypes.toList with
  | [x,y],[t,t']=>match Nat.beq t' t with
   | true=>Tw tt t (ev s x) (ev s y) s m K
   | false=>False
  | _,_=>False
 | .makeSlice t l k=>KA tt t (ev s l) (ev s k) m (K s)
 | .buildSlice t len ps=>vA tt t len (ps.toList.map fun p=>(p.1,ev s p.2)) m (K s)
 | .slice t x lo hi mx=>match mx,ev s x with
  | none,.own b=>Eo tt t b (qt s lo) (qt s hi) s m K
  | _,_=>step P G tt o s m (K s)
 | _=>step P G tt o s m (K s)

section
variable {c:Ctx} {s:List A} {m:List ar} {a:Act} {w w':World} {ids ab:dV} {P:Program} {im bL:Nat->Prop} {tt:TT} {G:aK}
variable {next:Act->World->Prop} {Q:Exit->Act->World->Prop} {o:Oper}

theorem pM{z:Array Value}{sz n N:Nat}(hz:z.size=sz)(hn:n<=N)(gR:∀v∈z.toList,v.oneCell'=true):
  eE im w n sz (fun _=>z.toList.map ofConst) ((madeCells z (N*sz)).toList.take (n*sz)):=by
 have hle:n*sz<=N*sz:=Nat.mul_le_mul_right _ hn;have hl:((madeCells z (N*sz)).toList.take (n*sz)).length=n*sz:=by rw[List.length_take,Array.length_toList,size_madeCells];exact Nat.min_eq_left hle
 have gE:∀k (h:k<((madeCells z (N*sz)).toList.take (n*sz)).length) (h':k%sz<z.toList.length),((madeCells z (N*sz)).toList.take (n*sz))[k]=z.toList[k%sz]:=by
  intro k h h';simp[madeCells,hz];rw[getElem!_pos z (k%sz) (by simpa using h')]
 refine⟨hl,?_,fun i _=>by simp[hz],?_⟩
 ·intro u hu;obtain⟨k,hk,rfl⟩:=List.getElem_of_mem hu;have nu:=hk;rw[hl] at nu;obtain⟨q1,q2,q3⟩:=j9 nu rfl rfl;rw[gE k hk (by simpa[hz] using q2)];exact gR _ (List.getElem_mem _)
 ·intro i j hi hj h';have Pu:j<sz:=by simpa[hz] using hj
  have e2:(i*sz+j)%sz=j:=by rw[Nat.mul_comm,Nat.mul_add_mod,Nat.mod_eq_of_lt Pu]
  rw[gE _ h' (by rw[e2];simpa[hz] using Pu)];simp only[e2,List.getElem_map];exact fp _ _ _

theorem BA(aN:bM P tt)(hs:aJ c s m a w ids){t:TypeId}{L C:Operand}(ho:o.op=.makeSlice t L C){K:KT}(h:KA tt t (ev s L) (ev s C) m K)(hn:cL c s o K next):o.wp P a w next Q:=by
 have hl:=hs.ev L;have hc:=hs.ev C;unfold KA at h;split at h
 ·rename_i ti k1 l k2 k j7 hL hC;rw[hL] at hl;rw[hC] at hc;obtain⟨i0,d,z0,_,hd,_,_,_,_,_,_,_,_,_,kA,_⟩:=aN.facts j7;split at h
  ·rename_i te hk Bc;obtain⟨ie,ze,gS,jJ,cj,D6,hz,rP,hne⟩:=kA hk;subst gS;obtain⟨i1,d1,z1,ez,_,Sk,_,gR,_,hzero,_⟩:=aN.facts Bc;have e1:i1=ie:=by rw[jJ] at ez;exact(Option.some.inj ez).symm
   subst e1;have e2:z1=ze:=by rw[hz] at Sk;exact(Option.some.inj Sk).symm
   subst e2;simp only[aX,cI] at h;obtain⟨⟨c1,c2,c3,c4⟩,h⟩:=h;rw[gj] at h;have cz:=run_make (P:=P) w t ti.aW i1 z1 hd jJ hz k1 k2 l k c1 c2 (by rw[D6,Int.mul_comm];omega) (by omega);refine yX hs hn (.row ti.aW ti.bN l.toNat fun _=>te.zero) (madeCells z1.cells (k.toNat*i1.size)) ti.aW l.toNat ti.bN (v:=.slice (some ⟨w.heap.size,0,none⟩) l.toNat k.toNat) ?_ h ?_ ?_
   ·unfold execOp;rw[ho];simp only[hl.cC,hc.cC,Sem.run_bind,cz];rfl
   ·intro ab bL w' g1 g2 g3 g4;rw[cj] at g4 ⊢;refine bq.oJ (cap:=k.toNat) g4 (by simp[size_madeCells]) (by omega) rfl ?_;rw[hzero];exact pM rP (by omega) gR
   ·intro ab bL w' g;refine .own _ k.toNat _ g ⟨by show l.toNat<=k.toNat;omega,by simp only[maxLen];omega⟩ ?_;simp[size_madeCells,cj]
  ·exact h.elim
 ·exact h.elim

/-- A slice literal: the new block, and what it stands for. -/
theorem Gp(aN:bM P tt)(hs:aJ c s m a w ids){t:TypeId}{len:Nat}{ps:Array (Nat×Operand)}{ti te:TI}(j7:tt.lookup t=some ti)(hk:ti.kind=3)(Bc:tt.lookup ti.aW=some te)(Pz:len*ti.bN<=1000000)
  {K:List A->Prop} (h:pF ti (ps.toList.map fun p=>(p.1,ev s p.2)) (Iv te.zero len) K) :
  ∃dz eD,K dz/\(dz.any (cY 4)=false->dz.length=len*ti.bN ->
   (Instr.buildSlice t len (ps.map fun p=>(p.1,a.eval p.2))).run P w=.ok (.slice (some ⟨w.heap.size,0,none⟩) len len) (w.alloc (.cells eD ti.aW))/\eD.size=len*ti.bN/\len<=maxLen /\
   ∀ab bL w',(∀b,av c ids w b->bL b)->(∀b,av c ids w b->w'.heap[b]?=w.heap[b]?)->(∀(b:Nat) p,ids[b]?=some p->p≠.dead->ab[b]?=some p) ->
    w'.heap[w.heap.size]?=some (.cells eD ti.aW (0,0))->bq ab bL w' (.row ti.aW ti.bN len fun i=>il ti.bN (dz.drop (i*ti.bN))) (.lv (mkId w.heap.size eD.size len ti.bN))):=by
 have hp:=xO hs ps.toList;obtain⟨i0,d,z0,_,hd,_,_,_,_,_,_,_,_,_,kA,_⟩:=aN.facts j7;obtain⟨ie,ze,gS,jJ,cj,D6,hz,rP,hne⟩:=kA hk;subst gS;obtain⟨i1,d1,z1,ez,_,Sk,_,gR,_,hzero,_⟩:=aN.facts Bc;have e1:i1=ie:=by rw[jJ] at ez;exact(Option.some.inj ez).symm
 subst e1;have e2:z1=ze:=by rw[hz] at Sk;exact(Option.some.inj Sk).symm
 subst e2;have ZH:te.zero.length=ti.bN:=by rw[hzero];simp[rP]
 have hM:=pM (im:=av c ids w) (w:=w) (n:=len) (N:=len) rP (Nat.le_refl _) gR;have qv:(madeCells z1.cells (len*ti.bN)).toList.length=len*ti.bN:=by simp[size_madeCells]
 rw[List.take_of_length_le (by omega)] at hM
 obtain⟨dz,eD,f1,f2,f3,f4,f5⟩:=pH (ti:=ti) (ids:=ids) (im:=av c ids w) (w:=w) _ _ (Iv te.zero len) (madeCells z1.cells (len*ti.bN)).toList _ hp (by rw[qv,Gm,ZH])
  hM.2.1 (fun j h1 h2=>by
   rw[qv] at h2;obtain⟨q1,q2,q3⟩:=j9 h2 rfl rfl;have:=hM.2.2.2 (j/ti.bN) (j%ti.bN) q1 (by simp[rP];exact q2) (by rw[q3,qv];exact h2);rw[Gn _ _ _ h1 (by rw[ZH];exact q2)];simp only[ZH,q3] at this ⊢;have e:te.zero[j%ti.bN]'(by rw[ZH];exact q2)=(z1.cells.toList.map ofConst)[j%ti.bN]'(by simp[rP];exact q2):=by simp only[hzero]
   rw[e];exact .aL this) h
 refine⟨dz,eD.toArray,f2,fun bm hlen=>?_⟩;have xT:eD.length=len*ti.bN:=by rw[f3,hlen]
 have Sl:∀zero:Array Value,(len*ti.bN=0\/zero=z1.cells)->(Array.range (len*ti.bN)).map (zero[· % zero.size]!)=madeCells z1.cells (len*ti.bN):=by
  intro zero h;rcases h with h|h
  ·rw[h];simp[madeCells]
  ·rw[h];rfl
 have Sh:(fun i=>some (i*ti.bN,ti.bN))=placeOf ti:=by
  funext x;unfold placeOf;rw[hk];rfl
 have cz:(Instr.buildSlice t len (ps.map fun p=>(p.1,a.eval p.2))).run P w=.ok (.slice (some ⟨w.heap.size,0,none⟩) len len) (w.alloc (.cells eD.toArray ti.aW)):=by
  have hf:Instr.fill (placeOf ti) (madeCells z1.cells (len*ti.bN)) (ps.toList.map fun p=>(p.1,a.eval p.2))=some eD.toArray:=by simpa using f1
  have hle:¬16777216<len*ti.bN:=by omega
  by_cases h0:len*ti.bN=0
  ·have:=Sl #[] (.inl h0);rw[<-this] at hf;simp[Instr.buildSlice,underlying,hd,sizeOf,typeInfo,jJ,cj,h0,Sh,newRow];rw[h0] at hf;simp at hf;simp[hf]
  ·have:=Sl z1.cells (.inr rfl);rw[<-this] at hf;simp[Instr.buildSlice,underlying,hd,sizeOf,typeInfo,jJ,cj,hle,h0,Sh,newRow,zeroValue,hz];simp[hf]
 refine⟨cz,by simpa using xT,?_,?_⟩
 ·have:len<=len*ti.bN:=Nat.le_mul_of_pos_right _ (Nat.pos_of_ne_zero hne);simp only[maxLen];omega
 ·intro ab bL w' g1 g2 g3 g4;refine bq.oJ (cap:=len) (vs:=eD) g4 (by simpa using xT) (Nat.le_refl _) (by rw[<-xT];simp) ⟨xT,f4,?_,?_⟩
  ·intro i hi;simp only[lH];simp;have:=Nat.mul_le_mul_right ti.bN (show i+1<=len from hi);rw[Nat.add_mul] at this;omega
  ·intro i j hi hj h';have hc:i*ti.bN+j<dz.length:=by omega
   have e:(il ti.bN (dz.drop (i*ti.bN)))[j]=dz[i*ti.bN+j]:=by simp[lH]
   rw[e];refine(cS 4 _ _ ?_ (f5 _ hc h')).mono g1 g2;have:=List.any_eq_false.1 bm _ (List.getElem_mem hc);simpa using this

theorem vB(aN:bM P tt)(hs:aJ c s m a w ids){t:TypeId}{len:Nat}{ps:Array (Nat×Operand)}(ho:o.op=.buildSlice t len ps){K:KT}
  (h:vA tt t len (ps.toList.map fun p=>(p.1,ev s p.2)) m K) (hn:cL c s o K next):o.wp P a w next Q:=by
 unfold vA at h;split at h
 ·exact h.elim
 ·rename_i ti j7;split at h
  ·rename_i te hk Bc Pz;obtain⟨dz,eD,f2,Gq⟩:=Gp (P:=P) aN hs j7 hk Bc (Nat.le_of_ble_eq_true Pz) h;split at f2
   ·rename_i bm hlen;rw[aX,aX,gj] at f2;obtain⟨cz,xT,ZI,hB⟩:=Gq bm (Nat.eq_of_beq_eq_true hlen);refine yX hs hn _ eD ti.aW len ti.bN (v:=.slice (some ⟨w.heap.size,0,none⟩) len len) ?_ f2 hB ?_
    ·unfold execOp;rw[ho];simp only[Sem.run_bind,cz];rfl
    ·intro ab bL w' g;exact .own _ len _ g ⟨Nat.le_refl _,ZI⟩ xT.symm
   ·exact f2.elim
  ·exact h.elim

theorem zc(aN:bM P tt)(hs:aJ c s m a w ids){t:TypeId}{X:Operand}{lo hi:Option Operand}{b:Nat}(ho:o.op=.slice t X lo hi none)(hX:ev s X=.own b)
  {K:List A->A->List ar->Prop} (h:Eo tt t b (qt s lo) (qt s hi) s m K)
  (hn:∀s1 v m' a' w' ab,K s1 v m'->aJ c (bA s1 o.dst v) m' a' w' ab->next a' w'):o.wp P a w next Q:=by
 have hx:=hs.ev X;rw[hX] at hx;have e:execOp a.eval o=(do let z <-Instr.sliceAt t (a.eval X) (lo.map a.eval) (hi.map a.eval) none;pure (.value z)):=by unfold execOp;rw[ho];rfl
 unfold Eo at h;split at h
 ·rename_i ti j7 ud;have ud:lo=none:=by cases lo with|none=>rfl|some=>simp[qt] at ud
  subst ud;obtain⟨i0,d,z0,_,hd,_,_,_,_,_,_,_,_,_,kA,_⟩:=aN.facts j7;split at h
  ·rename_i ty sz n row hk hb;obtain⟨ie,ze,gS,jJ,cj,D6,hz,rP,hne⟩:=kA hk;subst gS
   have xR:P.underlying t=some (.slice (P.elem t)):=by
    have:P.elem t=ti.aW:=by simp[Program.elem,hd]
    rw[this];exact hd
   have Ip:P.elem t=ti.aW:=by simp[Program.elem,hd]
   obtain⟨aH,hm⟩:=j8 hb;have fg:b<ids.length:=by rw[hs.aU];exact aH
   have hB:=hs.bP b aH fg;rw[hm] at hB;rcases hs.gC hx (by rw[hb];simp) with⟨h1,h2⟩|⟨p,cap,h1,h2,h3,h4⟩
   ·have:ids[b]=.bg:=by rw[List.getElem?_eq_getElem fg] at h1;exact Option.some.inj h1
    rw[this] at hB;have hB:n=0:=hB;subst hB;obtain⟨fN,h,b1,b2,b3⟩:=gy hs h (Nat.le_refl _);rw[cX,eK] at h
    have h0:fN=0:=by
     cases hi with
     | none=>exact b1 rfl
     | some L=>have:=b2 rfl;omega
    subst h0;have bY:=hs.rebind (w':=w) b .bg (.row ty sz 0 row) 4 aH rfl rfl rfl (Nat.le_refl _) (fun _ _ _=>rfl) (fun _ h=>by cases h) (fun p' h=>by cases h) (fun _=>rfl);refine bj ?_ (hn _ _ _ _ _ _ h (bY.bA o.dst (v:=.slice none 0 0) (.gQ b ?_)))
    ·rw[e,h2,Sem.run_bind,run_sliceAt_slice _ _ _ _ _ _ xR,run_slice_any _ _ _ _ _ xR];have:=dY (P:=P) (w:=w) (a:=a) (O4:=true) (len:=0) (cap:=0) (lo:=none) b1 (fun _=>rfl) b3 (fun X h=>by cases h);simp only[Option.map_none] at this;simp[this,Ip,sizeOf,typeInfo,jJ,cj,sliced]
    ·rw[List.getElem?_set_self fg]
   ·have:ids[b]=.lv p:=by rw[List.getElem?_eq_getElem fg] at h1;exact Option.some.inj h1
    rw[this] at hB;obtain⟨fN,h,b1,b2,b3⟩:=gy hs h (show n<=cap by have:=hB.2.1;omega);rw[cX,eK] at h;obtain⟨e1,e2,vs,g1,g2,g3,g4,g5⟩:=hB
    have hle:fN<=n:=by
     cases hi with
     | none=>have:=b1 rfl;omega
     | some L=>exact b2 rfl
    have bY:=hs.rebind (w':=w) b (.lv (mkId p.aq p.k fN p.sz)) (.row ty sz fN row) 4 aH rfl rfl rfl (Nat.le_refl _) (fun _ _ _=>rfl) (fun _ h=>by cases h)
     (fun p' h x hx=>by cases h;rw[cQ hx];exact⟨(hs.fresh p (List.mem_of_getElem? h1)).2,.inr ⟨p,h1,.inl rfl⟩⟩)
     (fun KB=>⟨e1,rfl,vs,g1,g2,Nat.le_trans (Nat.mul_le_mul_right _ hle) g3,fun i hi=>g4 i (by omega),fun i j hi h h'=>⟨KB _ _ (g5 i j (by omega) h h').1,(g5 i j (by omega) h h').2⟩⟩)
    refine bj ?_ (hn _ _ _ _ _ _ h (bY.bA o.dst (v:=.slice (some ⟨p.aq,0,none⟩) fN cap) (.own b cap (mkId p.aq p.k fN p.sz) ?_ ⟨by show fN<=cap;omega,h2.2⟩ h3)))
    ·rw[e,h4,Sem.run_bind,run_sliceAt_slice _ _ _ _ _ _ xR,run_slice_any _ _ _ _ _ xR,e2];have:=dY (P:=P) (w:=w) (a:=a) (O4:=true) (len:=n) (cap:=cap) (lo:=none) b1 (fun _=>rfl) b3 (fun X h=>by cases h);simp only[Option.map_none] at this;have e3:(⟨p.aq,0,none⟩:Addr).add 0=⟨p.aq,0,none⟩:=rfl;simp[this,Ip,sizeOf,typeInfo,jJ,cj,sliced,e3]
    ·rw[List.getElem?_set_self fg]
  ·exact h.elim
 ·rename_i ti l j7 ud;obtain⟨L,rfl⟩:∃L,lo=some L:=by cases lo with|none=>simp[qt] at ud|some L=>exact⟨L,rfl⟩
  obtain⟨i0,d,z0,_,hd,_,_,_,_,_,_,_,_,_,kA,_⟩:=aN.facts j7;split at h
  ·rename_i ty sz n row hk hh hb;have hhi:hi=none:=by cases hi with|none=>rfl|some=>simp[qt] at hh
   subst hhi;split at h
   ·rename_i hez;have hez:=Nat.eq_of_beq_eq_true hez;subst hez;obtain⟨ie,ze,gS,jJ,cj,D6,hz,rP,hne⟩:=kA hk;subst gS
    have xR:P.underlying t=some (.slice (P.elem t)):=by
     have:P.elem t=ti.aW:=by simp[Program.elem,hd]
     rw[this];exact hd
    have Ip:P.elem t=ti.aW:=by simp[Program.elem,hd]
    obtain⟨aH,hm⟩:=j8 hb;have fg:b<ids.length:=by rw[hs.aU];exact aH
    have hB:=hs.bP b aH fg;rw[hm] at hB;rw[<-ud] at h;rcases hs.gC hx (by rw[hb];simp) with⟨h1,h2⟩|⟨p,cap,h1,h2,h3,h4⟩
    ·have:ids[b]=.bg:=by rw[List.getElem?_eq_getElem fg] at h1;exact Option.some.inj h1
     rw[this] at hB;have hB:n=0:=hB;subst hB;obtain⟨k,h,c1,c2,c3⟩:=gy hs h (Nat.le_refl _);rw[aX] at h;have h0:k=0:=by have:=c2 rfl;omega
     subst h0;refine bj ?_ (hn _ _ _ _ _ _ h (hs.bA o.dst (v:=.slice none 0 0) (.rU b 0 h1)));rw[e,h2,Sem.run_bind,run_sliceAt_slice _ _ _ _ _ _ xR,run_slice_any _ _ _ _ _ xR];have:=dY (P:=P) (w:=w) (a:=a) (O4:=true) (len:=0) (cap:=0) (hi:=none) (h:=0) (fun _=>rfl) c1 (fun X h=>by cases h) c3;simp only[Option.map_none,Option.map_some] at this;simp[this,Ip,sizeOf,typeInfo,jJ,cj,sliced]
    ·have:ids[b]=.lv p:=by rw[List.getElem?_eq_getElem fg] at h1;exact Option.some.inj h1
     rw[this] at hB;obtain⟨k,h,c1,c2,c3⟩:=gy hs h (Nat.le_refl _);rw[aX] at h;have e1:p.sz=ti.bN:=hB.1;have e2:p.n=n:=hB.2.1;refine bj ?_ (hn _ _ _ _ _ _ h (hs.bA o.dst (v:=.slice (some ⟨p.aq,if cap=k then 0 else k*p.sz,none⟩) (p.n-k) (cap-k)) (.pe b k _ _ p h1 (fun hk=>if_neg (by have:=h2.1;omega)))));rw[e,h4,Sem.run_bind,run_sliceAt_slice _ _ _ _ _ _ xR,run_slice_any _ _ _ _ _ xR,e2];have:=dY (P:=P) (w:=w) (a:=a) (O4:=true) (len:=n) (cap:=cap) (hi:=none) (h:=n) (fun _=>rfl) c1 (fun X h=>by cases h) c3;simp only[Option.map_none,Option.map_some] at this;have e3:(⟨p.aq,0,none⟩:Addr).add (k*ti.bN)=⟨p.aq,k*ti.bN,none⟩:=by rw[vw,Nat.zero_add]
     by_cases hck:cap=k
     ·subst hck;simp[this,Ip,sizeOf,typeInfo,jJ,cj,sliced,e3,e1]
     ·simp[this,Ip,sizeOf,typeInfo,jJ,cj,sliced,e3,e1,hck]
   ·exact h.elim
  ·exact h.elim
 ·exact h.elim

theorem fD(aN:bM P tt)(hG:G.ok c)(hs:aJ c s m a w ids){K:List A->A->List ar->Prop}(h:qu P G tt o s m K)
  (hn:∀s1 v m' a' w' ab,K s1 v m'->aJ c (bA s1 o.dst v) m' a' w' ab->next a' w'):o.wp P a w next Q:=by
 unfold qu at h;split at h
 ·rename_i args ts ho;split at h
  ·rename_i x y t t' hx ht;split at h
   ·rename_i hb;have hb:=Nat.eq_of_beq_eq_true hb;subst hb;have e1:args = #[x,y]:=by apply Array.ext';simpa using hx
    have e2:ts = #[t',t']:=by apply Array.ext';simpa using ht
    rw[e1,e2] at ho;exact En aN hs ho h hn
   ·exact h.elim
  ·exact h.elim
 ·rename_i ho;exact BA aN hs ho h (fun v m' a' w' ab=>hn s v m' a' w' ab)
 ·rename_i ho;exact vB aN hs ho h (fun v m' a' w' ab=>hn s v m' a' w' ab)
 ·rename_i ho;split at h
  ·rename_i hX;exact zc aN hs ho hX h hn
  ·exact pK aN hG hs h (fun v m' a' w' ab=>hn s v m' a' w' ab)
 ·exact pK aN hG hs h (fun v m' a' w' ab=>hn s v m' a' w' ab)
end
def Id.W9(p q:Id):Prop:=q.aq=p.aq/\q.k=p.k/\q.n=p.n/\q.sz=p.sz/\∀n k,p.vg n=some k->q.vg n=some k
def Id.Xa(p q:Id):Prop:=q.aq=p.aq/\q.k=p.k/\q.n=p.n/\q.sz=p.sz
theorem Id.KD(p:Id):p.W9 p:=⟨rfl,rfl,rfl,rfl,fun _ _ h=>h⟩
def jH:eU->eU->Prop
 | .dead,_=>True
 | .bg,q=>q=.bg
 | .aw,q=>q=.aw
 | .lv p,q=>∃p',q=.lv p'/\p.W9 p'
 | .cV vs,q=>q=.cV vs
/-- As above, of names that no entry leans on. -/
def KE:eU->eU->Prop
 | .dead,_=>True
 | .bg,q=>q=.bg
 | .aw,q=>q=.aw
 | .lv p,q=>∃p',q=.lv p'/\p.Xa p'
 | .cV vs,q=>q=.cV vs
theorem iN(p:eU):KE p p:=by
 cases p with
 | dead=>trivial
 | aw=>trivial
 | bg=>rfl
 | lv p=>exact⟨p,rfl,rfl,rfl,rfl,rfl⟩
 | cV vs=>rfl
theorem fO(p:eU):jH p p:=by
 cases p with
 | dead=>trivial
 | aw=>trivial
 | bg=>rfl
 | lv p=>exact⟨p,rfl,p.KD⟩
 | cV vs=>rfl

section
variable {c:Ctx} {s:List A} {m:List ar} {a:Act} {w w':World} {ids ab:dV} {P:Program} {im bL:Nat->Prop} {tt:TT} {G:aK}
variable {next:Act->World->Prop} {Q:Exit->Act->World->Prop} {o:Oper}

theorem Rel.nF(hi:∀b,im b->bL b)(hw:∀b,im b->w'.heap[b]?=w.heap[b]?)(hd:∀(b:Nat) p,ids[b]?=some p->p≠.dead->∃q,ab[b]?=some q/\jH p q)
  {x:A} {v:Value} (h:Rel ids im w x v):Rel ab bL w' x v:=by
 induction h with
 | aL h=>exact .aL (h.mono hi hw)
 | ref b off p h =>
  obtain⟨q,h1,p',rfl,h2⟩:=hd _ _ h (by simp);rw[<-h2.1];exact .ref b off p' h1
 | oref b i off p h =>
  obtain⟨q,h1,p',rfl,h2⟩:=hd _ _ h (by simp);rw[<-h2.1,<-h2.2.2.2.1];exact .oref b i off p' h1
 | lD b x n cap h =>
  obtain⟨q,h1,h2⟩:=hd _ _ h (by simp);have h2:q=.aw:=h2;subst h2;exact .lD b x n cap h1
 | lC b off x y h =>
  obtain⟨q,h1,h2⟩:=hd _ _ h (by simp);have h2:q=.aw:=h2;subst h2;exact .lC b off x y h1
 | ic b i off x y h =>
  obtain⟨q,h1,h2⟩:=hd _ _ h (by simp);have h2:q=.aw:=h2;subst h2;exact .ic b i off x y h1
 | gI b x h =>
  obtain⟨q,h1,h2⟩:=hd _ _ h (by simp);have h2:q=.aw:=h2;subst h2;exact .gI b x h1
 | gQ b h =>
  obtain⟨q,h1,h2⟩:=hd _ _ h (by simp);have h2:q=.bg:=h2;subst h2;exact .gQ b h1
 | own b cap p h hn hm =>
  obtain⟨q,h1,p',rfl,h2⟩:=hd _ _ h (by simp);rw[<-h2.1,<-h2.2.2.1];exact .own b cap p' h1 (by rw[h2.2.2.1];exact hn) (by rw[h2.2.1,h2.2.2.2.1];exact hm)
 | omap b p h =>
  obtain⟨q,h1,p',rfl,h2⟩:=hd _ _ h (by simp);rw[<-h2.1];exact .omap b p' h1
 | tf b k p n h hn =>
  obtain⟨q,h1,p',rfl,h2⟩:=hd _ _ h (by simp);exact .tf b k p' n h1 (h2.2.2.2.2 _ _ hn)
 | rT b k n h =>
  obtain⟨q,h1,h2⟩:=hd _ _ h (by simp);have h2:q=.aw:=h2;subst h2;exact .rT b k n h1
 | pe b k cap x p h hx =>
  obtain⟨q,h1,p',rfl,h2⟩:=hd _ _ h (by simp);rw[<-h2.1,<-h2.2.2.1];exact .pe b k cap x p' h1 (by rw[h2.2.2.1,h2.2.2.2.1];exact hx)
 | rU b k h =>
  obtain⟨q,h1,h2⟩:=hd _ _ h (by simp);have h2:q=.bg:=h2;subst h2;exact .rU b k h1
 | pD b k x n cap h =>
  obtain⟨q,h1,h2⟩:=hd _ _ h (by simp);have h2:q=.aw:=h2;subst h2;exact .pD b k x n cap h1
 | agg cs vs hl ho hr ih=>exact .agg cs vs hl ho ih
 | tup cs vs hl hr ih=>exact .tup cs vs hl ih
 | fn f cs vs hl hr ih=>exact .fn f cs vs hl ih

theorem nG{b:Nat}(hi:∀b,im b->bL b)(hw:∀b,im b->w'.heap[b]?=w.heap[b]?)(hd:∀(b':Nat) p,b'≠b->ids[b']?=some p->p≠.dead->∃q,ab[b']?=some q/\jH p q)
  (d:Nat) (x:A) (v:Value) (h:Rel ids im w x v):Rel ab bL w' (xm b d x) v:=by
 have h1:Rel (ids.set b .dead) im w (xm b d x) v:=kN (fun _ h=>h) (fun _ _=>rfl) (fun b' p hne h=>by rw[List.getElem?_set_ne (fun e=>hne e.symm)];exact h) d x v h;refine h1.nF hi hw ?_;intro b' p hp sn;by_cases hb:b'=b
 ·subst hb;rw[List.getElem?_set] at hp;split at hp
  ·split at hp
   ·cases hp;exact absurd rfl sn
   ·cases hp
  ·rename_i hne;exact absurd rfl hne
 ·rw[List.getElem?_set_ne (fun e=>hb e.symm)] at hp;exact hd b' p hb hp sn

theorem bq.nF(hi:∀b,im b->bL b)(hw:∀b,im b->w'.heap[b]?=w.heap[b]?)(hd:∀(b:Nat) p,ids[b]?=some p->p≠.dead->∃q,ab[b]?=some q/\jH p q)
  {x:ar} {p:eU} (hp:∀q,p=.lv q->∀k,q.has k->w'.heap[k]?=w.heap[k]?) (h:bq ids im w x p):bq ab bL w' x p:=by
 cases x with
 | box ty cs =>
  cases p with
  | dead=>exact h
  | aw=>exact h
  | bg=>exact h
  | cV vs=>exact h
  | lv q =>
   obtain⟨vs,h1,h2,h3,h4⟩:=h;exact⟨vs,by rw[hp _ rfl _ (.inl rfl)];exact h1,h2,h3,fun j h h'=>⟨(h4 j h h').1.nF hi hw hd,(h4 j h h').2⟩⟩
 | dead=>exact h
 | gone=>exact h
 | row ty sz n row=>have h:=bq.mono (ids:=ids) (ab:=ids) hi hw (fun _ _ h _=>h) hp h;cases p<;>exact h
 | nest ty aW sz n ho le row=>have h:=bq.mono (ids:=ids) (ab:=ids) hi hw (fun _ _ h _=>h) hp h;cases p<;>exact h
 | fK g n k v=>have h:=bq.mono (ids:=ids) (ab:=ids) hi hw (fun _ _ h _=>h) hp h;cases p<;>exact h
 | qm g n k v=>have h:=bq.mono (ids:=ids) (ab:=ids) hi hw (fun _ _ h _=>h) hp h;cases p<;>exact h
 | Ie g n k v se=>have h:=bq.mono (ids:=ids) (ab:=ids) hi hw (fun _ _ h _=>h) hp h;cases p<;>exact h
 | bW ty sz n Φ=>have h:=bq.mono (ids:=ids) (ab:=ids) hi hw (fun _ _ h _=>h) hp h;cases p<;>exact h
 | cZ ty g sh n dH cs kI has val =>
  cases p with
  | dead=>exact h
  | aw=>exact h
  | bg=>exact h
  | cV vs=>exact h
  | lv q=>exact rZ (hp _ rfl) (fun _ _ h=>h.mono hi hw) (fun _ _ h=>h.nF hi hw hd) h
 | ghost cs =>
  cases p with
  | dead=>exact h
  | aw=>exact h
  | bg=>exact h
  | lv q=>exact h
  | cV vs=>exact⟨h.1,fun j h1 h2=>(h.2 j h1 h2).nF hi hw hd⟩
theorem bq.Sn{b:Nat}(hi:∀b,im b->bL b)(hw:∀b,im b->w'.heap[b]?=w.heap[b]?)(hd:∀(b':Nat) p,b'≠b->ids[b']?=some p->p≠.dead->∃q,ab[b']?=some q/\jH p q)
  (d:Nat) {x:ar} {p:eU} (hp:∀q,p=.lv q->∀k,q.has k->w'.heap[k]?=w.heap[k]?) (h:bq ids im w x p):bq ab bL w' (Bt b d x) p:=by
 cases x with
 | box ty cs =>
  cases p with
  | dead=>exact h
  | aw=>exact h
  | bg=>exact h
  | cV vs=>exact h
  | lv q =>
   obtain⟨vs,h1,h2,h3,h4⟩:=h;refine⟨vs,by rw[hp _ rfl _ (.inl rfl)];exact h1,h2,by simpa using h3,fun j h h'=>?_⟩;rw[List.getElem_map];exact⟨nG hi hw hd d _ _ (h4 j (by simpa using h) h').1,(h4 j (by simpa using h) h').2⟩
 | dead=>exact h
 | gone=>exact h
 | row ty sz n row=>have h:=bq.mono (ids:=ids) (ab:=ids) hi hw (fun _ _ h _=>h) hp h;cases p<;>exact h
 | nest ty aW sz n ho le row=>have h:=bq.mono (ids:=ids) (ab:=ids) hi hw (fun _ _ h _=>h) hp h;cases p<;>exact h
 | fK g n k v=>have h:=bq.mono (ids:=ids) (ab:=ids) hi hw (fun _ _ h _=>h) hp h;cases p<;>exact h
 | qm g n k v=>have h:=bq.mono (ids:=ids) (ab:=ids) hi hw (fun _ _ h _=>h) hp h;cases p<;>exact h
 | Ie g n k v se=>have h:=bq.mono (ids:=ids) (ab:=ids) hi hw (fun _ _ h _=>h) hp h;cases p<;>exact h
 | bW ty sz n Φ=>have h:=bq.mono (ids:=ids) (ab:=ids) hi hw (fun _ _ h _=>h) hp h;cases p<;>exact h
 | cZ ty g sh n dH cs kI has val =>
  cases p with
  | dead=>exact h
  | aw=>exact h
  | bg=>exact h
  | cV vs=>exact h
  | lv q=>exact nw (xm b d) (hp _ rfl) (fun _ _ h=>h.mono hi hw) (fun x v h=>nG hi hw hd d x v h) h
 | ghost cs =>
  cases p with
  | dead=>exact h
  | aw=>exact h
  | bg=>exact h
  | lv q=>exact h
  | cV vs =>
   refine⟨by simpa using h.1,fun j h1 h2=>?_⟩;rw[List.getElem_map];exact nG hi hw hd d _ _ (h.2 j (by simpa using h1) h2)

/-- What is read through values stays as it is. -/
theorem aJ.de(hs:aJ c s m a w ids)(cj:w.heap.size<=w'.heap.size)
  (gk:∀k,k<w.heap.size->(∀(b:Nat) (p:Id),ids[b]?=some (.lv p)->¬p.has k)->w'.heap[k]?=w.heap[k]?)
  (bm:∀p',eU.lv p'∈ab->∀x,p'.has x->x<w'.heap.size/\(w.heap.size<=x\/∃(b:Nat) (p:Id),ids[b]?=some (.lv p)/\p.has x)) :
  (∀k,av c ids w k->av c ab w' k)/\(∀k,av c ids w k->w'.heap[k]?=w.heap[k]?):=by
 constructor
 ·intro k h;rcases h with h|⟨h1,h2,h3⟩
  ·exact .inl h
  ·refine .inr ⟨h1,Nat.lt_of_lt_of_le h2 cj,fun p hp hx=>?_⟩;rcases (bm p hp k hx).2 with h|⟨b,p0,h4,h5⟩
   ·omega
   ·exact h3 p0 (List.mem_of_getElem? h4) h5
 ·intro k h;refine gk k (cU hs h) (fun b p hp e=>?_);rcases h with h|⟨_,_,h3⟩
  ·exact hs.rX h (hs.au p (List.mem_of_getElem? hp) k e).1
  ·exact h3 p (List.mem_of_getElem? hp) e
/-- A state that follows on another one. -/
theorem aJ.nH(hs:aJ c s m a w ids){s':List A}{m':List ar}(Sj:w'.os=w.os)(W4:w'.tape=w.tape)(W5:w'.output=w.output)(cj:w.heap.size<=w'.heap.size)
  (gk:∀k,k<w.heap.size->(∀(b:Nat) (p:Id),ids[b]?=some (.lv p)->¬p.has k)->w'.heap[k]?=w.heap[k]?)
  (bm:∀p',eU.lv p'∈ab->∀x,p'.has x->x<w'.heap.size/\(w.heap.size<=x\/∃(b:Nat) (p:Id),ids[b]?=some (.lv p)/\p.has x))
  (hgho:∀vs,eU.cV vs∈ab->eU.cV vs∈ids)
  (hdis:∀(b b':Nat) p q x,ab[b]?=some (.lv p)->ab[b']?=some (.lv q)->p.has x->q.has x->b=b')
  (D7:s'.length=s.length) (qv:ab.length=m'.length)
  (vC:∀i (h:i<s'.length) (h':i<a.tmps.size),Rel ab (av c ab w') w' s'[i] a.tmps[i])
  (Xb:∀b (h:b<m'.length) (h':b<ab.length),bq ab (av c ab w') w' m'[b] ab[b]) (Bu:fL w.drawn w'.drawn:=by exact fL.refl _):aJ c s' m' a w' ab where
 defers:=hs.defers
 len:=by rw[hs.len,D7]
 cc:=vC
 aU:=qv
 bP:=Xb
 al:=hdis
 au:=by
  intro p hp x hx;refine⟨?_,(bm p hp x hx).1⟩;rcases (bm p hp x hx).2 with h|⟨b,p0,h4,h5⟩
  ·exact .inl (Nat.le_trans hs.frame.size h)
  ·exact(hs.au p0 (List.mem_of_getElem? h4) x h5).1
 frame:=by
  refine hs.frame.go Sj W4 W5 cj (fun k hk hm=>?_) Bu;refine gk k (Nat.lt_of_lt_of_le hk hs.frame.size) (fun b p hp e=>?_);rcases (hs.au p (List.mem_of_getElem? hp) k e).1 with h|h
  ·omega
  ·exact hm h
 fh:=hs.fh
 cV:=fun vs h=>hs.cV vs (hgho vs h)
end
def iO{α:Type}(f:Nat->α)(i:Nat)(x:α):Nat->α:=fun j=>if j=i then x else f j
/-- The inner row is taken out. -/
def Sq(tt:TT)(t:TypeId)(b i:Nat)(ty aW:TypeId)(sz n:Nat)(hole:Option Nat)(len:Nat->Nat)(row:Nat->Nat->List A)(m:List ar)(K:KT):Prop :=
 match tt.lookup t with
 | none=>False
 | some ti=>match ti.kind,Nat.beq ti.aW aW,Nat.beq ti.bN sz,hole with
  | 3,true,true,none=>i<n/\r8 m b (.nest ty aW sz n (some i) len row) fun m'=>nc m' (.row aW sz (len i) (row i)) fun k PA=>K (.own k) PA
  | _,_,_,_=>False
/-- It is put back. -/
def Sr(b i b':Nat)(ty aW:TypeId)(sz n:Nat)(hole:Option Nat)(len:Nat->Nat)(row:Nat->Nat->List A)(s:List A)(m:List ar)(K:List A->A->List ar->Prop):Prop :=
 match hole,m.getD b' .dead,Nat.beq b b' with
 | some j,.row xu ue n' dZ,false=>match Nat.beq xu aW,Nat.beq ue sz with
  | true,true=>(i=j/\i<n)/\fd.sf 4 (s.map (xm b' 4)) fun s'=>sj (((m.map (Bt b' 4)).set b (.nest ty aW sz n none (iO len j n') (iO row j dZ))).set b' .dead) fun m'=>K s' .aj m'
  | _,_=>False
 | _,_,_=>False
def ni(P:Program)(G:aK)(tt:TT)(o:Oper)(s:List A)(m:List ar)(K:List A->A->List ar->Prop):Prop :=
 match o.op with
 | .indexAddr t x i=>match ev s x with
  | .own b=>match m.getD b .dead with
   | .nest _ _ _ n _ _ _=>match tt.lookup t,ev s i with
    | some ti,.int _ ix=>match ti.kind,Nat.beq ti.bN 1 with
     | 3,true=>(0<=ix/\ix<(n:Int))/\K s (.oref b ix.toNat 0) m
     | _,_=>False
    | _,_=>False
   | _=>qu P G tt o s m K
  | _=>qu P G tt o s m K
 | .load t x=>match ev s x with
  | .oref b i off=>match m.getD b .dead with
   | .nest ty aW sz n hole len row=>match off with
    | 0=>Sq tt t b i ty aW sz n hole len row m (K s)
    | _=>False
   | _=>qu P G tt o s m K
  | _=>qu P G tt o s m K
 | .store t x y=>match ev s x with
  | .oref b i off=>match m.getD b .dead with
   | .nest ty aW sz n hole len row=>match off,ev s y,tt.lookup t with
    | 0,.own b',some ti=>match Nat.beq ti.size 1 with
     | true=>Sr b i b' ty aW sz n hole len row s m K
     | false=>False
    | _,_,_=>False
   | _=>qu P G tt o s m K
  | _=>qu P G tt o s m K
 | _=>qu P G tt o s m K

section
variable {c:Ctx} {s:List A} {m:List ar} {a:Act} {w w':World} {ids ab:dV} {P:Program} {im bL:Nat->Prop} {tt:TT} {G:aK}
variable {next:Act->World->Prop} {Q:Exit->Act->World->Prop} {o:Oper}

theorem getD_some{b:Nat}{x:ar}(hx:x≠.dead)(h:m.getD b .dead=x):∃hb:b<m.length,m[b]=x:=by
 rcases Nat.lt_or_ge b m.length with h'|h'
 ·exact⟨h',by rw[List.getD_eq_getElem?_getD,List.getElem?_eq_getElem h'] at h;exact h⟩
 ·rw[List.getD_eq_getElem?_getD,List.getElem?_eq_none h'] at h;exact absurd h.symm hx
theorem qw(hs:aJ c s m a w ids){b:Nat}{ty aW:TypeId}{sz n:Nat}{hole:Option Nat}{len:Nat->Nat}{row:Nat->Nat->List A}(hb:m.getD b .dead=.nest ty aW sz n hole len row)(h0:0<n):
  ∃p,ids[b]?=some (.lv p)/\bq ids (av c ids w) w (.nest ty aW sz n hole len row) (.lv p)/\b<m.length/\b<ids.length:=by
 obtain⟨h1,h2⟩:=getD_some (by simp) hb;have h3:b<ids.length:=by rw[hs.aU];exact h1
 have hB:=hs.bP b h1 h3;rw[h2] at hB;cases hp:ids[b] with
 | dead=>rw[hp] at hB;exact hB.elim
 | aw=>rw[hp] at hB;exact hB.elim
 | bg=>rw[hp] at hB;have hB:n=0:=hB;omega
 | cV vs=>rw[hp] at hB;exact hB.elim
 | lv p=>rw[hp] at hB;exact⟨p,by rw[List.getElem?_eq_getElem h3,hp],hB,h1,h3⟩

/-- A nest from which an inner row is taken. -/
theorem aJ.take(hs:aJ c s m a w ids){b i:Nat}{ty aW:TypeId}{sz n:Nat}{len:Nat->Nat}{row:Nat->Nat->List A}(hb:m.getD b .dead=.nest ty aW sz n none len row)(hi:i<n):
  ∃p vs ab v,ids[b]?=some (.lv p)/\w.heap[p.aq]?=some (.cells vs ty (0,0))/\vs[i]?=some v/\p.sz=1 /\
   aJ c s (m.set b (.nest ty aW sz n (some i) len row)++[.row aW sz (len i) (row i)]) a w ab/\Rel ab (av c ab w) w (.own m.length) v:=by
 obtain⟨p,cD,hB,mE,fg⟩:=qw hs hb (by omega);obtain⟨g1,g2,g3,vs,h1,h2,h3,kb,h4⟩:=hB;have zd:i<vs.size:=by omega
 obtain⟨k1,k2,k3⟩:=h4 i hi (by simp) zd
 -- the new names
 let p':Id:=⟨p.aq,p.k,p.n,p.sz,fun x=>p.Bh x/\kb i≠some x,p.vg⟩
 have nI:∀x,p'.has x->p.has x:=by
  rintro x (h|h)
  ·exact .inl h
  ·exact .inr h.1
 have hq:∃q:eU,(∀q',q=.lv q'->∀x,q'.has x->kb i=some x)/\(∀im w',(∀x,kb i=some x->w'.heap[x]?=w.heap[x]?)->(∀u v,aA (av c ids w) w u v->aA im w' u v)->∀ab,bq ab im w' (.row aW sz (len i) (row i)) q) /\
   (∀ab im w' k,ab[k]?=some q->Rel ab im w' (.own k) vs[i]):=by
  rcases k1 with⟨e1,e2,e3⟩|⟨q,cap,us,e1,e2,e3,e4,e5,e6,e7,e8⟩
  ·exact⟨.bg,(fun q' h=>by cases h),(fun _ _ _ _ _=>e2),(fun ab im w' k h=>by rw[e1];exact .gQ k h)⟩
  ·refine⟨.lv (mkId q us.size (len i) sz),(fun q' h x hx=>by cases h;rw[cQ hx];exact e2),?_,?_⟩
   ·intro im w' hk hm ab;refine⟨rfl,rfl,us,by show w'.heap[q]?=_;rw[hk q e2];exact e3,rfl,?_,e7,fun i' j cx h h'=>⟨hm _ _ (e8 i' j cx h h').1,(e8 i' j cx h h').2⟩⟩;show len i*sz<=us.size;rw[e4];exact Nat.mul_le_mul_right _ e5
   ·intro ab im w' k h;rw[e1];exact .own k cap (mkId q us.size (len i) sz) h ⟨e5,e6⟩ e4.symm
 obtain⟨q,D8,BB,hq3⟩:=hq
 let ab:=ids.set b (.lv p')++[q]
 have O2:ab.length=ids.length+1:=by simp[ab]
 have bX:∀k,k<ids.length->k≠b->ab[k]?=ids[k]?:=by
  intro k hk hne;simp only[ab];rw[List.getElem?_append_left (by simpa using hk),List.getElem?_set_ne (fun e=>hne e.symm)]
 have eM:ab[b]?=some (.lv p'):=by
  simp only[ab];rw[List.getElem?_append_left (by simpa using fg),List.getElem?_set_self fg]
 have kO:ab[ids.length]?=some q:=by
  simp only[ab];rw[List.getElem?_append_right (by simp)];simp
 have bE:∀(k:Nat) (r:Id),ab[k]?=some (.lv r)->(k=b/\r=p')\/(k=ids.length/\q=.lv r)\/(k≠b/\k<ids.length/\ids[k]?=some (.lv r)):=by
  intro k r h;by_cases sr:k=b
  ·subst sr;rw[eM] at h;cases h;exact .inl ⟨rfl,rfl⟩
  ·rcases Nat.lt_trichotomy k ids.length with hk|hk|hk
   ·rw[bX k hk sr] at h;exact .inr (.inr ⟨sr,hk,h⟩)
   ·subst hk;rw[kO] at h;exact .inr (.inl ⟨rfl,Option.some.inj h⟩)
   ·rw[List.getElem?_eq_none (by omega)] at h;cases h
 have bm:∀r,eU.lv r∈ab->∀x,r.has x->x<w.heap.size/\(w.heap.size<=x\/∃(b:Nat) (p:Id),ids[b]?=some (.lv p)/\p.has x):=by
  intro r hr x hx;obtain⟨k,hk⟩:=List.getElem?_of_mem hr;rcases bE k r hk with⟨_,rfl⟩|⟨_,e⟩|⟨_,_,e⟩
  ·exact⟨(hs.au p (List.mem_of_getElem? cD) x (nI x hx)).2,.inr ⟨b,p,cD,nI x hx⟩⟩
  ·have Ik:p.has x:=.inr (k2 x (D8 r e x hx));exact⟨(hs.au p (List.mem_of_getElem? cD) x Ik).2,.inr ⟨b,p,cD,Ik⟩⟩
  ·exact⟨(hs.au r (List.mem_of_getElem? e) x hx).2,.inr ⟨k,r,e,hx⟩⟩
 obtain⟨ez,dH⟩:=hs.de (w':=w) (ab:=ab) (Nat.le_refl _) (fun _ _ _=>rfl) bm
 have hd:∀(b':Nat) r,ids[b']?=some r->r≠.dead->∃q,ab[b']?=some q/\jH r q:=by
  intro b' r hr _
  have aH:b'<ids.length:=by
   rcases Nat.lt_or_ge b' ids.length with h'|h'
   ·exact h'
   ·rw[List.getElem?_eq_none h'] at hr;cases hr
  by_cases su:b'=b
  ·subst su;rw[cD] at hr;cases hr;exact⟨_,eM,p',rfl,rfl,rfl,rfl,rfl,fun _ _ h=>h⟩
  ·exact⟨r,by rw[bX b' aH su];exact hr,fO r⟩
 have nh:∀u v,aA (av c ids w) w u v->aA (av c ab w) w u v:=fun u v h=>h.mono ez dH;refine⟨p,vs,ab,vs[i],cD,h1,Array.getElem?_eq_getElem zd,g1,?_,hq3 _ _ _ _ (by rw[<-hs.aU];exact kO)⟩
 have hgq:∀vs,q≠.cV vs:=fun vs e=>by
  have:=BB (av c ids w) w (fun _ _=>rfl) (fun _ _ h=>h) [];rw[e] at this;exact this
 refine hs.nH rfl rfl rfl (Nat.le_refl _) (fun _ _ _=>rfl) bm (fun vs h=>by
  simp only[ab] at h;rcases List.mem_append.1 h with h|h
  ·rcases List.mem_or_eq_of_mem_set h with h|h
   ·exact h
   ·cases h
  ·simp at h;exact absurd h.symm (hgq vs)) ?_ rfl (by simp[ab,hs.aU]) (fun i h h'=>(hs.cc i h h').nF ez dH hd) ?_
 ·intro k k' r r' x e1 e2 x1 x2;have inb:∀y,q=.lv r->r.has y->p.Bh y:=fun y e hy=>k2 y (D8 r e y hy);rcases bE k r e1 with⟨rfl,rfl⟩|⟨rfl,e⟩|⟨ne,_,e⟩<;>rcases bE k' r' e2 with⟨rfl,rfl⟩|⟨rfl,e'⟩|⟨ne',_,e'⟩
  ·rfl
  ·exfalso;have hx:=D8 r' e' x x2;rcases x1 with h|h
   ·exact g3 (by rw[<-h];exact k2 x hx)
   ·exact h.2 hx
  ·exact absurd (hs.al _ _ p r' x cD e' (nI x x1) x2).symm ne'
  ·exfalso;have hx:=D8 r e x x1;rcases x2 with h|h
   ·exact g3 (by rw[<-h];exact k2 x hx)
   ·exact h.2 hx
  ·rfl
  ·exact absurd (hs.al _ _ p r' x cD e' (.inr (k2 x (D8 r e x x1))) x2).symm ne'
  ·exact absurd (hs.al _ _ r p x e cD x1 (nI x x2)) ne
  ·exact absurd (hs.al _ _ r p x e cD x1 (.inr (k2 x (D8 r' e' x x2)))) ne
  ·exact hs.al k k' r r' x e e' x1 x2
 ·intro k hk iu;simp only[List.length_append,List.length_set,List.length_singleton] at hk;have gE:ab[k]?=some ab[k]:=List.getElem?_eq_getElem iu;rcases Nat.lt_or_ge k m.length with rQ|rQ
  ·rw[List.getElem_append_left (by simpa using rQ),List.getElem_set];split
   ·rename_i he;subst he;rw[eM] at gE;rw[<-Option.some.inj gE];refine⟨g1,g2,(fun h=>g3 h.1),vs,h1,h2,h3,kb,?_⟩;intro j hj KF PB;obtain⟨j1,j2,j3⟩:=h4 j hj (by simp) PB;have D5:j≠i:=fun e=>KF (by rw[e]);refine⟨j1.mono ez dH (fun _ _=>rfl),fun x hx=>⟨j2 x hx,fun e=>?_⟩,fun j' cH _ e1 e2=>j3 j' cH (by simp) e1 e2⟩;exact D5 (k3 j hj (by simp) (by rw[hx,e]) (by rw[e];simp))
   ·rename_i he;have qA:k<ids.length:=by rw[hs.aU];exact rQ
    rw[bX k qA (fun e=>he e.symm),List.getElem?_eq_getElem qA] at gE;rw[<-Option.some.inj gE];exact(hs.bP k rQ qA).nF ez dH hd (fun _ _ _ _=>rfl)
  ·have J3:ab[k]?=some q:=by rw[show k=ids.length by rw[hs.aU];omega];exact kO
   rw[J3] at gE;rw[<-Option.some.inj gE,List.getElem_append_right (by simpa using rQ)];simp only[List.length_set,show k-m.length=0 by omega,List.getElem_cons_zero];exact BB _ _ (fun _ _=>rfl) nh _

/-- An inner row is put back. -/
theorem aJ.PC(hs:aJ c s m a w ids){b b' i:Nat}{ty aW:TypeId}{sz n n':Nat}{len:Nat->Nat}{row:Nat->Nat->List A}{dZ:Nat->List A}(hb:m.getD b .dead=.nest ty aW sz n (some i) len row)
  (fN:m.getD b' .dead=.row aW sz n' dZ) (hne:b≠b') (hi:i<n) {v:Value} (hv:Rel ids (av c ids w) w (.own b') v) :
  ∃p vs ab,ids[b]?=some (.lv p)/\w.heap[p.aq]?=some (.cells vs ty (0,0))/\i<vs.size/\p.sz=1 /\
   aJ c (s.map (xm b' 4)) (((m.map (Bt b' 4)).set b (.nest ty aW sz n none (iO len i n') (iO row i dZ))).set b' .dead) a (w.setRow p.aq (vs.setIfInBounds i v)) ab:=by
 obtain⟨p,cD,hB,mE,fg⟩:=qw hs hb (by omega);obtain⟨g1,g2,g3,vs,h1,h2,h3,kb,h4⟩:=hB;have zd:i<vs.size:=by omega
 obtain⟨BC,Iw⟩:=getD_some (by simp) fN;have pN:b'<ids.length:=by rw[hs.aU];exact BC
 let w':=w.setRow p.aq (vs.setIfInBounds i v)
 have cj:w'.heap.size=w.heap.size:=by simp[w',World.setRow]
 -- the inner Gr name
 have hx:∃x:Option Nat,(∀y,x=some y->∃q,ids[b']?=some (.lv q)/\q.aq=y) /\
   (∀im w',(∀y,x=some y->w'.heap[y]?=w.heap[y]?)->(∀u v,aA (av c ids w) w u v->aA im w' u v)->pj im w' aW sz n' dZ v x):=by
  rcases oH hs hv fN with⟨e1,e2,e3⟩|⟨q,cap,e1,e2,e3,e4,e5,e6⟩
  ·exact⟨none,(fun y h=>by cases h),fun _ _ _ _=>.inl ⟨e2,e1,rfl⟩⟩
  ·have J4:=hs.bP b' BC pN;rw[List.getElem?_eq_getElem pN] at e1;rw[Iw,Option.some.inj e1] at J4;obtain⟨q1,q2,us,q3,q4,q5,q6,q7⟩:=J4;refine⟨some q.aq,(fun y h=>by cases h;exact⟨q,by rw[List.getElem?_eq_getElem pN];exact e1,rfl⟩),fun im w' hk hm=>.inr ⟨q.aq,cap,us,e6,rfl,by rw[hk _ rfl];exact q3,by rw[q4,e3],e2.1,e2.2,q6,fun i' j cx h h'=>⟨hm _ _ (q7 i' j cx h h').1,(q7 i' j cx h h').2⟩⟩⟩
 obtain⟨x,xU,Xc⟩:=hx
 let p':Id:=⟨p.aq,p.k,p.n,p.sz,fun y=>p.Bh y\/x=some y,p.vg⟩
 have nI:∀y,p'.has y->p.has y\/x=some y:=by
  rintro y (h|h|h)
  ·exact .inl (.inl h)
  ·exact .inl (.inr h)
  ·exact .inr h
 let ab:=(ids.set b (.lv p')).set b' .dead
 have O2:ab.length=ids.length:=by simp[ab]
 have bX:∀k,k≠b->k≠b'->ab[k]?=ids[k]?:=by
  intro k h1 h2;simp only[ab];rw[List.getElem?_set_ne (fun e=>h2 e.symm),List.getElem?_set_ne (fun e=>h1 e.symm)]
 have eM:ab[b]?=some (.lv p'):=by
  simp only[ab];rw[List.getElem?_set_ne (fun e=>hne e.symm),List.getElem?_set_self fg]
 have jy:ab[b']?=some .dead:=by
  simp only[ab];rw[List.getElem?_set_self (by simpa using pN)]
 have bE:∀(k:Nat) (r:Id),ab[k]?=some (.lv r)->(k=b/\r=p')\/(k≠b/\k≠b'/\ids[k]?=some (.lv r)):=by
  intro k r h;by_cases sr:k=b
  ·subst sr;rw[eM] at h;cases h;exact .inl ⟨rfl,rfl⟩
  ·by_cases vD:k=b'
   ·subst vD;rw[jy] at h;cases h
   ·rw[bX k sr vD] at h;exact .inr ⟨sr,vD,h⟩
 have bm:∀r,eU.lv r∈ab->∀y,r.has y->y<w'.heap.size/\(w.heap.size<=y\/∃(b:Nat) (p:Id),ids[b]?=some (.lv p)/\p.has y):=by
  intro r hr y hy;rw[cj];obtain⟨k,hk⟩:=List.getElem?_of_mem hr;rcases bE k r hk with⟨_,rfl⟩|⟨_,_,e⟩
  ·rcases nI y hy with h|h
   ·exact⟨(hs.au p (List.mem_of_getElem? cD) y h).2,.inr ⟨b,p,cD,h⟩⟩
   ·obtain⟨q,q1,q2⟩:=xU y h;have:q.has y:=.inl q2.symm;exact⟨(hs.au q (List.mem_of_getElem? q1) y this).2,.inr ⟨b',q,q1,this⟩⟩
  ·exact⟨(hs.au r (List.mem_of_getElem? e) y hy).2,.inr ⟨k,r,e,hy⟩⟩
 have gk:∀k,k<w.heap.size->(∀(b:Nat) (p:Id),ids[b]?=some (.lv p)->¬p.has k)->w'.heap[k]?=w.heap[k]?:=by
  intro k _ hk;exact setRow_other w p.aq k _ (fun e=>hk b p cD (.inl e))
 obtain⟨ez,dH⟩:=hs.de (w':=w') (ab:=ab) (by rw[cj];exact Nat.le_refl _) gk bm
 have hd:∀(k:Nat) r,k≠b'->ids[k]?=some r->r≠.dead->∃q,ab[k]?=some q/\jH r q:=by
  intro k r hk hr _;by_cases su:k=b
  ·subst su;rw[cD] at hr;cases hr;exact⟨_,eM,p',rfl,rfl,rfl,rfl,rfl,fun _ _ h=>h⟩
  ·exact⟨r,by rw[bX k su hk];exact hr,fO r⟩
 have nh:∀u v,aA (av c ids w) w u v->aA (av c ab w') w' u v:=fun u v h=>h.mono ez dH
 have Xd:∀(k:Nat) (r:Id) y,ids[k]?=some (.lv r)->k≠b->r.has y->w'.heap[y]?=w.heap[y]?:=by
  intro k r y hr hk hy;refine setRow_other w p.aq y _ (fun e=>hk ?_);exact hs.al k b r p y hr cD hy (.inl e)
 refine⟨p,vs,ab,cD,h1,zd,g1,?_⟩
 refine hs.nH rfl rfl rfl (by show w.heap.size<=w'.heap.size;rw[cj];exact Nat.le_refl _) gk bm (fun vs h=>by
  simp only[ab] at h;rcases List.mem_or_eq_of_mem_set h with h|h
  ·rcases List.mem_or_eq_of_mem_set h with h|h
   ·exact h
   ·cases h
  ·cases h) ?_ (by simp) (by simp[ab,hs.aU]) ?_ ?_
 ·intro k k' r r' y e1 e2 x1 x2;rcases bE k r e1 with⟨rfl,rfl⟩|⟨ne,KG,e⟩<;>rcases bE k' r' e2 with⟨rfl,rfl⟩|⟨ne',KH,e'⟩
  ·rfl
  ·rcases nI y x1 with h|h
   ·exact absurd (hs.al _ _ p r' y cD e' h x2).symm ne'
   ·obtain⟨q,q1,q2⟩:=xU y h;exact absurd (hs.al _ _ q r' y q1 e' (.inl q2.symm) x2).symm KH
  ·rcases nI y x2 with h|h
   ·exact absurd (hs.al _ _ r p y e cD x1 h) ne
   ·obtain⟨q,q1,q2⟩:=xU y h;exact absurd (hs.al _ _ r q y e q1 x1 (.inl q2.symm)) KG
  ·exact hs.al k k' r r' y e e' x1 x2
 ·intro k h h';rw[List.getElem_map];exact nG ez dH hd 4 _ _ (hs.cc k (by simpa using h) h')
 ·intro k hk iu;have gE:ab[k]?=some ab[k]:=List.getElem?_eq_getElem iu;simp only[List.length_set,List.length_map] at hk;rw[List.getElem_set];split
  ·rename_i he;subst he;rw[jy] at gE;rw[<-Option.some.inj gE];exact rfl
  ·rename_i he;rw[List.getElem_set];split
   ·rename_i gY;subst gY;rw[eM] at gE;rw[<-Option.some.inj gE]
    have Kj:∀j (h:j<(vs.setIfInBounds i v).size) (h':j<vs.size),(vs.setIfInBounds i v)[j]=if i=j then v else vs[j]:=by
     intro j h h';rw[Array.getElem_setIfInBounds]
    have Tz:∀y,x=some y->w'.heap[y]?=w.heap[y]?:=by
     intro y hy;obtain⟨q,q1,q2⟩:=xU y hy;exact Xd b' q y q1 (fun e=>hne e.symm) (.inl q2.symm)
    have hpk:∀y,p.Bh y->w'.heap[y]?=w.heap[y]?:=by
     intro y hy;exact setRow_other w p.aq y _ (fun e=>g3 (by rw[<-e];exact hy))
    refine⟨g1,g2,?_,vs.setIfInBounds i v,setRow_heap w p.aq vs _ ty _ h1,by simp[h2];rfl,h3,iO kb i x,?_⟩
    ·rintro(h|h)
     ·exact g3 h
     ·obtain⟨q,q1,q2⟩:=xU _ h;exact hne (hs.al b b' p q p.aq cD q1 (.inl rfl) (.inl q2.symm))
    ·intro j hj _ PB;have KI:j<vs.size:=by simpa using PB
     rw[Kj j PB KI];by_cases D5:j=i
     ·subst D5;rw[if_pos rfl];simp only[iO,if_pos];refine⟨Xc _ _ Tz nh,(fun y hy=>.inr hy),?_⟩;intro j' cH _ e1 e2;by_cases qB:j'=j
      ·exact qB
      ·exfalso;rw[if_neg qB] at e1;cases BD:x with
       | none=>exact e2 BD
       | some y =>
        have TA:j'<vs.size:=by omega
        obtain⟨_,k2,_⟩:=h4 j' cH (by simp;exact fun e=>qB e.symm) TA;obtain⟨q,q1,q2⟩:=xU y BD;exact hne (hs.al b b' p q y cD q1 (.inr (k2 y (by rw[e1,BD]))) (.inl q2.symm))
     ·rw[if_neg (fun e=>D5 e.symm)];simp only[iO,if_neg D5];obtain⟨k1,k2,k3⟩:=h4 j hj (by simp;exact fun e=>D5 e.symm) KI;refine⟨k1.mono ez dH (fun y hy=>hpk y (k2 y hy)),(fun y hy=>.inl (k2 y hy)),?_⟩;intro j' cH _ e1 e2;by_cases qB:j'=i
      ·exfalso;subst qB;rw[if_pos rfl] at e1;cases BD:x with
       | none=>rw[BD] at e1;exact e2 e1.symm
       | some y =>
        obtain⟨q,q1,q2⟩:=xU y BD;exact hne (hs.al b b' p q y cD q1 (.inr (k2 y (by rw[<-e1,BD]))) (.inl q2.symm))
      ·rw[if_neg qB] at e1;exact k3 j' cH (by simp;exact fun e=>qB e.symm) e1 e2
   ·rename_i gY;have rQ:k<m.length:=hk;have qA:k<ids.length:=by rw[hs.aU];exact rQ
    rw[bX k (fun e=>gY e.symm) (fun e=>he e.symm),List.getElem?_eq_getElem qA] at gE;rw[<-Option.some.inj gE,List.getElem_map];refine(hs.bP k rQ qA).Sn ez dH hd 4 ?_;intro q hq y hy;exact Xd k q y (by rw[List.getElem?_eq_getElem qA,hq]) (fun e=>gY e.symm) hy
end
section
variable {c:Ctx} {s:List A} {m:List ar} {a:Act} {w w':World} {ids ab:dV} {P:Program} {im bL:Nat->Prop} {tt:TT} {G:aK}
variable {next:Act->World->Prop} {Q:Exit->Act->World->Prop} {o:Oper}

theorem BE(vs:Array Value)(i:Nat)(v:Value)(h:i<vs.size):(vs.toList.take i++[v]++vs.toList.drop (i+[v].length)).toArray=vs.setIfInBounds i v:=by
 apply Array.ext';simp only[List.length_singleton,Array.toList_setIfInBounds];rw[List.set_eq_take_append_cons_drop,if_pos (by simpa using h)];simp

theorem c9(aN:bM P tt)(hG:G.ok c)(hs:aJ c s m a w ids){K:List A->A->List ar->Prop}(h:ni P G tt o s m K)
  (hn:∀s1 v m' a' w' ab,K s1 v m'->aJ c (bA s1 o.dst v) m' a' w' ab->next a' w'):o.wp P a w next Q:=by
 unfold ni at h;split at h
 ·rename_i t X Y ho;split at h
  ·rename_i b hX;split at h
   ·rename_i ty aW sz n hole len row hb;split at h
    ·rename_i ti kk ix j7 hY;split at h
     ·rename_i hk he;obtain⟨ZJ,h⟩:=h;obtain⟨i,d,z,hi,hd,_,_,_,_,_,_,_,_,nu,kA,_⟩:=aN.facts j7;obtain⟨ie,ze,Ek,jJ,pI,_⟩:=kA hk;subst Ek;have hx:=hs.ev X;have hy:=hs.ev Y;rw[hX] at hx;rw[hY] at hy;obtain⟨p,cD,hB,_,_⟩:=qw hs hb (by omega);obtain⟨g1,g2,g3,vs,h1,h2,h3,kb,h4⟩:=hB;have e:execOp a.eval o=(do let z <-Instr.indexAt t (a.eval X) (a.eval Y);pure (.value z)):=by unfold execOp;rw[ho]
      have Xe:ti.bN=1:=Nat.eq_of_beq_eq_true he;rcases hs.gC hx (by rw[hb];simp) with⟨q1,_⟩|⟨p',cap,q1,q2,q3,q4⟩
      ·rw[cD] at q1;cases q1
      ·rw[cD] at q1;cases q1;refine bj (v:=.pointer (some ⟨p.aq,0+ix.toNat*1,none⟩)) (w':=w) ?_ (hn s _ m _ _ ids h (hs.bA o.dst ?_))
       ·rw[e,q4,hy.cC,g2];simp[Instr.indexAt,asIntOf,underlying,hd,ZJ.1,ZJ.2,sizeOf,typeInfo,jJ,pI,Xe,vo]
       ·have:=Rel.oref (ids:=ids) (im:=av c ids w) (w:=w) b ix.toNat 0 p cD;rw[g1] at this;simpa using this
     ·exact h.elim
    ·exact h.elim
   ·exact fD aN hG hs h hn
  ·exact fD aN hG hs h hn
 ·rename_i t X ho;split at h
  ·rename_i b i off hX;split at h
   ·rename_i ty aW sz n hole len row hb;split at h
    ·unfold Sq at h;split at h
     ·exact h.elim
     ·rename_i ti j7;split at h
      ·rename_i hk xv gY;obtain⟨pL,h⟩:=h;rw[fM,gj] at h;obtain⟨i0,d,z,hi,hd,_,_,_,_,_,J1,_,_,nu,kA,_⟩:=aN.facts j7;obtain⟨ie,ze,Ek,jJ,pI,_⟩:=kA hk;subst Ek;obtain⟨p,vs,ab,v,q1,q2,q3,q4,q5,q6⟩:=hs.take hb pL;have hx:=hs.ev X;rw[hX] at hx;obtain⟨p',r1,r2⟩:=hs.my hx (by rw[hb];simp);rw[q1] at r1;cases r1
       have hc:w.cell? ⟨p.aq,i*p.sz+0,none⟩=some v:=by
        rw[q4,cell_of_row w p.aq _ vs ty (0,0) q2];simpa using q3
       have cz:=jx (P:=P) (w:=w) hd (by rfl) p.aq (i*p.sz+0) v hc;refine bj (v:=v) (w':=w) ?_ (hn s _ _ _ _ ab h (q5.bA o.dst ?_))
       ·have e1:execOp a.eval o=(do let z <-loadVar t ⟨p.aq,i*p.sz+0,none⟩;pure (.value z)):=by
         unfold execOp;rw[ho];simp only[r2];rfl
        rw[e1];simp at cz;simp[cz]
       ·simpa using q6
      ·exact h.elim
    ·exact h.elim
   ·exact fD aN hG hs h hn
  ·exact fD aN hG hs h hn
 ·rename_i t X Y ho;split at h
  ·rename_i b i off hX;split at h
   ·rename_i ty aW sz n hole len row hb;split at h
    ·rename_i b' ti hY j7;split at h
     ·rename_i uf;have uf:ti.size=1:=Nat.eq_of_beq_eq_true uf;unfold Sr at h;split at h
      ·rename_i j xu ue n' dZ fN su;split at h
       ·rename_i xv gY;have xv:=Nat.eq_of_beq_eq_true xv;have gY:=Nat.eq_of_beq_eq_true gY;subst xv;subst gY;obtain⟨⟨lB,pL⟩,h⟩:=h;subst lB;rw[cX,eK] at h;have hne:b≠b':=fun e=>by subst e;rw[Nat.beq_refl] at su;cases su
        have hx:=hs.ev X;have hy:=hs.ev Y;rw[hX] at hx;rw[hY] at hy;obtain⟨i0,d,z,hi,hd,_,TB,_⟩:=aN.facts j7;obtain⟨p,vs,ab,q1,q2,q3,q4,q5⟩:=hs.PC hb fN hne pL hy;obtain⟨p',r1,r2⟩:=hs.my hx (by rw[hb];simp);rw[q1] at r1;cases r1;obtain⟨o1,o2⟩:=qq (by rfl) hy;have rY:=ir (P:=P) (w:=w) hi p.aq (i*p.sz+0) ty vs (a.eval Y) [a.eval Y] o2 (by rw[TB,uf];rfl) (by intro u hu;rw[List.mem_singleton.1 hu];exact o1) q2 (by rw[q4];simp;omega);rw[q4] at rY;simp only[Nat.mul_one,Nat.add_zero] at rY;rw[BE vs i _ q3] at rY;refine iL (w':=w.setRow p.aq (vs.setIfInBounds i (a.eval Y))) ?_ (hn _ _ _ _ _ ab h (q5.lI o.dst _))
        have e1:execOp a.eval o=(do storeVar t ⟨p.aq,i*p.sz+0,none⟩ (a.eval Y);pure .skip):=by
         unfold execOp;rw[ho];simp only[r2];rfl
        rw[e1,q4];simp[rY]
       ·exact h.elim
      ·exact h.elim
     ·exact h.elim
    ·exact h.elim
   ·exact fD aN hG hs h hn
  ·exact fD aN hG hs h hn
 ·exact fD aN hG hs h hn
end
end Go.Proofs.YtijddijloelacaaGreat.Am

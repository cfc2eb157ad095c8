/-
  THE ENGINE, part 1: an abstract machine of symbolic values, each step proved sound.
-/
import Derived.Calls
import Derived.Tactics
import Derived.Below
import Derived.Laws.Sem
import Derived.WalkKit
import Derived.Laws.StructEq
import Derived.ChangeKeysEq
import Derived.Laws.CopyRow
import Derived.Laws.Cells
import Derived.Laws.Slices
import Derived.Laws.AppendOwn
import Derived.Laws.OwnMore
import Derived.Laws.MakeOwn
set_option linter.unusedSimpArgs false
set_option linter.unusedSectionVars false
set_option linter.unusedVariables false
namespace Go.Proofs.YtijddijloelacaaGreat.Am
open Go.RowKit (Below)
inductive KC where
 | int (n:Int)
 | bool (b:Bool)
 | str (s:List UInt8)
 deriving DecidableEq
inductive KS where
 | int (k:IntKind)
 | bool
 | str
def Sk:KS->KC->Value
 | .int k,.int n=>.int k n
 | .bool,.bool b=>.bool b
 | .str,.str s=>.string ⟨s.toArray⟩
 | _,_=>.tuple #[]
def gX:List KS->List KC->Prop
 | [],[]=>True
 | .int _::ss,.int _::ks=>gX ss ks
 | .bool::ss,.bool _::ks=>gX ss ks
 | .str::ss,.str _::ks=>gX ss ks
 | _,_=>False
def Dp:List KS->List KC->List Value
 | s::ss,k::ks=>Sk s k::Dp ss ks
 | _,_=>[]
def kV(agg:Bool)(ss:List KS)(ks:List KC):Value :=
 match agg with
 | true=>.agg (Dp ss ks).toArray
 | false=>(Dp ss ks).getD 0 undef

inductive A where
 | int (k:IntKind) (n:Int)
 | bool (b:Bool)
 | sb (b:Bool)
 | str (s:List UInt8)
 | gk
 | ref (b off:Nat)
 | oref (b i off:Nat)
 | bref (cs:List A) (off:Nat)
 | aR
 | sl (n sz:Nat) (row:Nat->List A)
 | own (b:Nat)
 | agg (cs:List A)
 | tup (vs:List A)
 | fn (f:FuncId) (cap:List A)
 | bz
 | fF
 | mv (agg:Bool) (sh:List KS) (has:List KC->Bool) (val:List KC->A)
 | omap (b:Nat)
 | qc (b:Nat) (k:List KC)
 | mF (b k:Nat)
 | ae
instance:Inhabited A:=⟨.ae⟩
inductive aq where
 | box (ty:TypeId) (cs:List A)
 | row (ty:TypeId) (sz n:Nat) (row:Nat->List A)
 | nest (ty aM:TypeId) (sz n:Nat) (hole:Option Nat) (len:Nat->Nat) (row:Nat->Nat->List A)
 | ez (agg:Bool) (sh:List KS) (has:List KC->Bool) (val:List KC->A)
 | n0 (agg:Bool) (sh:List KS) (has:List KC->Bool) (val:List KC->A)
 | E2 (agg:Bool) (sh:List KS) (has:List KC->Bool) (val:List KC->A) (seen:List (List KC))
 | cF (ty:TypeId) (agg:Bool) (sh:List KS) (n hi:Nat) (cs:List A) (jb:Nat->Nat) (has:Nat->List KC->Bool) (val:Nat->List KC->A)
 | bC (ty:TypeId) (sz n:Nat) (Φ:(Nat->List A)->Prop)
 | ghost (cs:List A)
 | gone
 | dead
instance:Inhabited aq:=⟨.dead⟩

def gR(v:Value):Prop:=v.oneCell'=true

inductive aw (im:Nat->Prop) (w:World):A->Value->Prop
 | int (k:IntKind) (n:Int):aw im w (.int k n) (.int k n)
 | bool (b:Bool):aw im w (.bool b) (.bool b)
 | sb (b:Bool):aw im w (.sb b) (.bool b)
 | str (s:List UInt8):aw im w (.str s) (.string ⟨s.toArray⟩)
 | gk:aw im w .gk (.pointer none)
 | bref (ao base off:Nat) (cs:List A) (vs:Nat->Value) (hb:im ao)
   (hc:∀j,j<cs.length->w.cell? ⟨ao,base+j,none⟩=some (vs j))
   (ho:∀j,j<cs.length->gR (vs j))
   (hr:∀j (h:j<cs.length),aw im w cs[j] (vs j)):aw im w (.bref cs off) (.pointer (some ⟨ao,base+off,none⟩))
 | aR:aw im w .aR (.slice none 0 0)
 | rJ (sz:Nat) (row:Nat->List A):aw im w (.sl 0 sz row) (.slice none 0 0)
 | sle (sz:Nat) (row:Nat->List A) (ad:Addr) (cap:Nat):aw im w (.sl 0 sz row) (.slice (some ad) 0 cap)
 | sl (n sz:Nat) (row:Nat->List A) (ao base cap:Nat) (vs:Nat->Nat->Value) (hb:im ao) (ke:n<=cap)
   (hl:∀i,i<n->(row i).length=sz)
   (hc:∀i j,i<n->j<sz->w.cell? ⟨ao,base+i*sz+j,none⟩=some (vs i j))
   (ho:∀i j,i<n->j<sz->gR (vs i j))
   (hr:∀i j,i<n->∀(h:j<(row i).length),aw im w (row i)[j] (vs i j)) :
   aw im w (.sl n sz row) (.slice (some ⟨ao,base,none⟩) n cap)
 | agg (cs:List A) (vs:List Value) (hl:vs.length=cs.length) (ho:∀v∈vs,gR v)
   (hr:∀j (h:j<cs.length) (h':j<vs.length),aw im w cs[j] vs[j]):aw im w (.agg cs) (.agg vs.toArray)
 | tup (cs:List A) (vs:List Value) (hl:vs.length=cs.length)
   (hr:∀j (h:j<cs.length) (h':j<vs.length),aw im w cs[j] vs[j]):aw im w (.tup cs) (.tuple vs.toArray)
 | fn (f:FuncId) (cs:List A) (vs:List Value) (hl:vs.length=cs.length)
   (hr:∀j (h:j<cs.length) (h':j<vs.length),aw im w cs[j] vs[j]):aw im w (.fn f cs) (.func (.func f) #[] vs.toArray)
 | bz:aw im w .bz .nilFunc
 | fF:aw im w .fF (.map none)
 | mv (agg:Bool) (sh:List KS) (has:List KC->Bool) (val:List KC->A) (r:Nat) (es:Array MapEntry) (clock:Nat) (f:Nat->List KC) (hb:im r) (hh:w.heap[r]?=some (.map es clock))
   (hk:∀i (h:i<es.size),gX sh (f i)/\es[i].key=kV agg sh (f i)/\has (f i)=true) (hd:∀i j,i<es.size->j<es.size->f i=f j->i=j) (hc:∀k,gX sh k->has k=true->∃i,i<es.size/\f i=k)
   (hv:∀i (h:i<es.size),aw im w (val (f i)) es[i].val)
   (D5:∀i (h:i<es.size),es[i].born<clock) (Cg:∀i j (h:i<es.size) (h':j<es.size),es[i].born=es[j].born->i=j):aw im w (.mv agg sh has val) (.map (some r))
 | ae (v:Value):aw im w .ae v

structure Id where
 ao:Nat
 k:Nat
 n:Nat
 sz:Nat
 y8:Nat->Prop:=fun _=>False
 sY:Nat->Option (List KC):=fun _=>none
def Id.has(p:Id)(x:Nat):Prop:=x=p.ao\/p.y8 x
inductive dH where
 | dead
 | av
 | aP
 | lv (p:Id)
 | cz (vs:List Value)
abbrev dp:=List dH

inductive Rel (ids:dp) (im:Nat->Prop) (w:World):A->Value->Prop
 | aH {a:A} {v:Value} (h:aw im w a v):Rel ids im w a v
 | ref (b off:Nat) (p:Id) (h:ids[b]?=some (.lv p)):Rel ids im w (.ref b off) (.pointer (some ⟨p.ao,off,none⟩))
 | oref (b i off:Nat) (p:Id) (h:ids[b]?=some (.lv p)):Rel ids im w (.oref b i off) (.pointer (some ⟨p.ao,i*p.sz+off,none⟩))
 | fH (b:Nat) (h:ids[b]?=some .aP):Rel ids im w (.own b) (.slice none 0 0)
 | own (b cap:Nat) (p:Id) (h:ids[b]?=some (.lv p)) (hn:p.n<=cap/\cap<=maxLen) (hm:cap*p.sz=p.k) :
   Rel ids im w (.own b) (.slice (some ⟨p.ao,0,none⟩) p.n cap)
 | jM (b off x y:Nat) (h:ids[b]?=some .av):Rel ids im w (.ref b off) (.pointer (some ⟨x,y,none⟩))
 | fY (b i off x y:Nat) (h:ids[b]?=some .av):Rel ids im w (.oref b i off) (.pointer (some ⟨x,y,none⟩))
 | fD (b x:Nat) (h:ids[b]?=some .av):Rel ids im w (.omap b) (.map (some x))
 | jN (b:Nat) (x:Option Addr) (n cap:Nat) (h:ids[b]?=some .av):Rel ids im w (.own b) (.slice x n cap)
 | omap (b:Nat) (p:Id) (h:ids[b]?=some (.lv p)):Rel ids im w (.omap b) (.map (some p.ao))
 | qc (b:Nat) (k:List KC) (p:Id) (n:Nat) (h:ids[b]?=some (.lv p)) (hn:p.sY n=some k):Rel ids im w (.qc b k) (.int .i64 n)
 | ph (b:Nat) (k:List KC) (n:Int) (h:ids[b]?=some .av):Rel ids im w (.qc b k) (.int .i64 n)
 | mF (b k cap x:Nat) (p:Id) (h:ids[b]?=some (.lv p)) (hx:k<p.n->x=k*p.sz):Rel ids im w (.mF b k) (.slice (some ⟨p.ao,x,none⟩) (p.n-k) cap)
 | pj (b k:Nat) (h:ids[b]?=some .aP):Rel ids im w (.mF b k) (.slice none 0 0)
 | na (b k:Nat) (x:Option Addr) (n cap:Nat) (h:ids[b]?=some .av):Rel ids im w (.mF b k) (.slice x n cap)
 | agg (cs:List A) (vs:List Value) (hl:vs.length=cs.length) (ho:∀v∈vs,gR v)
   (hr:∀j (h:j<cs.length) (h':j<vs.length),Rel ids im w cs[j] vs[j]):Rel ids im w (.agg cs) (.agg vs.toArray)
 | tup (cs:List A) (vs:List Value) (hl:vs.length=cs.length)
   (hr:∀j (h:j<cs.length) (h':j<vs.length),Rel ids im w cs[j] vs[j]):Rel ids im w (.tup cs) (.tuple vs.toArray)
 | fn (f:FuncId) (cs:List A) (vs:List Value) (hl:vs.length=cs.length)
   (hr:∀j (h:j<cs.length) (h':j<vs.length),Rel ids im w cs[j] vs[j]):Rel ids im w (.fn f cs) (.func (.func f) #[] vs.toArray)

section
variable {im bl:Nat->Prop} {w w':World} {ids ab:dp}

theorem oN{b:Nat}(h:w'.heap[b]?=w.heap[b]?)(o:Nat):w'.cell? ⟨b,o,none⟩=w.cell? ⟨b,o,none⟩:=by
 unfold World.cell?;simp only[h]

theorem aw.mono(hi:∀b,im b->bl b)(hw:∀b,im b->w'.heap[b]?=w.heap[b]?){a:A}{v:Value}(h:aw im w a v):aw bl w' a v:=by
 induction h with
 | int k n=>exact .int k n
 | bool b=>exact .bool b
 | sb b=>exact .sb b
 | str s=>exact .str s
 | gk=>exact .gk
 | bref ao base off cs vs hb hc ho hr ih=>exact .bref ao base off cs vs (hi _ hb) (fun j hj=>by rw[oN (hw _ hb)];exact hc j hj) ho ih
 | aR=>exact .aR
 | rJ sz row=>exact .rJ sz row
 | sle sz row ad cap=>exact .sle sz row ad cap
 | sl n sz row ao base cap vs hb ke hl hc ho hr ih=>exact .sl n sz row ao base cap vs (hi _ hb) ke hl (fun i j h1 h2=>by rw[oN (hw _ hb)];exact hc i j h1 h2) ho ih
 | agg cs vs hl ho hr ih=>exact .agg cs vs hl ho ih
 | tup cs vs hl hr ih=>exact .tup cs vs hl ih
 | fn f cs vs hl hr ih=>exact .fn f cs vs hl ih
 | bz=>exact .bz
 | fF=>exact .fF
 | mv agg sh has val r es clock f hb hh hk hd hc hv D5 Cg X5=>exact .mv agg sh has val r es clock f (hi _ hb) (by rw[hw _ hb];exact hh) hk hd hc X5 D5 Cg
 | ae v=>exact .ae v

theorem Rel.mono(hi:∀b,im b->bl b)(hw:∀b,im b->w'.heap[b]?=w.heap[b]?)(hd:∀(b:Nat) p,ids[b]?=some p->p≠.dead->ab[b]?=some p)
  {a:A} {v:Value} (h:Rel ids im w a v):Rel ab bl w' a v:=by
 induction h with
 | aH h=>exact .aH (h.mono hi hw)
 | ref b off p h=>exact .ref b off p (hd _ _ h (by simp))
 | oref b i off p h=>exact .oref b i off p (hd _ _ h (by simp))
 | fH b h=>exact .fH b (hd _ _ h (by simp))
 | own b cap p h hn hm=>exact .own b cap p (hd _ _ h (by simp)) hn hm
 | jN b x n cap h=>exact .jN b x n cap (hd _ _ h (by simp))
 | jM b off x y h=>exact .jM b off x y (hd _ _ h (by simp))
 | fY b i off x y h=>exact .fY b i off x y (hd _ _ h (by simp))
 | fD b x h=>exact .fD b x (hd _ _ h (by simp))
 | omap b p h=>exact .omap b p (hd _ _ h (by simp))
 | qc b k p n h hn=>exact .qc b k p n (hd _ _ h (by simp)) hn
 | ph b k n h=>exact .ph b k n (hd _ _ h (by simp))
 | mF b k cap x p h hx=>exact .mF b k cap x p (hd _ _ h (by simp)) hx
 | pj b k h=>exact .pj b k (hd _ _ h (by simp))
 | na b k x n cap h=>exact .na b k x n cap (hd _ _ h (by simp))
 | agg cs vs hl ho hr ih=>exact .agg cs vs hl ho ih
 | tup cs vs hl hr ih=>exact .tup cs vs hl ih
 | fn f cs vs hl hr ih=>exact .fn f cs vs hl ih

theorem Rel.bS{k:IntKind}{n:Int}{v:Value}(h:Rel ids im w (.int k n) v):v=.int k n:=by
 cases h with|aH h=>cases h;rfl
theorem Rel.dR{b:Bool}{v:Value}(h:Rel ids im w (.bool b) v):v=.bool b:=by
 cases h with|aH h=>cases h;rfl
theorem Rel.iL{b:Bool}{v:Value}(h:Rel ids im w (.sb b) v):v=.bool b:=by
 cases h with|aH h=>cases h;rfl
theorem Rel.gJ{s:List UInt8}{v:Value}(h:Rel ids im w (.str s) v):v=.string ⟨s.toArray⟩:=by
 cases h with|aH h=>cases h;rfl
theorem Rel.jO{v:Value}(h:Rel ids im w .gk v):v=.pointer none:=by
 cases h with|aH h=>cases h;rfl
theorem Rel.df{v:Value}(h:Rel ids im w .aR v):v=.slice none 0 0:=by
 cases h with|aH h=>cases h;rfl
theorem Rel.gK{b off:Nat}{v:Value}(h:Rel ids im w (.ref b off) v):(∃p,ids[b]?=some (.lv p)/\v=.pointer (some ⟨p.ao,off,none⟩))\/(ids[b]?=some .av/\∃x y,v=.pointer (some ⟨x,y,none⟩)):=by
 cases h with
 | aH h=>cases h
 | ref _ _ p h=>exact .inl ⟨p,h,rfl⟩
 | jM _ _ x y h=>exact .inr ⟨h,x,y,rfl⟩
theorem Rel.gS{b i off:Nat}{v:Value}(h:Rel ids im w (.oref b i off) v):(∃p,ids[b]?=some (.lv p)/\v=.pointer (some ⟨p.ao,i*p.sz+off,none⟩))\/(ids[b]?=some .av/\∃x y,v=.pointer (some ⟨x,y,none⟩)):=by
 cases h with
 | aH h=>cases h
 | oref _ _ _ p h=>exact .inl ⟨p,h,rfl⟩
 | fY _ _ _ x y h=>exact .inr ⟨h,x,y,rfl⟩
theorem Rel.jc{b:Nat}{v:Value}(h:Rel ids im w (.own b) v):
  (ids[b]?=some .aP/\v=.slice none 0 0)\/(∃p cap,ids[b]?=some (.lv p)/\(p.n<=cap/\cap<=maxLen)/\cap*p.sz=p.k/\v=.slice (some ⟨p.ao,0,none⟩) p.n cap) \/
   (ids[b]?=some .av/\∃x n cap,v=.slice x n cap):=by
 cases h with
 | aH h=>cases h
 | fH _ h=>exact .inl ⟨h,rfl⟩
 | own _ cap p h hn hm=>exact .inr (.inl ⟨p,cap,h,hn,hm,rfl⟩)
 | jN _ x n cap h=>exact .inr (.inr ⟨h,x,n,cap,rfl⟩)
theorem Rel.iM{b:Nat}{v:Value}(h:Rel ids im w (.omap b) v):(∃p,ids[b]?=some (.lv p)/\v=.map (some p.ao))\/(ids[b]?=some .av/\∃x,v=.map (some x)):=by
 cases h with
 | aH h=>cases h
 | omap _ p h=>exact .inl ⟨p,h,rfl⟩
 | fD _ x h=>exact .inr ⟨h,x,rfl⟩
theorem Rel.LR{b k:Nat}{v:Value}(h:Rel ids im w (.mF b k) v):
  (ids[b]?=some .aP/\v=.slice none 0 0)\/(∃p cap x,ids[b]?=some (.lv p)/\(k<p.n->x=k*p.sz)/\v=.slice (some ⟨p.ao,x,none⟩) (p.n-k) cap)\/(ids[b]?=some .av/\∃x n cap,v=.slice x n cap):=by
 cases h with
 | aH h=>cases h
 | mF _ _ cap x p h hx=>exact .inr (.inl ⟨p,cap,x,h,hx,rfl⟩)
 | pj _ _ h=>exact .inl ⟨h,rfl⟩
 | na _ _ x n cap h=>exact .inr (.inr ⟨h,x,n,cap,rfl⟩)
theorem Rel.jP{v:Value}(h:Rel ids im w .fF v):v=.map none:=by
 cases h with|aH h=>cases h;rfl
theorem Rel.gL{cs:List A}{v:Value}(h:Rel ids im w (.agg cs) v):
  ∃vs:List Value,v=.agg vs.toArray/\vs.length=cs.length/\(∀u∈vs,gR u)/\(∀j (h:j<cs.length) (h':j<vs.length),Rel ids im w cs[j] vs[j]):=by
 cases h with
 | aH h=>cases h with|agg _ vs hl ho hr=>exact⟨vs,rfl,hl,ho,fun j h h'=>.aH (hr j h h')⟩
 | agg _ vs hl ho hr=>exact⟨vs,rfl,hl,ho,hr⟩
theorem Rel.kA{cs:List A}{v:Value}(h:Rel ids im w (.tup cs) v):
  ∃vs:List Value,v=.tuple vs.toArray/\vs.length=cs.length/\(∀j (h:j<cs.length) (h':j<vs.length),Rel ids im w cs[j] vs[j]):=by
 cases h with
 | aH h=>cases h with|tup _ vs hl hr=>exact⟨vs,rfl,hl,fun j h h'=>.aH (hr j h h')⟩
 | tup _ vs hl hr=>exact⟨vs,rfl,hl,hr⟩
theorem Rel.fM{f:FuncId}{cs:List A}{v:Value}(h:Rel ids im w (.fn f cs) v):
  ∃vs:List Value,v=.func (.func f) #[] vs.toArray/\vs.length=cs.length/\(∀j (h:j<cs.length) (h':j<vs.length),Rel ids im w cs[j] vs[j]):=by
 cases h with
 | aH h=>cases h with|fn _ _ vs hl hr=>exact⟨vs,rfl,hl,fun j h h'=>.aH (hr j h h')⟩
 | fn _ _ vs hl hr=>exact⟨vs,rfl,hl,hr⟩
end

structure Ctx where
 w0:World
 QC:Nat->Prop
 mu:Nat->Prop:=fun _=>False
 gh:List Value:=[]
/-- A block that the call may write: a new one, or one that it was handed. -/
def Ctx.new(c:Ctx)(b:Nat):Prop:=c.w0.heap.size<=b\/c.mu b
/-- Draws: where a sort is called they only grow; else (ns) nothing is said of them. -/
structure bY where
 ns:Prop
variable [Inhabited bY]
def en(a b:Nat):Prop:=(default:bY).ns\/a<=b
theorem en.refl(a:Nat):en a a:=.inr (Nat.le_refl a)
theorem en.succ(a:Nat):en a (a+1):=.inr (Nat.le_succ a)
theorem en.of{a b:Nat}(h:a<=b):en a b:=.inr h
theorem en.trans{a b c:Nat}(h:en a b)(k:en b c):en a c:=by
 rcases h with h|h
 ·exact .inl h
 ·exact k.imp id (Nat.le_trans h)
/-- A world that goes on: what lies below n stays, and draws only grow. -/
structure Bw (n:Nat) (w w':World):Prop where
 os:w'.os=w.os
 tape:w'.tape=w.tape
 output:w'.output=w.output
 size:w.heap.size<=w'.heap.size
 block:∀k,k<n->w'.heap[k]?=w.heap[k]?
 drawn:en w.drawn w'.drawn
theorem Bw.below{n:Nat}{w w':World}(h:Bw n w w'):Below n w w':=⟨h.os,h.tape,h.output,h.size,h.block⟩
theorem Bw.refl(n:Nat)(w:World):Bw n w w:=⟨rfl,rfl,rfl,Nat.le_refl _,fun _ _=>rfl,en.refl _⟩
theorem Bw.mono{n m:Nat}{w w':World}(h:Bw n w w')(hm:m<=n):Bw m w w':=⟨h.os,h.tape,h.output,h.size,fun k hk=>h.block k (Nat.lt_of_lt_of_le hk hm),h.drawn⟩
structure Fr (c:Ctx) (w:World):Prop where
 os:w.os=c.w0.os
 tape:w.tape=c.w0.tape
 output:w.output=c.w0.output
 size:c.w0.heap.size<=w.heap.size
 block:∀k,k<c.w0.heap.size->¬c.mu k->w.heap[k]?=c.w0.heap[k]?
 drawn:en c.w0.drawn w.drawn
theorem Fr.go{c:Ctx}{w w':World}(h:Fr c w)(h1:w'.os=w.os)(h2:w'.tape=w.tape)(h3:w'.output=w.output)(h4:w.heap.size<=w'.heap.size)
  (h5:∀k,k<c.w0.heap.size->¬c.mu k->w'.heap[k]?=w.heap[k]?) (h6:en w.drawn w'.drawn:=by exact en.refl _):Fr c w' :=
 ⟨h1.trans h.os,h2.trans h.tape,h3.trans h.output,Nat.le_trans h.size h4,fun k hk hm=>(h5 k hk hm).trans (h.block k hk hm),h.drawn.trans h6⟩
theorem Fr.trans{c:Ctx}{w w':World}(h:Fr c w)(k:Bw c.w0.heap.size w w'):Fr c w':=h.go k.os k.tape k.output k.size (fun i hi _=>k.block i hi) k.drawn
theorem Fr.refl(w:World)(im:Nat->Prop)(mu:Nat->Prop)(gh:List Value):Fr ⟨w,im,mu,gh⟩ w:=⟨rfl,rfl,rfl,Nat.le_refl _,fun _ _ _=>rfl,en.refl _⟩
theorem Fr.below{c:Ctx}{w:World}(h:Fr c w)(hm:∀b,¬c.mu b):Bw c.w0.heap.size c.w0 w:=⟨h.os,h.tape,h.output,h.size,fun k hk=>h.block k hk (hm k),h.drawn⟩

def au(c:Ctx)(ids:dp)(w:World):Nat->Prop:=fun b =>
 c.QC b\/(c.new b/\b<w.heap.size/\∀p,dH.lv p∈ids->¬p.has b)

/-- An inner row of a nest. -/
def mO(im:Nat->Prop)(w:World)(aM:TypeId)(sz n:Nat)(row:Nat->List A)(v:Value)(x:Option Nat):Prop :=
 (v=.slice none 0 0/\n=0/\x=none) \/
 ∃(q cap:Nat) (vs:Array Value),v=.slice (some ⟨q,0,none⟩) n cap/\x=some q/\w.heap[q]?=some (.cells vs aM (0,0))/\vs.size=cap*sz/\n<=cap/\cap<=maxLen /\
  (∀i,i<n->(row i).length=sz) /\
  ∀i j,i<n->∀(h:j<(row i).length) (h':i*sz+j<vs.size),aw im w (row i)[j] vs[i*sz+j]/\gR vs[i*sz+j]

/-- What lies at r is a map of these entries. -/
def Dq(im:Nat->Prop)(w:World)(agg:Bool)(sh:List KS)(has:List KC->Bool)(val:List KC->A)(r:Nat):Prop :=
 ∃(es:Array MapEntry) (clock:Nat) (f:Nat->List KC),w.heap[r]?=some (.map es clock) /\
   (∀i (h:i<es.size),gX sh (f i)/\es[i].key=kV agg sh (f i)/\has (f i)=true)/\(∀i j,i<es.size->j<es.size->f i=f j->i=j)/\(∀k,gX sh k->has k=true->∃i,i<es.size/\f i=k) /\
   (∀i (h:i<es.size),aw im w (val (f i)) es[i].val)/\(∀i (h:i<es.size),es[i].born<clock)/\∀i j (h:i<es.size) (h':j<es.size),es[i].born=es[j].born->i=j
/-- A cell of a slice of maps. -/
def Sl(im:Nat->Prop)(w:World)(y8:Nat->Prop)(agg:Bool)(sh:List KS)(n hi l:Nat)(jb:Nat->Nat)(has:Nat->List KC->Bool)(val:Nat->List KC->A)(kb:Nat->Nat)(i:Nat)(v:Value):Prop :=
 (∃x,v=.map x)/\(l=0\/i≠hi->(jb i=0->v=.map none) /\
  (jb i=1->v=.map (some (kb i))/\y8 (kb i)/\Dq im w agg sh (has i) (val i) (kb i)/\∀j,j<n->(l=0\/j≠hi)->jb j=1->kb j=kb i->j=i))
def aV(ids:dp)(im:Nat->Prop)(w:World):aq->dH->Prop
 | .dead,p=>p=.dead
 | .gone,p=>p=.av
 | .box ty cs,.lv p=>∃vs:Array Value,w.heap[p.ao]?=some (.cells vs ty (0,0))/\vs.size=p.k/\cs.length=p.k /\
   ∀j (h:j<cs.length) (h':j<vs.size),Rel ids im w cs[j] vs[j]/\gR vs[j]
 | .box _ _,_=>False
 | .row ty sz n row,.lv p=>p.sz=sz/\p.n=n/\∃vs:Array Value,w.heap[p.ao]?=some (.cells vs ty (0,0))/\vs.size=p.k/\n*sz<=p.k /\
   (∀i,i<n->(row i).length=sz) /\
   ∀i j,i<n->∀(h:j<(row i).length) (h':i*sz+j<vs.size),aw im w (row i)[j] vs[i*sz+j]/\gR vs[i*sz+j]
 | .row _ _ n _,.aP=>n=0
 | .row _ _ _ _,.dead=>False
 | .row _ _ _ _,.av=>False
 | .row _ _ _ _,.cz _=>False
 | .nest ty aM sz n hole len row,.lv p=>p.sz=1/\p.n=n/\¬p.y8 p.ao/\∃vs:Array Value,w.heap[p.ao]?=some (.cells vs ty (0,0))/\vs.size=p.k/\n<=p.k /\
   ∃kb:Nat->Option Nat,∀i,i<n->hole≠some i->∀(h:i<vs.size),mO im w aM sz (len i) (row i) vs[i] (kb i) /\
    (∀x,kb i=some x->p.y8 x)/\∀j,j<n->hole≠some j->kb j=kb i->kb i≠none->j=i
 | .nest _ _ _ n _ _ _,.aP=>n=0
 | .nest _ _ _ _ _ _ _,.dead=>False
 | .nest _ _ _ _ _ _ _,.av=>False
 | .nest _ _ _ _ _ _ _,.cz _=>False
 | .ez agg sh has val,.lv p=>∃(es:Array MapEntry) (clock:Nat) (f:Nat->List KC),w.heap[p.ao]?=some (.map es clock) /\
   (∀i (h:i<es.size),gX sh (f i)/\es[i].key=kV agg sh (f i)/\has (f i)=true)/\(∀i j,i<es.size->j<es.size->f i=f j->i=j)/\(∀k,gX sh k->has k=true->∃i,i<es.size/\f i=k) /\
   (∀i (h:i<es.size),aw im w (val (f i)) es[i].val)/\(∀i (h:i<es.size),es[i].born<clock)/\∀i j (h:i<es.size) (h':j<es.size),es[i].born=es[j].born->i=j
 | .ez _ _ _ _,_=>False
 | .n0 agg sh has val,.lv p=>∃(es:Array MapEntry) (clock:Nat) (f:Nat->List KC),w.heap[p.ao]?=some (.map es clock) /\
   (∀i (h:i<es.size),gX sh (f i)/\es[i].key=kV agg sh (f i)/\has (f i)=true)/\(∀i j,i<es.size->j<es.size->f i=f j->i=j)/\(∀k,gX sh k->has k=true->∃i,i<es.size/\f i=k) /\
   (∀i (h:i<es.size),aw im w (val (f i)) es[i].val)/\(∀i (h:i<es.size),p.sY es[i].born=some (f i))/\(∀n,clock<=n->p.sY n=none)/\∀n k,p.sY n=some k->∃i,∃(h:i<es.size),es[i].born=n/\f i=k
 | .n0 _ _ _ _,_=>False
 | .E2 agg sh has val seen,.lv p=>∃(r:Nat) (es:Array MapEntry) (clock:Nat) (f:Nat->List KC) (sb:Array Nat),w.heap[p.ao]?=some (.mapIter (some r) clock sb clock)/\im r/\w.heap[r]?=some (.map es clock) /\
   (∀i (h:i<es.size),gX sh (f i)/\es[i].key=kV agg sh (f i)/\has (f i)=true)/\(∀i j,i<es.size->j<es.size->f i=f j->i=j)/\(∀k,gX sh k->has k=true->∃i,i<es.size/\f i=k) /\
   (∀i (h:i<es.size),aw im w (val (f i)) es[i].val)/\(∀i (h:i<es.size),es[i].born<clock)/\(∀i j (h:i<es.size) (h':j<es.size),es[i].born=es[j].born->i=j) /\
   (∀i (h:i<es.size),es[i].born∈sb↔f i∈seen)/\∀k,seen.getLast?=some k->∃i,∃(h:i<es.size),∃X6:Array Nat,f i=k/\sb=X6.push es[i].born
 | .E2 _ _ _ _ _,_=>False
 | .cF ty agg sh n hi cs jb has val,.lv p=>p.sz=1/\p.n=n/\¬p.y8 p.ao/\∃vs:Array Value,w.heap[p.ao]?=some (.cells vs ty (0,0))/\vs.size=p.k/\n<=p.k /\
   (∀j (h:j<cs.length) (h':hi<vs.size),Rel ids im w cs[j] vs[hi])/\∃kb:Nat->Nat,∀i,i<n->∀(h:i<vs.size),Sl im w p.y8 agg sh n hi cs.length jb has val kb i vs[i]
 | .cF _ _ _ n _ _ _ _ _,.aP=>n=0
 | .cF _ _ _ _ _ _ _ _ _,.dead=>False
 | .cF _ _ _ _ _ _ _ _ _,.av=>False
 | .cF _ _ _ _ _ _ _ _ _,.cz _=>False
 | .bC ty sz n Φ,.lv p=>∃row,Φ row/\p.sz=sz/\p.n=n/\∃vs:Array Value,w.heap[p.ao]?=some (.cells vs ty (0,0))/\vs.size=p.k/\n*sz<=p.k /\
   (∀i,i<n->(row i).length=sz) /\
   ∀i j,i<n->∀(h:j<(row i).length) (h':i*sz+j<vs.size),aw im w (row i)[j] vs[i*sz+j]/\gR vs[i*sz+j]
 | .bC _ _ n Φ,.aP=>n=0/\∃row,Φ row
 | .bC _ _ _ _,.dead=>False
 | .bC _ _ _ _,.av=>False
 | .bC _ _ _ _,.cz _=>False
 | .ghost cs,.cz vs=>vs.length=cs.length/\∀j (h:j<cs.length) (h':j<vs.length),Rel ids im w cs[j] vs[j]
 | .ghost _,_=>False

structure aF (c:Ctx) (s:List A) (m:List aq) (a:Act) (w:World) (ids:dp):Prop where
 defers:a.defers=[]
 len:a.tmps.size=s.length
 bE:∀i (h:i<s.length) (h':i<a.tmps.size),Rel ids (au c ids w) w s[i] a.tmps[i]
 aK:ids.length=m.length
 bu:∀b (h:b<m.length) (h':b<ids.length),aV ids (au c ids w) w m[b] ids[b]
 ah:∀(b b':Nat) p q x,ids[b]?=some (.lv p)->ids[b']?=some (.lv q)->p.has x->q.has x->b=b'
 ar:∀p,dH.lv p∈ids->∀x,p.has x->c.new x/\x<w.heap.size
 frame:Fr c w
 dL:∀b,c.QC b->b<c.w0.heap.size/\¬c.mu b
 cz:∀vs,dH.cz vs∈ids->vs=c.gh
section
variable {c:Ctx} {s:List A} {m:List aq} {a:Act} {w:World} {ids:dp}
theorem aF.fresh(hs:aF c s m a w ids):∀p,dH.lv p∈ids->c.new p.ao/\p.ao<w.heap.size :=
 fun p h=>hs.ar p h _ (.inl rfl)
theorem aF.da(hs:aF c s m a w ids){b:Nat}(h:ids[b]?=some .av):m.getD b .dead=.gone:=by
 have hb:b<ids.length:=by
  rcases Nat.lt_or_ge b ids.length with h'|h'
  ·exact h'
  ·rw[List.getElem?_eq_none h'] at h;cases h
 have hm:b<m.length:=by rw[<-hs.aK];exact hb
 have hB:=hs.bu b hm hb;rw[List.getElem?_eq_getElem hb] at h;rw[Option.some.inj h] at hB;have e:m.getD b .dead=m[b]:=by rw[List.getD_eq_getElem?_getD,List.getElem?_eq_getElem hm];rfl
 rw[e];cases hx:m[b]<;>rw[hx] at hB<;>first|rfl|exact hB.elim|cases hB
theorem aF.wB(hs:aF c s m a w ids){b off:Nat}{v:Value}{im:Nat->Prop}(h:Rel ids im w (.ref b off) v)(hb:m.getD b .dead≠.gone):∃p,ids[b]?=some (.lv p)/\v=.pointer (some ⟨p.ao,off,none⟩):=by
 rcases h.gK with h|⟨h,_⟩
 ·exact h
 ·exact absurd (hs.da h) hb
theorem aF.kB(hs:aF c s m a w ids){b i off:Nat}{v:Value}{im:Nat->Prop}(h:Rel ids im w (.oref b i off) v)(hb:m.getD b .dead≠.gone):∃p,ids[b]?=some (.lv p)/\v=.pointer (some ⟨p.ao,i*p.sz+off,none⟩):=by
 rcases h.gS with h|⟨h,_⟩
 ·exact h
 ·exact absurd (hs.da h) hb
theorem aF.Dr(hs:aF c s m a w ids){b:Nat}{v:Value}{im:Nat->Prop}(h:Rel ids im w (.omap b) v)(hb:m.getD b .dead≠.gone):∃p,ids[b]?=some (.lv p)/\v=.map (some p.ao):=by
 rcases h.iM with h|⟨h,_⟩
 ·exact h
 ·exact absurd (hs.da h) hb
/-- A slice of ours, whose block is there. -/
theorem aF.fk(hs:aF c s m a w ids){b:Nat}{v:Value}{im:Nat->Prop}(h:Rel ids im w (.own b) v)(hb:m.getD b .dead≠.gone):
  (ids[b]?=some .aP/\v=.slice none 0 0)\/∃p cap,ids[b]?=some (.lv p)/\(p.n<=cap/\cap<=maxLen)/\cap*p.sz=p.k/\v=.slice (some ⟨p.ao,0,none⟩) p.n cap:=by
 rcases h.jc with h|h|⟨h,_⟩
 ·exact .inl h
 ·exact .inr h
 ·exact absurd (hs.da h) hb
theorem aF.PB(hs:aF c s m a w ids){b k:Nat}{v:Value}{im:Nat->Prop}(h:Rel ids im w (.mF b k) v)(hb:m.getD b .dead≠.gone):
  (ids[b]?=some .aP/\v=.slice none 0 0)\/∃p cap x,ids[b]?=some (.lv p)/\(k<p.n->x=k*p.sz)/\v=.slice (some ⟨p.ao,x,none⟩) (p.n-k) cap:=by
 rcases h.LR with h|h|⟨h,_⟩
 ·exact .inl h
 ·exact .inr h
 ·exact absurd (hs.da h) hb
theorem aF.oM(hs:aF c s m a w ids){b:Nat}(h:c.QC b)(h':c.new b):False:=by
 have:=hs.dL b h;rcases h' with h'|h'
 ·omega
 ·exact this.2 h'
abbrev mkId(ao k n sz:Nat):Id:=⟨ao,k,n,sz,fun _=>False,fun _=>none⟩
theorem cg{ao k n sz x:Nat}(h:(mkId ao k n sz).has x):x=ao:=by
 rcases h with h|h
 ·exact h
 ·exact h.elim
end
end Go.Proofs.YtijddijloelacaaGreat.Am
namespace Go.Proofs.YtijddijloelacaaGreat.Am
variable [Inhabited bY]
def eqFs(P:Program)(g:TypeId->Option (List Nat)):Nat->List Field->Option (List Nat)
 | _,[]=>some []
 | acc,f::fs=>match g f.type,P.info? f.type with
  | some sh, some i => if f.name ≠ "_" ∧ f.offset = acc ∧ i.size = sh.length ∧ 0 < sh.length then match eqFs P g (acc + sh.length) fs with
    | some r=>some (sh++r)
    | none=>none
   else none
  | _,_=>none
/-- The kinds of the cells of a type that '==' compares cell by cell: 5 an integer, 6 a bool, 4 a string. -/
def aW(P:Program):Nat->TypeId->Option (List Nat)
 | 0,_=>none
 | d+1,t=>match P.underlying t with
  | some (.int _)=>some [5]
  | some .bool=>some [6]
  | some .string=>some [4]
  | some (.struct fs)=>if P.stoodInHeld t then none else eqFs P (aW P d) 0 fs.toList
  | some (.array n e)=>match aW P d e,P.info? e with
   | some sh,some i=>if i.size=sh.length/\0<sh.length then some (List.replicate n sh).flatten else none
   | _,_=>none
  | _=>none

def UL(k:Nat)(x y:Value)(b:Bool):Prop :=
 (k=5/\∃kk a c,x=.int kk a/\y=.int kk c/\b=(a==c))\/(k=6/\∃a c,x=.bool a/\y=.bool c/\b=(a==c)) \/
 (k=4/\∃a c:ByteArray,x=.string a/\y=.string c/\b=(a.toList==c.toList))
def sF:List Nat->List Value->List Value->Bool->Prop
 | [],[],[],r=>r=true
 | k::ks,x::xs,y::ys,r=>∃b r',UL k x y b/\sF ks xs ys r'/\r=(b&&r')
 | _,_,_,_=>False
theorem mw:∀ {ks:List Nat} {xs ys:List Value} {r:Bool},sF ks xs ys r->xs.length=ks.length/\ys.length=ks.length
 | [],[],[],_,_=>⟨rfl,rfl⟩
 | k::ks,x::xs,y::ys,r,⟨b,r',_,h,_⟩=>by have:=mw h;simp[this.1,this.2]
 | [],[],_::_,_,h=>h.elim
 | [],_::_,_,_,h=>h.elim
 | _::_,[],_,_,h=>h.elim
 | _::_,_::_,[],_,h=>h.elim
theorem iN:∀ {ks ls:List Nat} {xs ys:List Value} {r:Bool},sF (ks++ls) xs ys r ->
  ∃r1 r2,sF ks (xs.take ks.length) (ys.take ks.length) r1/\sF ls (xs.drop ks.length) (ys.drop ks.length) r2/\r=(r1&&r2)
 | [],ls,xs,ys,r,h=>⟨true,r,by simp[sF],by simpa using h,by simp⟩
 | k::ks,ls,xs,ys,r,h=>by
  match xs,ys,h with
  | x::xs,y::ys,h =>
   obtain⟨b,r',h1,h2,rfl⟩:=h;obtain⟨r1,r2,g1,g2,rfl⟩:=iN h2;exact⟨b&&r1,r2,⟨b,r1,h1,by simpa using g1,rfl⟩,by simpa using g2,by simp[Bool.and_assoc]⟩
  | [],_,h=>exact h.elim
  | _::_,[],h=>exact h.elim

/-- The value of cells, by the type. -/
def uf(P:Program)(t:TypeId)(xs:List Value):Value :=
 match P.underlying t with
 | some (.struct _)=>.agg xs.toArray
 | some (.array _ _)=>.agg xs.toArray
 | _=>xs.getD 0 undef

section
variable {P:Program} {w:World}
theorem jQ{t:TypeId}{i:TypeInfo}(hi:P.info? t=some i){d:TypeDesc}(hd:P.underlying t=some d)(xs:List Value)(off:Nat)(h:off+i.size<=xs.length)(h0:0<i.size):
  (part t xs.toArray off).run P w=.ok (uf P t ((xs.drop off).take i.size)) w:=by
 have aI:off<xs.length:=by omega
 have e0:((xs.drop off).take i.size).getD 0 undef=xs[off]:=by
  rw[List.getD_eq_getElem?_getD,List.getElem?_take,if_pos h0,List.getElem?_drop];simp[aI]
 unfold part uf isAgg;cases d<;>simp[underlying,hd,sizeOf,typeInfo,hi,aI]<;>first|(rw[<-e0];simp[List.getD_eq_getElem?_getD])|skip

theorem jd:∀(d:Nat) (t:TypeId) (sh:List Nat),aW P d t=some sh->∃dd,P.underlying t=some dd
 | 0,_,_,h=>by simp[aW] at h
 | d+1,t,sh,h=>by
  unfold aW at h;cases hd:P.underlying t with
  | none=>rw[hd] at h;cases h
  | some dd=>exact⟨dd,rfl⟩
theorem my{k:Nat}{xs ys:List Value}{r:Bool}(h:sF [k] xs ys r):∃x y,xs=[x]/\ys=[y]/\UL k x y r:=by
 have hl:=mw h
 match xs,ys,hl,h with
 | [x],[y],_,⟨b,r',h1,h2,h3⟩ =>
  have h2:r'=true:=h2;subst h2;exact⟨x,y,rfl,rfl,by rw[h3];simpa using h1⟩
theorem Ds{xs ys:List Value}{r:Bool}(h:sF [] xs ys r):r=true:=by
 match xs,ys,h with
 | [],[],h=>exact h

theorem fz:∀(d:Nat) (t:TypeId) (sh:List Nat) (xs ys:List Value) (r:Bool) (dd:Nat),aW P d t=some sh->sF sh xs ys r ->
  (Op.equalIn (d+dd) t (uf P t xs) (uf P t ys)).run P w=.ok r w
 | 0,_,_,_,_,_,_,h,_=>by simp[aW] at h
 | d+1,t,sh,xs,ys,r,dd,h,hk=>by
  have e:d+1+dd=(d+dd)+1:=by omega
  rw[e];unfold aW at h;unfold uf;split at h
  ·rename_i k hd;cases h;obtain⟨x,y,rfl,rfl,h1⟩:=my hk
   ·rcases h1 with⟨_,kk,a,c,rfl,rfl,rfl⟩|⟨h,_⟩|⟨h,_⟩
    ·rw[hd];simp[run_equalIn_int w _ t kk k a c hd]
    ·cases h
    ·cases h
  ·rename_i hd;cases h;obtain⟨x,y,rfl,rfl,h1⟩:=my hk
   ·rcases h1 with⟨h,_⟩|⟨_,a,c,rfl,rfl,rfl⟩|⟨h,_⟩
    ·cases h
    ·rw[hd];simp[run_equalIn_bool w _ t a c hd]
    ·cases h
  ·rename_i hd;cases h;obtain⟨x,y,rfl,rfl,h1⟩:=my hk
   ·rcases h1 with⟨h,_⟩|⟨h,_⟩|⟨_,a,c,rfl,rfl,rfl⟩
    ·cases h
    ·cases h
    ·rw[hd];simp[run_equalIn_string w _ t a c hd]
  ·rename_i fs hd;split at h
   ·cases h
   ·rename_i qL;rw[hd];have hf:P.fieldsOf t=fs:=by unfold Program.fieldsOf;rw[hd]
    rw[run_equalIn_struct w (d+dd) t _ _ (by rw[hf];exact hd) (by simpa using qL),hf]
    have key:∀(fl:List Field) (acc:Nat) (sh:List Nat) (r:Bool),eqFs P (aW P d) acc fl=some sh->sF sh (xs.drop acc) (ys.drop acc) r ->
      (Op.eqFields (d+dd) xs.toArray ys.toArray fl).run P w=.ok r w:=by
     intro fl
     induction fl with
     | nil =>
      intro acc sh r h1 h2;simp only[eqFs,Option.some.injEq] at h1;subst h1;rw[Ds h2];rfl
     | cons f fl ih =>
      intro acc sh r h1 h2;unfold eqFs at h1;split at h1
      ·rename_i s1 i hs hi;split at h1
       ·rename_i hc;obtain⟨Ay,qS,UM,hz⟩:=hc;split at h1
        ·rename_i r0 J8;cases h1;obtain⟨r1,r2,g1,g2,rfl⟩:=iN h2;obtain⟨fd,LS⟩:=jd d f.type s1 hs;have hl:=mw h2;simp at hl;have p1:=jQ (w:=w) hi LS xs acc (by omega) (by omega);have p2:=jQ (w:=w) hi LS ys acc (by omega) (by omega);rw[UM] at p1 p2;have q:=fz d f.type s1 _ _ r1 dd hs g1;rw[List.drop_drop,List.drop_drop] at g2;have PC:=ih (acc+s1.length) r0 r2 J8 g2;subst qS;unfold Op.eqFields;rw[if_pos Ay];simp only[Sem.run_bind,p1,p2,q,Result.andThen_ok];cases r1<;>simp[PC]
        ·cases h1
       ·cases h1
      ·cases h1
    exact key fs.toList 0 sh r h (by simpa using hk)
  ·rename_i n e hd;split at h
   ·rename_i s1 i hs hi;split at h
    ·rename_i hc;cases h;rw[hd];obtain⟨ed,QD⟩:=jd d e s1 hs;rw[run_equalIn_array w (d+dd) xs.toArray ys.toArray hd hi];have Bz:P.cellsOf e=s1.length:=by unfold Program.cellsOf;rw[hi];simp[hc.1]
     rw[Bz]
     have key:∀(k b:Nat) (r:Bool),sF (List.replicate k s1).flatten (xs.drop (b*s1.length)) (ys.drop (b*s1.length)) r ->
       (Op.eqItems (d+dd) e s1.length xs.toArray ys.toArray (List.range' b k)).run P w=.ok r w:=by
      intro k
      induction k with
      | zero =>
       intro b r h2;have h2:sF [] (xs.drop (b*s1.length)) (ys.drop (b*s1.length)) r:=by simpa using h2
       rw[Ds h2];rfl
      | succ k ih =>
       intro b r h2;rw[List.replicate_succ,List.flatten_cons] at h2;have hl:=mw h2;simp only[List.length_drop,List.length_append] at hl;obtain⟨r1,r2,g1,g2,rfl⟩:=iN h2;have p1:=jQ (w:=w) hi QD xs (b*s1.length) (by omega) (by omega);have p2:=jQ (w:=w) hi QD ys (b*s1.length) (by omega) (by omega);rw[hc.1] at p1 p2;have q:=fz d e s1 _ _ r1 dd hs g1;rw[List.drop_drop,List.drop_drop,<-Nat.succ_mul] at g2;have PC:=ih (b+1) r2 g2;rw[List.range'_succ];unfold Op.eqItems;simp only[Sem.run_bind,p1,p2,q,Result.andThen_ok];cases r1<;>simp[PC]
     have:=key n 0 r (by simpa using hk)
     rwa [<-List.range_eq_range'] at this
    ·cases h
   ·cases h
  ·cases h

mutual
theorem eP:∀(d:Nat) (t:TypeId) (sh:List Nat) (e:Nat),aW P d t=some sh->P.eqGuardType (d+e) t=false
 | 0,_,_,_,h=>by simp[aW] at h
 | d+1,t,sh,e,h=>by
  have e1:d+1+e=(d+e)+1:=by omega
  rw[e1];unfold aW at h;unfold Program.eqGuardType;split at h
  ·rename_i hd;rw[hd]
  ·rename_i hd;rw[hd]
  ·rename_i hd;rw[hd]
  ·rename_i fs hd;rw[hd];split at h
   ·cases h
   ·have:=sZ d 0 fs.toList sh e h;simp only[Array.any_eq_false];intro i hi;have:=this fs[i] (by simp);simp[this]
  ·rename_i n el hd;rw[hd];split at h
   ·rename_i s1 i hs hi;exact eP d el s1 e hs
   ·cases h
  ·cases h
theorem sZ:∀(d acc:Nat) (fs:List Field) (sh:List Nat) (e:Nat),eqFs P (aW P d) acc fs=some sh->∀f∈fs,P.eqGuardType (d+e) f.type=false
 | _,_,[],_,_,_=>by intro f hf;cases hf
 | d,acc,g::fs,sh,e,h=>by
  unfold eqFs at h;split at h
  ·rename_i s1 i hs hi;split at h
   ·split at h
    ·rename_i r hr;intro f hf;rcases List.mem_cons.1 hf with rfl|hf
     ·exact eP d _ s1 e hs
     ·exact sZ d _ fs r e hr f hf
    ·cases h
   ·cases h
  ·cases h
end

theorem qd{op:BinOp}(TA:op=.eql\/op=.neq){t:TypeId}{d:Nat}{sh:List Nat}(FM:aW P d t=some sh)(UN:d<=100)(UO:d<=P.depth){xs ys:List Value}{r:Bool}(hk:sF sh xs ys r)
  (LU:uf P t xs=.agg xs.toArray) (Sn:uf P t ys=.agg ys.toArray) (X Y:Operand) :
  (do eqGuard op t X Y (.agg xs.toArray) (.agg ys.toArray);binOp op t (.agg xs.toArray) (.agg ys.toArray):Sem Value).run P w=.ok (.bool (if op=.eql then r else !r)) w:=by
 have e1:(eqGuard op t X Y (.agg xs.toArray) (.agg ys.toArray)).run P w=.ok () w:=by
  have hg:P.eqGuardType P.depth t=false:=by
   have:=eP (P:=P) d t sh (P.depth-d) FM
   rwa [show d+(P.depth-d)=P.depth by omega] at this
  unfold eqGuard;rcases TA with rfl|rfl<;>simp[hg]
 have e2:(Op.equalIn 10000 t (.agg xs.toArray) (.agg ys.toArray)).run P w=.ok r w:=by
  have:=fz (P:=P) (w:=w) d t sh xs ys r (10000-d) FM hk;rw[LU,Sn,show d+(10000-d)=10000 by omega] at this;exact this
 simp only[Sem.run_bind,e1,Result.andThen_ok];rcases TA with rfl|rfl
 ·rw[run_eql_struct];simp[e2]
 ·rw[run_neq_struct];simp[e2]
end
end Go.Proofs.YtijddijloelacaaGreat.Am
namespace Go.Proofs.YtijddijloelacaaGreat.Am
variable [Inhabited bY]
open Go.RowKit (Below)
structure TI where
 agg:Bool
 size:Nat
 nb:List (Nat×Nat)
 aM:TypeId
 br:Nat
 dS:Nat
 kC:Nat
 zero:List A
 kind:Nat
 ik:IntKind
 eqs:Option (List Nat)
 n9:List Nat
abbrev TT:=List (Nat×TI)

def ofConst:Value->A
 | .bool b=>.bool b
 | .int k n=>.int k n
 | .string s=>.str s.data.toList
 | .pointer none=>.gk
 | .slice none 0 0=>.aR
 | .nilFunc=>.bz
 | .map none=>.fF
 | _=>.ae
theorem dT(im:Nat->Prop)(w:World)(v:Value):aw im w (ofConst v) v:=by
 unfold ofConst;split<;>first|exact .ae _|skip
 ·exact .bool _
 ·exact .int _ _
 ·rename_i s;have:=aw.str (im:=im) (w:=w) s.data.toList;simpa using this
 ·exact .gk
 ·exact .aR
 ·exact .bz
 ·exact .fF

def dM:TypeDesc->Bool
 | .struct _=>true
 | .array _ _=>true
 | _=>false
def wC:Value->Bool
 | .agg _=>true
 | _=>false
def y9(P:Program)(t:TypeId):Option TI :=
 match P.info? t,P.underlying t with
 | some i,some d =>
  match i.zero with
  | some z =>
   if (wC z==dM d)&&(z.cells.toList.all (·.oneCell')&&z.cells.size==i.size) then
    match d with
    | .struct fs=>if fs.toList.all (fun f=>((P.info? f.type).map (·.size)).getD 0 != 0) then
      some { agg:=true,size:=i.size,nb:=fs.toList.map fun f=>(f.offset,((P.info? f.type).map (·.size)).getD 0),aM:=0,br:=0,dS:=0,kC:=0,zero:=z.cells.toList.map ofConst,kind:=1,ik:=.i64,eqs:=aW P 6 t,n9:=fs.toList.map (·.type) } else none
    | .array n e=>match P.info? e with
     | some ie=>some { agg:=true,size:=i.size,nb:=[],aM:=e,br:=ie.size,dS:=ie.bytes,kC:=n,zero:=z.cells.toList.map ofConst,kind:=2,ik:=.i64,eqs:=aW P 6 t,n9:=[] }
     | none=>none
    | .slice e=>match P.info? e with
     | some ie=>match ie.zero with
      | some ze=>if ze.cells.size==ie.size&&ie.size != 0 then some { agg:=false,size:=i.size,nb:=[],aM:=e,br:=ie.size,dS:=ie.bytes,kC:=0,zero:=z.cells.toList.map ofConst,kind:=3,ik:=.i64,eqs:=aW P 6 t,n9:=[] } else none
      | none=>none
     | none=>none
    | .string=>some { agg:=false,size:=i.size,nb:=[],aM:=0,br:=0,dS:=0,kC:=0,zero:=z.cells.toList.map ofConst,kind:=4,ik:=.i64,eqs:=aW P 6 t,n9:=[] }
    | .int k=>some { agg:=false,size:=i.size,nb:=[],aM:=0,br:=0,dS:=0,kC:=0,zero:=z.cells.toList.map ofConst,kind:=5,ik:=k,eqs:=aW P 6 t,n9:=[] }
    | .bool=>some { agg:=false,size:=i.size,nb:=[],aM:=0,br:=0,dS:=0,kC:=0,zero:=z.cells.toList.map ofConst,kind:=6,ik:=.i64,eqs:=aW P 6 t,n9:=[] }
    | .map k e=>some { agg:=false,size:=i.size,nb:=[],aM:=e,br:=0,dS:=0,kC:=k,zero:=z.cells.toList.map ofConst,kind:=7,ik:=.i64,eqs:=aW P 6 t,n9:=[] }
    | .tuple _=>none
    | .named _ _=>none
    | .pointer _=>some { agg:=false,size:=i.size,nb:=[],aM:=0,br:=0,dS:=0,kC:=0,zero:=z.cells.toList.map ofConst,kind:=8,ik:=.i64,eqs:=aW P 6 t,n9:=[] }
    | .func _ _ _=>some { agg:=false,size:=i.size,nb:=[],aM:=0,br:=0,dS:=0,kC:=0,zero:=z.cells.toList.map ofConst,kind:=9,ik:=.i64,eqs:=aW P 6 t,n9:=[] }
    | _=>some { agg:=false,size:=i.size,nb:=[],aM:=0,br:=0,dS:=0,kC:=0,zero:=z.cells.toList.map ofConst,kind:=0,ik:=.i64,eqs:=aW P 6 t,n9:=[] }
   else none
  | none=>none
 | _,_=>none

def bo(P:Program)(tt:TT):Prop:=∀t ti,tt.lookup t=some ti->y9 P t=some ti
theorem bo.of_map{P:Program}{tt:TT}(h:tt.map (fun p=>y9 P p.1)=tt.map fun p=>some p.2):bo P tt:=by
 induction tt with
 | nil=>intro t ti h;cases h
 | cons p tt ih =>
  obtain⟨u,ui⟩:=p;simp only[List.map_cons,List.cons.injEq] at h;intro t ti hl;simp only[List.lookup_cons] at hl;split at hl
  ·rename_i he;cases hl;rw[eq_of_beq he];exact h.1
  ·exact ih h.2 t ti hl

def ev(s:List A):Operand->A
 | .tmp t=>s.getD t .ae
 | .const v=>ofConst v
 | .func f=>.fn f []
 | .global _=>.ae

section
variable {c:Ctx} {s:List A} {m:List aq} {a:Act} {w:World} {ids:dp} {P:Program}

theorem aF.ev(hs:aF c s m a w ids)(x:Operand):Rel ids (au c ids w) w (ev s x) (a.eval x):=by
 cases x with
 | tmp t =>
  show Rel ids _ w (s.getD t .ae) (a.tmps.getD t undef);by_cases h:t<s.length
  ·have h':t<a.tmps.size:=by rw[hs.len];exact h
   have:=hs.bE t h h';simpa[List.getD_eq_getElem?_getD,h,Array.getD_eq_getD_getElem?,h'] using this
  ·simp[List.getD_eq_getElem?_getD,List.getElem?_eq_none (Nat.le_of_not_lt h)];exact .aH (.ae _)
 | const v=>exact .aH (dT _ _ v)
 | global g=>exact .aH (.ae _)
 | func f=>exact .aH (.fn f [] [] rfl (fun j h=>absurd h (Nat.not_lt_zero _)))

theorem aF.put(hs:aF c s m a w ids)(d:Nat){x:A}{v:Value}(hv:Rel ids (au c ids w) w x v):aF c (s.set d x) m (a.put (some d) v) w ids where
 defers:=hs.defers
 len:=by simp[Act.put,hs.len]
 bE:=by
  intro i h h';simp only[List.length_set] at h;have h2:i<a.tmps.size:=by rw[hs.len];exact h
  simp only[Act.put] at h' ⊢;rw[List.getElem_set,Array.getElem_setIfInBounds (by simpa using h2)];split
  ·exact hv
  ·exact hs.bE i h h2
 aK:=hs.aK
 bu:=hs.bu
 ah:=hs.ah
 ar:=hs.ar
 frame:=hs.frame
 dL:=hs.dL
 cz:=hs.cz

def aZ(s:List A):Option Nat->A->List A
 | some d,x=>s.set d x
 | none,_=>s
theorem aF.aZ(hs:aF c s m a w ids)(d:Option Nat){x:A}{v:Value}(hv:Rel ids (au c ids w) w x v):aF c (aZ s d x) m (a.put d v) w ids:=by
 cases d with
 | none=>exact hs
 | some d=>exact hs.put d hv
theorem aQ{o:Oper}{next:Act->World->Prop}{Q:Exit->Act->World->Prop}{v:Value}{w':World}
  (h:(execOp a.eval o).run P w=.ok (.value v) w') (hn:next (a.put o.dst v) w'):o.wp P a w next Q:=by
 unfold Oper.wp;rw[h];exact hn
theorem gB{o:Oper}{next:Act->World->Prop}{Q:Exit->Act->World->Prop}{w':World}
  (h:(execOp a.eval o).run P w=.ok .skip w') (hn:next (a.put o.dst undef) w'):o.wp P a w next Q:=by
 unfold Oper.wp;rw[h];exact hn
end
section
variable {c:Ctx} {s:List A} {m:List aq} {a:Act} {w w':World} {ids ab:dp} {P:Program} {im bl:Nat->Prop}

theorem mO.mono(hi:∀b,im b->bl b)(hw:∀b,im b->w'.heap[b]?=w.heap[b]?){aM:TypeId}{sz n:Nat}{row:Nat->List A}{v:Value}{x:Option Nat}
  (hx:∀k,x=some k->w'.heap[k]?=w.heap[k]?) (h:mO im w aM sz n row v x):mO bl w' aM sz n row v x:=by
 rcases h with h|⟨q,cap,vs,h1,h2,h3,h4,h5,h6,h7,h8⟩
 ·exact .inl h
 ·exact .inr ⟨q,cap,vs,h1,h2,by rw[hx q h2];exact h3,h4,h5,h6,h7,fun i j cr h h'=>⟨(h8 i j cr h h').1.mono hi hw,(h8 i j cr h h').2⟩⟩

theorem Dq.up(hI:∀x v,aw im w x v->aw bl w' x v){agg:Bool}{sh:List KS}{has:List KC->Bool}{val:List KC->A}{r:Nat}(hr:w'.heap[r]?=w.heap[r]?)(h:Dq im w agg sh has val r):Dq bl w' agg sh has val r:=by
 obtain⟨es,clock,f,h1,h2,h3,h4,h5,h6⟩:=h;exact⟨es,clock,f,by rw[hr];exact h1,h2,h3,h4,fun i h=>hI _ _ (h5 i h),h6⟩
theorem lL(f:A->A){ty:TypeId}{agg:Bool}{sh:List KS}{n hi:Nat}{cs:List A}{jb:Nat->Nat}{has:Nat->List KC->Bool}{val:Nat->List KC->A}{p:Id}
  (hh:∀k,p.has k->w'.heap[k]?=w.heap[k]?) (hI:∀x v,aw im w x v->aw bl w' x v) (hf:∀x v,Rel ids im w x v->Rel ab bl w' (f x) v)
  (h:aV ids im w (.cF ty agg sh n hi cs jb has val) (.lv p)):aV ab bl w' (.cF ty agg sh n hi (cs.map f) jb has val) (.lv p):=by
 obtain⟨g1,g2,g3,vs,h1,h2,h3,h4,kb,h5⟩:=h;refine⟨g1,g2,g3,vs,by rw[hh _ (.inl rfl)];exact h1,h2,h3,fun j h h'=>?_,kb,fun i cr hv=>?_⟩
 ·rw[List.getElem_map];exact hf _ _ (h4 j (by simpa using h) h')
 ·obtain⟨k0,k1⟩:=h5 i cr hv;rw[List.length_map];refine⟨k0,fun hl=>⟨(k1 hl).1,fun e=>?_⟩⟩;obtain⟨q1,q2,q3,q4⟩:=(k1 hl).2 e;exact⟨q1,q2,q3.up hI (hh _ (.inr q2)),q4⟩
theorem pk{ty:TypeId}{agg:Bool}{sh:List KS}{n hi:Nat}{cs:List A}{jb:Nat->Nat}{has:Nat->List KC->Bool}{val:Nat->List KC->A}{p:Id}
  (hh:∀k,p.has k->w'.heap[k]?=w.heap[k]?) (hI:∀x v,aw im w x v->aw bl w' x v) (hf:∀x v,Rel ids im w x v->Rel ab bl w' x v)
  (h:aV ids im w (.cF ty agg sh n hi cs jb has val) (.lv p)):aV ab bl w' (.cF ty agg sh n hi cs jb has val) (.lv p):=by
 have:=lL id hh hI hf h;rw[List.map_id] at this;exact this
theorem aV.mono(hi:∀b,im b->bl b)(hw:∀b,im b->w'.heap[b]?=w.heap[b]?)(hd:∀(b:Nat) p,ids[b]?=some p->p≠.dead->ab[b]?=some p)
  {x:aq} {p:dH} (hp:∀q,p=.lv q->∀k,q.has k->w'.heap[k]?=w.heap[k]?) (h:aV ids im w x p):aV ab bl w' x p:=by
 cases x with
 | dead=>exact h
 | gone=>exact h
 | box ty cs =>
  cases p with
  | dead=>exact h
  | av=>exact h
  | aP=>exact h
  | cz vs=>exact h
  | lv q =>
   obtain⟨vs,h1,h2,h3,h4⟩:=h;exact⟨vs,by rw[hp _ rfl _ (.inl rfl)];exact h1,h2,h3,fun j h h'=>⟨(h4 j h h').1.mono hi hw hd,(h4 j h h').2⟩⟩
 | row ty sz n row =>
  cases p with
  | dead=>exact h
  | av=>exact h
  | aP=>exact h
  | cz vs=>exact h
  | lv q =>
   obtain⟨g1,g2,vs,h1,h2,h3,h4,h5⟩:=h;exact⟨g1,g2,vs,by rw[hp _ rfl _ (.inl rfl)];exact h1,h2,h3,h4,fun i j cr h h'=>⟨(h5 i j cr h h').1.mono hi hw,(h5 i j cr h h').2⟩⟩
 | nest ty aM sz n hole len row =>
  cases p with
  | dead=>exact h
  | av=>exact h
  | aP=>exact h
  | cz vs=>exact h
  | lv q =>
   obtain⟨g1,g2,g3,vs,h1,h2,h3,kb,h4⟩:=h;refine⟨g1,g2,g3,vs,by rw[hp _ rfl _ (.inl rfl)];exact h1,h2,h3,kb,fun i cr hh h=>?_⟩;obtain⟨k1,k2,k3⟩:=h4 i cr hh h;exact⟨k1.mono hi hw (fun x hx=>hp _ rfl _ (.inr (k2 x hx))),k2,k3⟩
 | ez agg sh has val =>
  cases p with
  | dead=>exact h
  | av=>exact h
  | aP=>exact h
  | cz vs=>exact h
  | lv q =>
   obtain⟨es,clock,f,h1,h2,h3,h4,h5,h6⟩:=h;exact⟨es,clock,f,by rw[hp _ rfl _ (.inl rfl)];exact h1,h2,h3,h4,fun i h=>(h5 i h).mono hi hw,h6⟩
 | n0 agg sh has val =>
  cases p with
  | dead=>exact h
  | av=>exact h
  | aP=>exact h
  | cz vs=>exact h
  | lv q =>
   obtain⟨es,clock,f,h1,h2,h3,h4,h5,h6⟩:=h;exact⟨es,clock,f,by rw[hp _ rfl _ (.inl rfl)];exact h1,h2,h3,h4,fun i h=>(h5 i h).mono hi hw,h6⟩
 | E2 agg sh has val seen =>
  cases p with
  | dead=>exact h
  | av=>exact h
  | aP=>exact h
  | cz vs=>exact h
  | lv q =>
   obtain⟨r,es,clock,f,sb,h1,h2,h3,h4,h5,h6,h7,h8⟩:=h;exact⟨r,es,clock,f,sb,by rw[hp _ rfl _ (.inl rfl)];exact h1,hi _ h2,by rw[hw _ h2];exact h3,h4,h5,h6,fun i h=>(h7 i h).mono hi hw,h8⟩
 | cF ty agg sh n dI cs jb has val =>
  cases p with
  | dead=>exact h
  | av=>exact h
  | aP=>exact h
  | cz vs=>exact h
  | lv q=>exact pk (hp _ rfl) (fun _ _ h=>h.mono hi hw) (fun _ _ h=>h.mono hi hw hd) h
 | bC ty sz n Φ =>
  cases p with
  | dead=>exact h
  | av=>exact h
  | aP=>exact h
  | cz vs=>exact h
  | lv q =>
   obtain⟨row,h0,g1,g2,vs,h1,h2,h3,h4,h5⟩:=h;exact⟨row,h0,g1,g2,vs,by rw[hp _ rfl _ (.inl rfl)];exact h1,h2,h3,h4,fun i j cr h h'=>⟨(h5 i j cr h h').1.mono hi hw,(h5 i j cr h h').2⟩⟩
 | ghost cs =>
  cases p with
  | dead=>exact h
  | av=>exact h
  | aP=>exact h
  | lv q=>exact h
  | cz vs=>exact⟨h.1,fun j h1 h2=>(h.2 j h1 h2).mono hi hw hd⟩

theorem cw(hs:aF c s m a w ids){b:Nat}(h:au c ids w b):b<w.heap.size:=by
 rcases h with h|⟨_,h,_⟩
 ·exact Nat.lt_of_lt_of_le (hs.dL b h).1 hs.frame.size
 ·exact h

theorem aF.grow(hs:aF c s m a w ids)(hw:Bw w.heap.size w w')(bs:List aq)(js:dp)(hl:js.length=bs.length)
  (hb:∀i (h:i<bs.length) (h':i<js.length),aV (ids++js) (au c (ids++js) w') w' bs[i] js[i])
  (hf:∀p,dH.lv p∈js->∀x,p.has x->w.heap.size<=x/\x<w'.heap.size)
  (hg:∀vs,dH.cz vs∉js)
  (hd:∀(i j:Nat) p q x,js[i]?=some (.lv p)->js[j]?=some (.lv q)->p.has x->q.has x->i=j):aF c s (m++bs) a w' (ids++js):=by
 have hi:∀b,au c ids w b->au c (ids++js) w' b:=by
  intro b h;rcases h with h|⟨h1,h2,h3⟩
  ·exact .inl h
  ·refine .inr ⟨h1,Nat.lt_of_lt_of_le h2 hw.size,fun p hp=>?_⟩;rcases List.mem_append.1 hp with hp|hp
   ·exact h3 p hp
   ·intro hx;have:=(hf p hp b hx).1;omega
 have hh:∀b,au c ids w b->w'.heap[b]?=w.heap[b]?:=fun b h=>hw.block b (cw hs h)
 have hx:∀(b:Nat) p,ids[b]?=some p->p≠.dead->(ids++js)[b]?=some p:=by
  intro b p h _
  have:b<ids.length:=by
   rcases Nat.lt_or_ge b ids.length with h'|h'
   ·exact h'
   ·rw[List.getElem?_eq_none h'] at h;cases h
  rw[List.getElem?_append_left this];exact h
 refine⟨hs.defers,hs.len,fun i h h'=>(hs.bE i h h').mono hi hh hx,by simp[hs.aK,hl],?_,?_,?_,?_,hs.dL,?_⟩
 ·intro b h h';by_cases aI:b<m.length
  ·have h1:b<ids.length:=by rw[hs.aK];exact aI
   rw[List.getElem_append_left aI,List.getElem_append_left h1];refine(hs.bu b aI h1).mono hi hh hx ?_;intro q hq k hk;exact hw.block _ (hs.ar q (by rw[<-hq];exact List.getElem_mem _) k hk).2
  ·have h1:ids.length<=b:=by rw[hs.aK];omega
   rw[List.getElem_append_right (by omega),List.getElem_append_right h1];have:=hb (b-m.length) (by simp at h;omega) (by simp at h';rw[hs.aK] at h';omega);have he:b-ids.length=b-m.length:=by rw[hs.aK]
   simpa only[he] using this
 ·intro i j p q x h1 h2 h3 Dt;rcases Nat.lt_or_ge i ids.length with cr|cr<;>rcases Nat.lt_or_ge j ids.length with bW|bW
  ·rw[List.getElem?_append_left cr] at h1;rw[List.getElem?_append_left bW] at h2;exact hs.ah i j p q x h1 h2 h3 Dt
  ·rw[List.getElem?_append_left cr] at h1;rw[List.getElem?_append_right bW] at h2;have a1:=(hs.ar p (List.mem_of_getElem? h1) x h3).2;have a2:=(hf q (List.mem_of_getElem? h2) x Dt).1;omega
  ·rw[List.getElem?_append_right cr] at h1;rw[List.getElem?_append_left bW] at h2;have a1:=(hs.ar q (List.mem_of_getElem? h2) x Dt).2;have a2:=(hf p (List.mem_of_getElem? h1) x h3).1;omega
  ·rw[List.getElem?_append_right cr] at h1;rw[List.getElem?_append_right bW] at h2;have:=hd _ _ p q x h1 h2 h3 Dt;omega
 ·intro p hp x hx;rcases List.mem_append.1 hp with hp|hp
  ·have:=hs.ar p hp x hx;exact⟨this.1,Nat.lt_of_lt_of_le this.2 hw.size⟩
  ·have:=hf p hp x hx;exact⟨.inl (Nat.le_trans hs.frame.size this.1),this.2⟩
 ·exact hs.frame.trans (hw.mono hs.frame.size)
 ·intro vs h;rcases List.mem_append.1 h with h|h
  ·exact hs.cz vs h
  ·exact absurd h (hg vs)

/-- A world that only counts draws, and nothing of ours. -/
theorem aF.same(hs:aF c s m a w ids)(hw:Bw w.heap.size w w'):aF c s m a w' ids:=by
 have:=hs.grow hw [] [] rfl (fun i h=>absurd h (Nat.not_lt_zero _)) (fun p h=>by cases h) (fun vs h=>by cases h) (fun i j p q x h=>by simp at h);simpa using this

theorem je(w:World)(o:Obj):Bw w.heap.size w (w.alloc o):=by
 have h:=(Below.refl w.heap.size w).alloc (Nat.le_refl _) o;exact⟨h.os,h.tape,h.output,h.size,h.block,en.refl _⟩
/-- A new block of cells. -/
theorem aF.alloc(hs:aF c s m a w ids)(x:aq)(vs:Array Value)(ty:TypeId)(n sz:Nat)
  (hx:∀ab bl w',(∀b,au c ids w b->bl b)->(∀b,au c ids w b->w'.heap[b]?=w.heap[b]?)->(∀(b:Nat) p,ids[b]?=some p->p≠.dead->ab[b]?=some p) ->
   w'.heap[w.heap.size]?=some (.cells vs ty (0,0))->aV ab bl w' x (.lv (mkId w.heap.size vs.size n sz))) :
  aF c s (m++[x]) a (w.alloc (.cells vs ty)) (ids++[.lv (mkId w.heap.size vs.size n sz)]):=by
 have hb:=je w (.cells vs ty);refine hs.grow hb [x] [.lv (mkId w.heap.size vs.size n sz)] rfl ?_ ?_ (fun vs h=>by simp at h) ?_
 ·intro i h h';have:i=0:=by simp at h;omega
  subst this;refine hx _ _ _ ?_ ?_ ?_ ?_
  ·intro b h;have aI:=cw hs h;rcases h with h|⟨h1,h2,h3⟩
   ·exact .inl h
   ·refine .inr ⟨h1,Nat.lt_of_lt_of_le h2 hb.size,fun p hp=>?_⟩;rcases List.mem_append.1 hp with hp|hp
    ·exact h3 p hp
    ·simp at hp;subst hp;intro hx;have:=cg hx;omega
  ·exact fun b h=>hb.block b (cw hs h)
  ·intro b p h _
   have:b<ids.length:=by
    rcases Nat.lt_or_ge b ids.length with h'|h'
    ·exact h'
    ·rw[List.getElem?_eq_none h'] at h;cases h
   rw[List.getElem?_append_left this];exact h
  ·show(w.heap.push _)[w.heap.size]?=_;simp
 ·intro p hp x hx;simp at hp;subst hp;have:=cg hx;subst this;show w.heap.size<=w.heap.size/\w.heap.size<(w.heap.push _).size;simp
 ·intro i j p q x h1 h2 h3 Dt
  have e1:i=0:=by
   rcases Nat.eq_zero_or_pos i with h|h
   ·exact h
   ·rw[List.getElem?_eq_none (by simp;omega)] at h1;cases h1
  have e2:j=0:=by
   rcases Nat.eq_zero_or_pos j with h|h
   ·exact h
   ·rw[List.getElem?_eq_none (by simp;omega)] at h2;cases h2
  omega
end
section
variable {c:Ctx} {s:List A} {m:List aq} {a:Act} {w w':World} {ids ab:dp} {P:Program} {im bl:Nat->Prop}

/-- A block of ours is written. -/
theorem aF.setRow(hs:aF c s m a w ids)(b:Nat)(p:Id)(bQ:ids[b]?=some (.lv p))(x:aq)(I3 vs:Array Value)(ty:TypeId)
  (hold:w.heap[p.ao]?=some (.cells I3 ty (0,0)))
  (hx:(w.setRow p.ao vs).heap[p.ao]?=some (.cells vs ty (0,0))->(∀a v,Rel ids (au c ids w) w a v->Rel ids (au c ids (w.setRow p.ao vs)) (w.setRow p.ao vs) a v) ->
   (∀a v,aw (au c ids w) w a v->aw (au c ids (w.setRow p.ao vs)) (w.setRow p.ao vs) a v) ->
   aV ids (au c ids (w.setRow p.ao vs)) (w.setRow p.ao vs) x (.lv p)) :
  aF c s (m.set b x) a (w.setRow p.ao vs) ids:=by
 have bM:(w.setRow p.ao vs).heap.size=w.heap.size:=by simp[World.setRow]
 have jn:dH.lv p∈ids:=List.mem_of_getElem? bQ;have E3:=hs.fresh _ jn
 have UP:∀b',au c ids w b'->b'≠p.ao:=by
  intro b' h;rcases h with h|⟨_,_,h3⟩
  ·rintro rfl;exact hs.oM h E3.1
  ·exact fun e=>h3 _ jn (.inl e)
 have uc:∀b',au c ids w b'->au c ids (w.setRow p.ao vs) b':=by
  intro b' h;rcases h with h|⟨h1,h2,h3⟩
  ·exact .inl h
  ·exact .inr ⟨h1,by rw[bM];exact h2,h3⟩
 have hh:∀b',au c ids w b'->(w.setRow p.ao vs).heap[b']?=w.heap[b']?:=fun b' h=>setRow_other w p.ao b' vs (UP b' h)
 have hrel:∀a v,Rel ids (au c ids w) w a v->Rel ids (au c ids (w.setRow p.ao vs)) (w.setRow p.ao vs) a v :=
  fun a v h=>h.mono uc hh (fun _ _ h _=>h)
 refine⟨hs.defers,hs.len,fun i h h'=>hrel _ _ (hs.bE i h h'),by simp[hs.aK],?_,hs.ah,?_,?_,hs.dL,hs.cz⟩
 ·intro i h h';simp only[List.length_set] at h;rw[List.getElem_set];split
  ·rename_i he;subst he
   have:ids[b]=.lv p:=by
    rw[List.getElem?_eq_getElem h'] at bQ;exact Option.some.inj bQ
   rw[this];exact hx (setRow_heap w p.ao I3 vs ty _ hold) hrel (fun a v h=>h.mono uc hh)
  ·rename_i he;refine(hs.bu i h h').mono uc hh (fun _ _ h _=>h) ?_;intro q hq k hk;refine setRow_other w p.ao _ vs ?_;intro e;exact he (hs.ah b i p q k bQ (by rw[List.getElem?_eq_getElem h',hq]) (.inl e) hk)
 ·intro p' hp x hx;rw[bM];exact hs.ar p' hp x hx
 ·refine hs.frame.go rfl rfl rfl (by rw[bM];exact Nat.le_refl _) (fun k hk hm=>setRow_other w p.ao k vs ?_);rintro rfl;rcases E3.1 with h|h
  ·omega
  ·exact hm h

theorem aF.dU(hs:aF c s m a w ids){b:Nat}{p:Id}(bQ:ids[b]?=some (.lv p)):∃x,m[b]?=some x/\aV ids (au c ids w) w x (.lv p):=by
 have h:b<ids.length:=by
  rcases Nat.lt_or_ge b ids.length with h'|h'
  ·exact h'
  ·rw[List.getElem?_eq_none h'] at bQ;cases bQ
 have h2:b<m.length:=by rw[<-hs.aK];exact h
 refine⟨m[b],List.getElem?_eq_getElem h2,?_⟩;have:=hs.bu b h2 h;rw[List.getElem?_eq_getElem h] at bQ;rw[<-Option.some.inj bQ];exact this
end
def fv(a:A)(K:A->Prop):Prop :=
 match a with
 | .int k n=>K (.int k n)
 | .bool b=>K (.bool b)
 | .sb b=>K (.sb b)
 | .str s=>K (.str s)
 | .gk=>K .gk
 | .ref b o=>K (.ref b o)
 | .oref b i o=>K (.oref b i o)
 | .bref c o=>K (.bref c o)
 | .aR=>K .aR
 | .sl n z r=>K (.sl n z r)
 | .own b=>K (.own b)
 | .agg c=>K (.agg c)
 | .tup c=>K (.tup c)
 | .fn f c=>K (.fn f c)
 | .bz=>K .bz
 | .fF=>K .fF
 | .mv g n k v=>K (.mv g n k v)
 | .omap b=>K (.omap b)
 | .qc b k=>K (.qc b k)
 | .mF b k=>K (.mF b k)
 | .ae=>K .ae
theorem db(a:A)(K:A->Prop):fv a K=K a:=by cases a<;>rfl
def fl:List A->(List A->Prop)->Prop
 | [],K=>K []
 | a::as,K=>fv a fun a'=>fl as fun iO=>K (a'::iO)
theorem ck:∀(l:List A) (K:List A->Prop),fl l K=K l
 | [],_=>rfl
 | a::as,K=>by simp only[fl,db,ck as]
def wD:List A->Nat->A->(List A->Prop)->Prop
 | [],_,_,K=>K []
 | _::xs,0,v,K=>K (v::xs)
 | x::xs,i+1,v,K=>wD xs i v fun ys=>K (x::ys)
theorem kD:∀(l:List A) (i:Nat) (v:A) (K:List A->Prop),wD l i v K=K (l.set i v)
 | [],_,_,_=>rfl
 | _::_,0,_,_=>rfl
 | x::xs,i+1,v,K=>by simp only[wD,kD xs,List.set_cons_succ]
def pn:List aq->Nat->aq->(List aq->Prop)->Prop
 | [],_,_,K=>K []
 | _::xs,0,v,K=>K (v::xs)
 | x::xs,i+1,v,K=>pn xs i v fun ys=>K (x::ys)
theorem eC:∀(l:List aq) (i:Nat) (v:aq) (K:List aq->Prop),pn l i v K=K (l.set i v)
 | [],_,_,_=>rfl
 | _::_,0,_,_=>rfl
 | x::xs,i+1,v,K=>by simp only[pn,eC xs,List.set_cons_succ]
def E4:List aq->aq->(List aq->Prop)->Prop
 | [],v,K=>K [v]
 | x::xs,v,K=>E4 xs v fun ys=>K (x::ys)
theorem rp:∀(l:List aq) (v:aq) (K:List aq->Prop),E4 l v K=K (l++[v])
 | [],_,_=>rfl
 | x::xs,v,K=>by simp only[E4,rp xs,List.cons_append]
def dj(n:Nat)(K:Nat->Prop):Prop :=
 match n with
 | 0=>K 0|1=>K 1|2=>K 2|3=>K 3|4=>K 4|5=>K 5|6=>K 6|7=>K 7|8=>K 8|9=>K 9
 | 10=>K 10|11=>K 11|12=>K 12|13=>K 13|14=>K 14|15=>K 15|16=>K 16|17=>K 17|18=>K 18|19=>K 19
 | n+20=>K (n+20)
theorem aN(n:Nat)(K:Nat->Prop):dj n K=K n:=by
 unfold dj;split<;>rfl
def kZ(m:List aq)(x:aq)(K:Nat->List aq->Prop):Prop:=dj m.length fun n=>E4 m x fun m'=>K n m'
theorem eQ(m:List aq)(x:aq)(K:Nat->List aq->Prop):kZ m x K=K m.length (m++[x]):=by
 simp only[kZ,aN,rp]
def fT:Nat->List A->List A
 | 0,_=>[]
 | _,[]=>[]
 | n+1,x::xs=>x::fT n xs
theorem jR:∀(n:Nat) (l:List A),fT n l=l.take n
 | 0,l=>by simp[fT]
 | n+1,[]=>by simp[fT]
 | n+1,x::xs=>by simp[fT,jR n xs]

/-- One cell: neither parts nor a value of which nothing is known. -/
def one:A->Bool
 | .agg _=>false
 | .tup _=>false
 | .ae=>false
 | _=>true
/-- The cells of a value. -/
def kE:A->Option (List A)
 | .agg cs=>some cs
 | .tup _=>none
 | .ae=>none
 | v=>some [v]

def cE:Nat->A->Bool
 | 0,_=>true
 | d+1,x=>match x with
  | .ref _ _=>true
  | .oref _ _ _=>true
  | .own _=>true
  | .omap _=>true
  | .qc _ _=>true
  | .mF _ _=>true
  | .agg cs=>cs.any (cE d)
  | .tup cs=>cs.any (cE d)
  | .fn _ cs=>cs.any (cE d)
  | _=>false

abbrev KT:=A->List aq->Prop

def I4(agg:Bool)(size:Nat)(cs:List A)(off:Nat)(K:A->Prop):Prop :=
 match agg with
 | true=>match Nat.ble (off+size) cs.length with
  | true=>fl (fT size (cs.drop off)) fun c=>K (.agg c)
  | false=>False
 | false=>match Nat.blt off cs.length with
  | true=>fv (cs.getD off .ae) K
  | false=>False
def qe(cs:List A)(off:Nat)(vs:List A):List A:=cs.take off++vs++cs.drop (off+vs.length)
def ju(row:Nat->List A)(i:Nat)(cs:List A):Nat->List A:=fun j=>if j=i then cs else row j
def Kd(size:Nat)(cs:List A)(off:Nat)(v:A)(K:List A->Prop):Prop :=
 match kE v with
 | some vs=>match Nat.beq vs.length size,Nat.ble (off+size) cs.length with
  | true,true=>fl (qe cs off vs) K
  | _,_=>False
 | none=>False

def k9(tt:TT)(t:TypeId)(p:A)(m:List aq)(K:KT):Prop :=
 match tt.lookup t with
 | none=>False
 | some ti=>match p with
  | .ref b off=>match m.getD b .dead with
   | .box _ cs=>I4 ti.agg ti.size cs off fun v=>K v m
   | _=>False
  | .oref b i off=>match m.getD b .dead with
   | .row _ _ n row=>i<n/\fl (row i) fun cs=>I4 ti.agg ti.size cs off fun v=>K v m
   | _=>False
  | .bref cs off=>I4 ti.agg ti.size cs off fun v=>K v m
  | _=>False
def s8(tt:TT)(t:TypeId)(p v:A)(m:List aq)(K:KT):Prop :=
 match tt.lookup t with
 | none=>False
 | some ti=>match p with
  | .ref b off=>match m.getD b .dead with
   | .box ty cs=>Kd ti.size cs off v fun dc=>pn m b (.box ty dc) fun m'=>K .ae m'
   | _=>False
  | .oref b i off=>match m.getD b .dead with
   | .row ty sz n row=>match cE 4 v with
    | false=>i<n/\fl (row i) fun cs=>Kd ti.size cs off v fun dc=>pn m b (.row ty sz n (ju row i dc)) fun m'=>K .ae m'
    | true=>False
   | _=>False
  | _=>False
def gC(tt:TT)(t:TypeId)(p:A)(f:Nat)(m:List aq)(K:KT):Prop :=
 match tt.lookup t with
 | none=>False
 | some ti=>match ti.kind with
  | 1=>match ti.nb[f]? with
   | none=>False
   | some (fo,_)=>match p with
    | .ref b off=>dj (off+fo) fun o=>K (.ref b o) m
    | .oref b i off=>dj (off+fo) fun o=>K (.oref b i o) m
    | .bref cs off=>dj (off+fo) fun o=>K (.bref cs o) m
    | _=>False
  | _=>False
def dV(tt:TT)(t:TypeId)(p ix:A)(m:List aq)(K:KT):Prop :=
 match tt.lookup t with
 | none=>False
 | some ti=>match ti.kind,ix with
  | 3,.int _ i=>match p with
   | .sl n sz row=>match Nat.beq sz ti.br with
    | true=>(0<=i/\i<(n:Int))/\fl (row i.toNat) fun cs=>K (.bref cs 0) m
    | false=>False
   | .own b=>match m.getD b .dead with
    | .row _ sz n _=>match Nat.beq sz ti.br with
     | true=>(0<=i/\i<(n:Int))/\K (.oref b i.toNat 0) m
     | false=>False
    | _=>False
   | _=>False
  | 2,.int _ i=>match p with
   | .ref b off=>(0<=i/\i<(ti.kC:Int))/\dj (off+i.toNat*ti.br) fun o=>K (.ref b o) m
   | .bref cs off=>(0<=i/\i<(ti.kC:Int))/\dj (off+i.toNat*ti.br) fun o=>K (.bref cs o) m
   | _=>False
  | _,_=>False
def placeOf(ti:TI)(i:Nat):Option (Nat×Nat) :=
 match ti.kind with
 | 1=>ti.nb[i]?
 | _=>some (i*ti.br,ti.br)
def nc(ti:TI):List (Nat×A)->List A->(List A->Prop)->Prop
 | [],cs,K=>K cs
 | (i,v)::ps,cs,K=>match placeOf ti i,kE v with
  | some (off,size),some vs=>match Nat.beq vs.length size,Nat.ble (off+size) cs.length with
   | true,true=>fl (qe cs off vs) fun dc=>nc ti ps dc K
   | _,_=>False
  | _,_=>False
def po(tt:TT)(t:TypeId)(parts:List (Nat×A))(m:List aq)(K:KT):Prop :=
 match tt.lookup t with
 | none=>False
 | some ti=>match ti.kind with
  | 1=>nc ti parts ti.zero fun cs=>K (.agg cs) m
  | 2=>nc ti parts ti.zero fun cs=>K (.agg cs) m
  | _=>False
def PD(t:TypeId)(v:A)(m:List aq)(K:KT):Prop :=
 match kE v with
 | some cs=>kZ m (.box t cs) fun b m'=>K (.ref b 0) m'
 | none=>False
def BA(tt:TT)(t:TypeId)(m:List aq)(K:KT):Prop :=
 match tt.lookup t with
 | some ti=>kZ m (.box t ti.zero) fun b m'=>K (.ref b 0) m'
 | none=>False
/-- A number that is wrapped, unless it is known to fit. -/
@[irreducible] def WR (k:IntKind) (n:Int) (K:A->Prop):Prop:=(k.wrap n=n/\K (.int k n))\/K (.int k (k.wrap n))
theorem lM{k:IntKind}{n:Int}{K:A->Prop}(h:WR k n K):K (.int k (k.wrap n)):=by
 unfold WR at h;rcases h with⟨h1,h2⟩|h
 ·rw[h1];exact h2
 ·exact h
theorem cM{k:IntKind}{n:Int}{K:A->Prop}(h1:k.wrap n=n)(h2:K (.int k n)):WR k n K:=by unfold WR;exact .inl ⟨h1,h2⟩
theorem b9{k:IntKind}{n:Int}{K:A->Prop}(h:K (.int k (k.wrap n))):WR k n K:=by unfold WR;exact .inr h
theorem cN{n:Int}(h : -9223372036854775808<=n/\n<=9223372036854775807):IntKind.i64.wrap n=n:=by rw[IntKind.wrap_i64];omega
theorem cO{n:Int}(h:0<=n/\n<=18446744073709551615):IntKind.u64.wrap n=n:=by rw[IntKind.wrap_u64];omega
theorem eG{n:Int}(h:0<=n/\n<=255):IntKind.u8.wrap n=n:=by rw[IntKind.wrap_u8];omega
def oa(op:BinOp)(k:IntKind)(a b:Int)(K:A->Prop):Prop :=
 match op with
 | .add=>WR k (a+b) K
 | .sub=>WR k (a-b) K
 | .mul=>WR k (a*b) K
 | .quo=>b≠0/\WR k (a.tdiv b) K
 | .rem=>b≠0/\K (.int k (a.tmod b))
 | .and=>K (.int k (k.wrap (BitVec.ofInt k.bits a &&& BitVec.ofInt k.bits b).toNat))
 | .or=>K (.int k (k.wrap (BitVec.ofInt k.bits a ||| BitVec.ofInt k.bits b).toNat))
 | .xor=>K (.int k (k.wrap (BitVec.ofInt k.bits a ^^^ BitVec.ofInt k.bits b).toNat))
 | .andNot=>K (.int k (k.wrap (BitVec.ofInt k.bits a &&& ~~~BitVec.ofInt k.bits b).toNat))
 | .eql=>K (.sb (a==b))
 | .neq=>K (.sb (a != b))
 | .lss=>K (.sb (decide (a<b)))
 | .leq=>K (.sb (decide (a<=b)))
 | .gtr=>K (.sb (decide (b<a)))
 | .geq=>K (.sb (decide (b<=a)))
 | _=>False
def od(op:BinOp)(a b:List UInt8)(K:A->Prop):Prop :=
 match op with
 | .add=>a.length+b.length<=9223372036854775807/\K (.str (a++b))
 | .eql=>K (.sb (a==b))
 | .neq=>K (.sb !(a==b))
 | .lss=>K (.sb (Op.bytesLess a b))
 | .leq=>K (.sb (Op.bytesLess a b||a==b))
 | .gtr=>K (.sb !(Op.bytesLess a b||a==b))
 | .geq=>K (.sb !(Op.bytesLess a b))
 | _=>False
def s9(op:BinOp)(k:IntKind)(a b:Int)(K:A->Prop):Prop :=
 match op with
 | .shl=>0<=b/\WR k (a*2 ^ (min b.toNat k.bits)) K
 | .shr=>0<=b/\K (.int k (a.fdiv (2 ^ (min b.toNat k.bits))))
 | _=>False
def LV:BinOp->Bool
 | .shl=>true
 | .shr=>true
 | _=>false
def lN:IntKind->IntKind->Bool
 | .i8,.i8=>true|.i16,.i16=>true|.i32,.i32=>true|.i64,.i64=>true
 | .u8,.u8=>true|.u16,.u16=>true|.u32,.u32=>true|.u64,.u64=>true
 | _,_=>false
theorem iP{a b:IntKind}:lN a b=true↔a=b:=by cases a<;>cases b<;>simp[lN]
def Nh:A->Option Bool
 | .bool b=>some b
 | .sb b=>some b
 | _=>none
def xw:List Nat->List A->List A->(Bool->Prop)->Prop
 | [],[],[],K=>K true
 | k::ks,x::xs,y::ys,K=>match k with
  | 5=>match x,y with
   | .int p a,.int q b=>match lN p q with
    | true=>xw ks xs ys fun r=>K (a==b&&r)
    | false=>False
   | _,_=>False
  | 6=>match Nh x,Nh y with
   | some a,some b=>xw ks xs ys fun r=>K (a==b&&r)
   | _,_=>False
  | 4=>match x,y with
   | .str a,.str b=>xw ks xs ys fun r=>K (a==b&&r)
   | _,_=>False
  | _=>False
 | _,_,_,_=>False
/-- Is a pointer, or a map, nil? The type's kind, and the answer. -/
def PE:A->A->Option (Nat×Bool)
 | .gk,.gk=>some (8,true)
 | .ref _ _,.gk=>some (8,false)
 | .oref _ _ _,.gk=>some (8,false)
 | .bref _ _,.gk=>some (8,false)
 | .fF,.fF=>some (7,true)
 | .omap _,.fF=>some (7,false)
 | .mv _ _ _ _,.fF=>some (7,false)
 | .bz,.bz=>some (9,true)
 | .fn _ _,.bz=>some (9,false)
 | _,_=>none
def I5(tt:TT)(t:TypeId)(op:BinOp)(x y:A)(K:A->Prop):Prop :=
 match x,y with
 | .int k a,.int k' b=>match LV op with
  | true=>s9 op k a b K
  | false=>match lN k k' with
   | true=>oa op k a b K
   | false=>False
 | .str a,.str b=>od op a b K
 | .agg cs,.agg dc=>match tt.lookup t with
  | some ti=>match ti.agg,ti.eqs,op with
   | true,some sh,.eql=>xw sh cs dc fun r=>K (.sb r)
   | true,some sh,.neq=>xw sh cs dc fun r=>K (.sb !r)
   | _,_,_=>False
  | none=>False
 | x,y=>match PE x y with
  | some (k,b)=>match tt.lookup t with
   | some ti=>match Nat.beq ti.kind k,op with
    | true,.eql=>K (.bool b)
    | true,.neq=>K (.bool !b)
    | _,_=>False
   | none=>False
  | none=>match Nh x,Nh y,tt.lookup t with
   | some a,some b,some ti=>match ti.kind,op with
    | 6,.eql=>K (.sb (a==b))
    | 6,.neq=>K (.sb !(a==b))
    | _,_=>False
   | _,_,_=>False
def Sq(op:UnOp)(x:A)(K:A->Prop):Prop :=
 match op,x with
 | .not,.bool b=>K (.bool !b)
 | .not,.sb b=>K (.sb !b)
 | .neg,.int k n=>WR k (-n) K
 | _,_=>False
def TB(x y:A)(K:A->Prop):Prop :=
 match x,y with
 | .int k a,.int _ b=>K (.int k (if b<a then b else a))
 | _,_=>False
def TC(x y:A)(K:A->Prop):Prop :=
 match x,y with
 | .int k a,.int _ b=>K (.int k (if a<b then b else a))
 | _,_=>False
def za(tt:TT)(t:TypeId)(x:A)(m:List aq)(K:A->Prop):Prop :=
 match tt.lookup t with
 | none=>False
 | some ti=>match ti.kind,x with
  | 3,.sl n _ _=>K (.int .i64 n)
  | 3,.own b=>match m.getD b .dead with
   | .row _ _ n _=>K (.int .i64 n)
   | _=>False
  | 3,.aR=>K (.int .i64 0)
  | 4,.str s=>K (.int .i64 s.length)
  | _,_=>False
def lO(x:A)(ix:Nat)(K:A->Prop):Prop :=
 match x with
 | .tup vs=>match Nat.blt ix vs.length with
  | true=>fv (vs.getD ix .ae) K
  | false=>False
 | _=>False
def I6(x:A)(K:A->Prop):Prop :=
 match x with
 | .ref b o=>K (.ref b o)
 | .oref b i o=>K (.oref b i o)
 | .bref cs o=>K (.bref cs o)
 | .fn f cs=>K (.fn f cs)
 | _=>False
def WB(k:IntKind)(K:IntKind->Prop):Prop :=
 match k with
 | .i8=>K .i8|.i16=>K .i16|.i32=>K .i32|.i64=>K .i64
 | .u8=>K .u8|.u16=>K .u16|.u32=>K .u32|.u64=>K .u64
theorem I7(k:IntKind)(K:IntKind->Prop):WB k K=K k:=by cases k<;>rfl
def uX(tt:TT)(src dst:TypeId)(x:A)(K:A->Prop):Prop :=
 match tt.lookup src,tt.lookup dst with
 | some _,some ti=>match ti.kind,x with
  | 5,.int _ n=>WB ti.ik fun k=>WR k n K
  | 4,.str s=>K (.str s)
  | _,_=>False
 | _,_=>False
def ta(tt:TT)(t:TypeId)(x ix:A)(K:A->Prop):Prop :=
 match tt.lookup t,ix with
 | some ti,.int _ i=>match ti.kind,x with
  | 4,.str s=>(0<=i/\i<(s.length:Int))/\K (.int .u8 ((s.getD i.toNat 0).toNat:Int))
  | 2,.agg cs=>match tt.lookup ti.aM with
   | some te=>(0<=i/\i<(ti.kC:Int))/\I4 te.agg te.size cs (i.toNat*ti.br) K
   | none=>False
  | _,_=>False
 | _,_=>False
def tc(tt:TT)(t:TypeId)(x:A)(f:Nat)(K:A->Prop):Prop :=
 match tt.lookup t with
 | none=>False
 | some ti=>match ti.kind,ti.nb[f]?,ti.n9[f]?,x with
  | 1,some (fo,_),some ft,.agg cs=>match tt.lookup ft with
   | some te=>I4 te.agg te.size cs fo K
   | none=>False
  | _,_,_,_=>False
def zc(x y z:A)(K:A->Prop):Prop :=
 match x with
 | .bool true=>fv y K
 | .bool false=>fv z K
 | .sb b=>(b=true->fv y K)/\(b=false->fv z K)
 | _=>False
section
variable {c:Ctx} {s:List A} {m:List aq} {a:Act} {w w':World} {ids ab:dp} {P:Program} {im bl:Nat->Prop} {tt:TT}
variable {next:Act->World->Prop} {Q:Exit->Act->World->Prop}

theorem BB{op:BinOp}{k:IntKind}{x y:Int}{t t':TypeId}{X Y:Operand}{o:Oper}{ρ:Operand->Value}(ho:o.op=.binOp op t X Y t')(hx:ρ X=.int k x)(hy:ρ Y=.int k y){K:A->Prop}
  (h:oa op k x y K):∃r v,(execOp ρ o).run P w=.ok (.value v) w/\K r/\Rel ids im w r v:=by
 have e1:(execOp ρ o)=(do let z <-(do eqGuard op t X Y (.int k x) (.int k y);binOp op t (.int k x) (.int k y));pure (.value z)):=by
  unfold execOp;rw[ho];simp only[hx,hy]
 have e2:(eqGuard op t X Y (.int k x) (.int k y)).run P w=.ok () w:=by
  unfold eqGuard;cases op<;>rfl
 rw[e1];cases op<;>simp only[oa] at h<;>first|exact h.elim|skip
 case quo =>
  refine⟨_,.int k (k.wrap (x.tdiv y)),?_,lM h.2,.aH (.int _ _)⟩;simp[e2,binOp,Op.intDiv,h.1]
 case rem =>
  refine⟨_,.int k (x.tmod y),?_,h.2,.aH (.int _ _)⟩;simp[e2,binOp,Op.intDiv,h.1]
 case eql=>exact⟨_,.bool (x==y),by simp[e2,binOp,Op.intCmp],h,.aH (.sb _)⟩
 case neq=>exact⟨_,.bool (x != y),by simp[e2,binOp,Op.intCmp],h,.aH (.sb _)⟩
 case lss=>exact⟨_,.bool (decide (x<y)),by simp[e2,binOp,Op.intCmp],h,.aH (.sb _)⟩
 case leq=>exact⟨_,.bool (decide (x<=y)),by simp[e2,binOp,Op.intCmp],h,.aH (.sb _)⟩
 case gtr=>exact⟨_,.bool (decide (y<x)),by simp[e2,binOp,Op.intCmp],h,.aH (.sb _)⟩
 case geq=>exact⟨_,.bool (decide (y<=x)),by simp[e2,binOp,Op.intCmp],h,.aH (.sb _)⟩
 case add=>exact⟨_,.int k (k.wrap (x+y)),by simp[e2,binOp,Op.intArith],lM h,.aH (.int _ _)⟩
 case sub=>exact⟨_,.int k (k.wrap (x-y)),by simp[e2,binOp,Op.intArith],lM h,.aH (.int _ _)⟩
 case mul=>exact⟨_,.int k (k.wrap (x*y)),by simp[e2,binOp,Op.intArith],lM h,.aH (.int _ _)⟩
 case and=>exact⟨_,.int k (k.wrap (BitVec.ofInt k.bits x &&& BitVec.ofInt k.bits y).toNat),by simp[e2,binOp,Op.intBits],h,.aH (.int _ _)⟩
 case or=>exact⟨_,.int k (k.wrap (BitVec.ofInt k.bits x ||| BitVec.ofInt k.bits y).toNat),by simp[e2,binOp,Op.intBits],h,.aH (.int _ _)⟩
 case xor=>exact⟨_,.int k (k.wrap (BitVec.ofInt k.bits x ^^^ BitVec.ofInt k.bits y).toNat),by simp[e2,binOp,Op.intBits],h,.aH (.int _ _)⟩
 case andNot=>exact⟨_,.int k (k.wrap (BitVec.ofInt k.bits x &&& ~~~BitVec.ofInt k.bits y).toNat),by simp[e2,binOp,Op.intBits],h,.aH (.int _ _)⟩

theorem cQ(l:List UInt8):(ByteArray.mk l.toArray).toList=l:=by simp
theorem BC{op:BinOp}{x y:List UInt8}{t t':TypeId}{X Y:Operand}{o:Oper}{ρ:Operand->Value}(ho:o.op=.binOp op t X Y t')(hx:ρ X=.string ⟨x.toArray⟩)(hy:ρ Y=.string ⟨y.toArray⟩){K:A->Prop}
  (h:od op x y K):∃r v,(execOp ρ o).run P w=.ok (.value v) w/\K r/\Rel ids im w r v:=by
 have e1:(execOp ρ o)=(do let z <-(do eqGuard op t X Y (.string ⟨x.toArray⟩) (.string ⟨y.toArray⟩);binOp op t (.string ⟨x.toArray⟩) (.string ⟨y.toArray⟩));pure (.value z)):=by
  unfold execOp;rw[ho];simp only[hx,hy]
 have e2:(eqGuard op t X Y (.string ⟨x.toArray⟩) (.string ⟨y.toArray⟩)).run P w=.ok () w:=by
  unfold eqGuard;cases op<;>rfl
 have e3:(binOp op t (.string ⟨x.toArray⟩) (.string ⟨y.toArray⟩))=Op.stringOp op ⟨x.toArray⟩ ⟨y.toArray⟩:=by
  cases op<;>rfl
 rw[e1,e3];cases op<;>simp only[od] at h<;>first|exact h.elim|skip
 case add =>
  refine⟨_,.string ⟨(x++y).toArray⟩,?_,h.2,.aH (.str _)⟩
  have e4:¬(IntKind.i64.max<((x.length+y.length:Nat):Int)):=by
   have:IntKind.i64.max=9223372036854775807:=by decide
   rw[this];have:=h.1;omega
  have e6:(Op.stringOp .add ⟨x.toArray⟩ ⟨y.toArray⟩)=pure (.string ⟨(x++y).toArray⟩):=by
   unfold Op.stringOp;rw[if_neg (by simpa[ByteArray.size] using e4)]
   congr 2
  rw[e6];simp[e2]
 case eql=>exact⟨_,.bool (x==y),by simp only[Op.stringOp,cQ];simp[e2],h,.aH (.sb _)⟩
 case neq=>exact⟨_,.bool !(x==y),by simp only[Op.stringOp,cQ];simp[e2],h,.aH (.sb _)⟩
 case lss=>exact⟨_,.bool (Op.bytesLess x y),by simp only[Op.stringOp,cQ];simp[e2],h,.aH (.sb _)⟩
 case leq=>exact⟨_,.bool (Op.bytesLess x y||x==y),by simp only[Op.stringOp,cQ];simp[e2],h,.aH (.sb _)⟩
 case gtr=>exact⟨_,.bool !(Op.bytesLess x y||x==y),by simp only[Op.stringOp,cQ];simp[e2],h,.aH (.sb _)⟩
 case geq=>exact⟨_,.bool !(Op.bytesLess x y),by simp only[Op.stringOp,cQ];simp[e2],h,.aH (.sb _)⟩

theorem E5{op:BinOp}{k k':IntKind}{x y:Int}{t t':TypeId}{X Y:Operand}{o:Oper}{ρ:Operand->Value}(ho:o.op=.binOp op t X Y t')(hx:ρ X=.int k x)(hy:ρ Y=.int k' y){K:A->Prop}
  (h:s9 op k x y K):∃r v,(execOp ρ o).run P w=.ok (.value v) w/\K r/\Rel ids im w r v:=by
 have e1:(execOp ρ o)=(do let z <-(do eqGuard op t X Y (.int k x) (.int k' y);binOp op t (.int k x) (.int k' y));pure (.value z)):=by
  unfold execOp;rw[ho];simp only[hx,hy]
 have e2:(eqGuard op t X Y (.int k x) (.int k' y)).run P w=.ok () w:=by
  unfold eqGuard;cases op<;>rfl
 rw[e1];cases op<;>simp only[s9] at h<;>first|exact h.elim|skip
 case shl=>exact⟨_,.int k (k.wrap (x*2 ^ (min y.toNat k.bits))),by simp[e2,binOp,Op.shift,Int.not_lt.2 h.1],lM h.2,.aH (.int _ _)⟩
 case shr=>exact⟨_,.int k (x.fdiv (2 ^ (min y.toNat k.bits))),by simp[e2,binOp,Op.shift,Int.not_lt.2 h.1],h.2,.aH (.int _ _)⟩

theorem PF{op:UnOp}{x:A}{t:TypeId}{X:Operand}{o:Oper}{ρ:Operand->Value}(ho:o.op=.unOp op t X)(hx:Rel ids im w x (ρ X)){K:A->Prop}
  (h:Sq op x K):∃r v,(execOp ρ o).run P w=.ok (.value v) w/\K r/\Rel ids im w r v:=by
 have e1:(execOp ρ o)=(do let z <-Op.unary op (ρ X);pure (.value z)):=by unfold execOp;rw[ho]
 rw[e1];unfold Sq at h;split at h
 ·rw[hx.dR];rename_i b;exact⟨_,.bool !b,by simp[Op.unary],h,.aH (.bool _)⟩
 ·rw[hx.iL];rename_i b;exact⟨_,.bool !b,by simp[Op.unary],h,.aH (.sb _)⟩
 ·rw[hx.bS];rename_i k n;exact⟨_,.int k (k.wrap (0-n)),by simp[Op.unary,Op.intArith],by have:=lM h;simpa using this,.aH (.int _ _)⟩
 ·exact h.elim

theorem bo.facts(aJ:bo P tt){t:TypeId}{ti:TI}(h:tt.lookup t=some ti):
  ∃i d z,P.info? t=some i/\P.underlying t=some d/\i.zero=some z/\i.size=ti.size/\(∀v∈z.cells.toList,v.oneCell'=true)/\z.cells.size=i.size /\
   ti.zero=z.cells.toList.map ofConst/\ti.agg=dM d /\
   (ti.kind=1->∃fs,d=.struct fs/\ti.nb=fs.toList.map fun f=>(f.offset,((P.info? f.type).map (·.size)).getD 0)) /\
   (ti.kind=1->∃fs,d=.struct fs/\fs.toList.all (fun f=>((P.info? f.type).map (·.size)).getD 0 != 0)=true) /\
   (ti.kind=2->∃ie,d=.array ti.kC ti.aM/\P.info? ti.aM=some ie/\ie.size=ti.br) /\
   (ti.kind=3->∃ie ze,d=.slice ti.aM/\P.info? ti.aM=some ie/\ie.size=ti.br/\ie.bytes=ti.dS/\ie.zero=some ze/\ze.cells.size=ti.br/\ti.br≠0) /\
   (ti.kind=5->d=.int ti.ik)/\(ti.kind=4->d=.string)/\ti.eqs=aW P 6 t/\(ti.kind=6->d=.bool):=by
 have:=aJ t ti h;unfold y9 at this;split at this
 ·rename_i i d hi hd;split at this
  ·rename_i z hz;split at this
   ·rename_i hc;simp only[Bool.and_eq_true,List.all_eq_true,beq_iff_eq] at hc
    replace hc:=hc.2
    refine⟨i,d,z,hi,hd,hz,?_⟩;cases d
    case struct fs =>
     simp only at this;split at this
     ·rename_i fP;cases this;refine⟨rfl,hc.1,hc.2,rfl,rfl,fun _=>⟨fs,rfl,rfl⟩,fun _=>⟨fs,rfl,fP⟩,?_,?_,?_,?_,rfl,?_⟩<;>(intro hk;simp at hk)
     ·cases this
    case array n e =>
     simp only at this;split at this
     ·rename_i ie iw;cases this;refine⟨rfl,hc.1,hc.2,rfl,rfl,?_,?_,fun _=>⟨ie,rfl,iw,rfl⟩,?_,?_,?_,rfl,?_⟩<;>(intro hk;simp at hk)
     ·cases this
    case slice e =>
     simp only at this;split at this
     ·rename_i ie iw;split at this
      ·rename_i ze X7;split at this
       ·rename_i NN;cases this;simp only[Bool.and_eq_true,beq_iff_eq,bne_iff_ne] at NN;refine⟨rfl,hc.1,hc.2,rfl,rfl,?_,?_,?_,fun _=>⟨ie,ze,rfl,iw,rfl,rfl,X7,NN.1,NN.2⟩,?_,?_,rfl,?_⟩<;>(intro hk;simp at hk)
       ·cases this
      ·cases this
     ·cases this
    case tuple=>cases this
    case named=>cases this
    case int k =>
     cases this;refine⟨rfl,hc.1,hc.2,rfl,rfl,?_,?_,?_,?_,fun _=>rfl,?_,rfl,?_⟩<;>(intro hk;simp at hk)
    case string =>
     cases this;refine⟨rfl,hc.1,hc.2,rfl,rfl,?_,?_,?_,?_,?_,fun _=>rfl,rfl,?_⟩<;>(intro hk;simp at hk)
    case bool =>
     cases this;refine⟨rfl,hc.1,hc.2,rfl,rfl,?_,?_,?_,?_,?_,?_,rfl,fun _=>rfl⟩<;>(intro hk;simp at hk)
    all_goals
     cases this;refine⟨rfl,hc.1,hc.2,rfl,rfl,?_,?_,?_,?_,?_,?_,rfl,?_⟩<;>(intro hk;simp at hk)
   ·cases this
  ·cases this
 ·cases this

theorem bo.n9(aJ:bo P tt){t:TypeId}{ti:TI}(h:tt.lookup t=some ti)(hk:ti.kind=1):∃fs,P.underlying t=some (.struct fs)/\ti.n9=fs.toList.map (·.type)/\ti.nb=fs.toList.map fun f=>(f.offset,((P.info? f.type).map (·.size)).getD 0):=by
 have:=aJ t ti h;unfold y9 at this;split at this
 ·rename_i i d hi hd;split at this
  ·rename_i z hz;split at this
   ·rename_i FB;cases d
    case struct fs =>
     simp only at this;split at this
     ·cases this;exact⟨fs,hd,rfl,rfl⟩
     ·cases this
    case array n e =>
     simp only at this;split at this
     ·cases this;simp at hk
     ·cases this
    case slice e =>
     simp only at this;split at this
     ·split at this
      ·split at this
       ·cases this;simp at hk
       ·cases this
      ·cases this
     ·cases this
    case tuple=>cases this
    case named=>cases this
    all_goals (cases this;simp at hk)
   ·cases this
  ·cases this
 ·cases this
theorem bo.UQ(aJ:bo P tt){t:TypeId}{ti:TI}(h:tt.lookup t=some ti):∃i d z,P.info? t=some i/\P.underlying t=some d/\i.zero=some z/\wC z=dM d:=by
 have:=aJ t ti h;unfold y9 at this;split at this
 ·rename_i i d hi hd;split at this
  ·rename_i z hz;split at this
   ·rename_i hc;simp only[Bool.and_eq_true,beq_iff_eq] at hc;exact⟨i,d,z,hi,hd,hz,hc.1⟩
   ·cases this
  ·cases this
 ·cases this
/-- The zero of a type. -/
theorem bo.LW(aJ:bo P tt){t:TypeId}{ti:TI}(h:tt.lookup t=some ti)(im:Nat->Prop)(w:World):
  ∃zv,(zeroValue t).run P w=.ok zv w/\(ti.agg=true->aw im w (.agg ti.zero) zv)/\(ti.agg=false->∃z,ti.zero=[z]/\aw im w z zv):=by
 obtain⟨i,d,z,hi,hd,hz,_,fG,_,hzero,LU,_⟩:=aJ.facts h;obtain⟨i',d',z',cr,gZ,Aq,FR⟩:=aJ.UQ h;rw[hi] at cr;cases cr;rw[hd] at gZ;cases gZ;rw[hz] at Aq;cases Aq;refine⟨z,by simp[zeroValue,typeInfo,hi,hz],?_,?_⟩
 ·intro ha;rw[LU] at ha;rw[ha] at FR;obtain⟨cs,rfl⟩:∃cs,z=.agg cs:=by cases z<;>first|exact⟨_,rfl⟩|simp[wC] at FR
  have:=aw.agg (im:=im) (w:=w) (cs.toList.map ofConst) cs.toList (by simp) (fun v hv=>fG v hv) (fun j h h'=>by rw[List.getElem_map];exact dT _ _ _);rw[hzero];show aw im w (.agg (List.map ofConst cs.toList)) _;simpa using this
 ·intro ha;rw[LU] at ha;rw[ha] at FR;have hc:z.cells = #[z]:=by cases z<;>first|rfl|simp[wC] at FR
  exact⟨ofConst z,by rw[hzero,hc];simp,dT _ _ _⟩
theorem bo.wE(aJ:bo P tt){t:TypeId}{ti:TI}(h:tt.lookup t=some ti)(hk:ti.kind=7):P.underlying t=some (.map ti.kC ti.aM):=by
 have:=aJ t ti h;unfold y9 at this;split at this
 ·rename_i i d hi hd;split at this
  ·split at this
   ·cases d
    case map k e=>cases this;exact hd
    case struct fs =>
     simp only at this;split at this
     ·cases this;simp at hk
     ·cases this
    case array n e =>
     simp only at this;split at this
     ·cases this;simp at hk
     ·cases this
    case slice e =>
     simp only at this;split at this
     ·split at this
      ·split at this
       ·cases this;simp at hk
       ·cases this
      ·cases this
     ·cases this
    case tuple=>cases this
    case named=>cases this
    all_goals
     cases this;simp at hk
   ·cases this
  ·cases this
 ·cases this
theorem bo.LX(aJ:bo P tt){t:TypeId}{ti:TI}(h:tt.lookup t=some ti)(hk:ti.kind=8):∃e,P.underlying t=some (.pointer e):=by
 have:=aJ t ti h;unfold y9 at this;split at this
 ·rename_i i d hi hd;split at this
  ·split at this
   ·cases d
    case pointer=>exact⟨_,hd⟩
    case struct fs =>
     simp only at this;split at this
     ·cases this;simp at hk
     ·cases this
    case array n e =>
     simp only at this;split at this
     ·cases this;simp at hk
     ·cases this
    case slice e =>
     simp only at this;split at this
     ·split at this
      ·split at this
       ·cases this;simp at hk
       ·cases this
      ·cases this
     ·cases this
    case tuple=>cases this
    case named=>cases this
    all_goals
     cases this;simp at hk
   ·cases this
  ·cases this
 ·cases this
theorem bo.PG(aJ:bo P tt){t:TypeId}{ti:TI}(h:tt.lookup t=some ti)(hk:ti.kind=9):∃a b c,P.underlying t=some (.func a b c):=by
 have:=aJ t ti h;unfold y9 at this;split at this
 ·rename_i i d hi hd;split at this
  ·split at this
   ·cases d
    case func=>exact⟨_,_,_,hd⟩
    case struct fs =>
     simp only at this;split at this
     ·cases this;simp at hk
     ·cases this
    case array n e =>
     simp only at this;split at this
     ·cases this;simp at hk
     ·cases this
    case slice e =>
     simp only at this;split at this
     ·split at this
      ·split at this
       ·cases this;simp at hk
       ·cases this
      ·cases this
     ·cases this
    case tuple=>cases this
    case named=>cases this
    all_goals
     cases this;simp at hk
   ·cases this
  ·cases this
 ·cases this
theorem zd(aJ:bo P tt){x y:A}{v u:Value}{k:Nat}{b:Bool}(h:PE x y=some (k,b))(hx:Rel ids im w x v)(hy:Rel ids im w y u){t:TypeId}{ti:TI}(ht:tt.lookup t=some ti)(hk:ti.kind=k):
  ((Op.equal t v u).run P w=.ok b w/\binOp .eql t v u=(do pure (.bool (<-Op.equal t v u)))/\binOp .neq t v u=(do pure (.bool (!(<-Op.equal t v u))))/\∀op X Y,(eqGuard op t X Y v u).run P w=.ok () w):=by
 have hP:k=8->∃e,P.underlying t=some (.pointer e):=fun e=>aJ.LX ht (by rw[hk];exact e);have hM:k=7->P.underlying t=some (.map ti.kC ti.aM):=fun e=>aJ.wE ht (by rw[hk];exact e)
 have ptr:∀(p:Option Addr),k=8->v=.pointer p->u=.pointer none->b=p.isNone->((Op.equal t v u).run P w=.ok b w/\binOp .eql t v u=(do pure (.bool (<-Op.equal t v u)))/\binOp .neq t v u=(do pure (.bool (!(<-Op.equal t v u))))/\∀op X Y,(eqGuard op t X Y v u).run P w=.ok () w):=by
  rintro p e rfl rfl hb;obtain⟨el,hu⟩:=hP e;refine⟨?_,rfl,rfl,fun op X Y=>?_⟩
  ·unfold Op.equal Op.maxDepth Op.equalIn;rw[Sem.run_bind,run_underlying hu];cases p<;>simp[hb]
  ·unfold eqGuard;cases op<;>rfl
 have mp:∀(p:Option Nat),k=7->v=.map p->u=.map none->b=p.isNone->((Op.equal t v u).run P w=.ok b w/\binOp .eql t v u=(do pure (.bool (<-Op.equal t v u)))/\binOp .neq t v u=(do pure (.bool (!(<-Op.equal t v u))))/\∀op X Y,(eqGuard op t X Y v u).run P w=.ok () w):=by
  rintro p e rfl rfl hb;have hu:=hM e;refine⟨?_,rfl,rfl,fun op X Y=>?_⟩
  ·unfold Op.equal Op.maxDepth Op.equalIn;rw[Sem.run_bind,run_underlying hu];cases p<;>simp[hb]
  ·unfold eqGuard;cases op<;>rfl
 have WC:k=9->(v=.nilFunc/\b=true\/(∃f as cs,v=.func f as cs)/\b=false)->u=.nilFunc->((Op.equal t v u).run P w=.ok b w/\binOp .eql t v u=(do pure (.bool (<-Op.equal t v u)))/\binOp .neq t v u=(do pure (.bool (!(<-Op.equal t v u))))/\∀op X Y,(eqGuard op t X Y v u).run P w=.ok () w):=by
  intro e hv UR;obtain⟨f1,f2,f3,hu⟩:=aJ.PG ht (by rw[hk];exact e);subst UR;rcases hv with⟨rfl,rfl⟩|⟨⟨f,as,cs,rfl⟩,rfl⟩
  ·refine⟨?_,rfl,rfl,fun op X Y=>by unfold eqGuard;cases op<;>rfl⟩;unfold Op.equal Op.maxDepth Op.equalIn;rw[Sem.run_bind,run_underlying hu];rfl
  ·refine⟨?_,rfl,rfl,fun op X Y=>by unfold eqGuard;cases op<;>rfl⟩;unfold Op.equal Op.maxDepth Op.equalIn;rw[Sem.run_bind,run_underlying hu];rfl
 have WD:Rel ids im w .bz u->u=.nilFunc:=fun h=>by cases h with|aH h=>cases h;rfl
 unfold PE at h;split at h<;>cases h
 ·exact ptr none rfl hx.jO hy.jO rfl
 ·rcases hx.gK with⟨p,_,e⟩|⟨_,x,y,e⟩<;>exact ptr _ rfl e hy.jO rfl
 ·rcases hx.gS with⟨p,_,e⟩|⟨_,x,y,e⟩<;>exact ptr _ rfl e hy.jO rfl
 ·cases hx with|aH hx=>cases hx;exact ptr _ rfl rfl hy.jO rfl
 ·exact mp none rfl hx.jP hy.jP rfl
 ·rcases hx.iM with⟨p,_,e⟩|⟨_,x,e⟩<;>exact mp _ rfl e hy.jP rfl
 ·cases hx with|aH hx=>cases hx;exact mp _ rfl rfl hy.jP rfl
 ·cases hx with|aH hx=>cases hx;exact WC rfl (.inl ⟨rfl,rfl⟩) (WD hy)
 ·obtain⟨us,rfl,_⟩:=hx.fM;exact WC rfl (.inr ⟨⟨_,_,_,rfl⟩,rfl⟩) (WD hy)
theorem rq{x:A}{v:Value}{b:Bool}(h:Nh x=some b)(hr:Rel ids im w x v):v=.bool b:=by
 cases x<;>simp[Nh] at h
 ·subst h;exact hr.dR
 ·subst h;exact hr.iL

theorem pq:∀(sh:List Nat) (cs dc:List A) (vs du:List Value) (K:Bool->Prop),vs.length=cs.length->du.length=dc.length ->
  (∀j (h:j<cs.length) (h':j<vs.length),Rel ids im w cs[j] vs[j])->(∀j (h:j<dc.length) (h':j<du.length),Rel ids im w dc[j] du[j])->xw sh cs dc K->∃r,sF sh vs du r/\K r
 | [],[],[],vs,du,K,h1,h2,_,_,h=>by
  have e1:vs=[]:=by cases vs<;>simp at h1 ⊢
  have e2:du=[]:=by cases du<;>simp at h2 ⊢
  subst e1;subst e2;exact⟨true,rfl,h⟩
 | k::ks,x::xs,y::ys,vs,du,K,h1,h2,h3,h4,h=>by
  cases vs with
  | nil=>simp at h1
  | cons v vs =>
   cases du with
   | nil=>simp at h2
   | cons v' du =>
    have hx:Rel ids im w x v:=h3 0 (by simp) (by simp);have hy:Rel ids im w y v':=h4 0 (by simp) (by simp)
    have go:∀b,UL k v v' b->xw ks xs ys (fun r=>K (b&&r))->∃r,sF (k::ks) (v::vs) (v'::du) r/\K r:=by
     intro b hb hh
     obtain⟨r,g1,g2⟩:=pq ks xs ys vs du _ (by simpa using h1) (by simpa using h2)
      (fun j p q=>h3 (j+1) (Nat.succ_lt_succ p) (Nat.succ_lt_succ q)) (fun j p q=>h4 (j+1) (Nat.succ_lt_succ p) (Nat.succ_lt_succ q)) hh
     exact⟨b&&r,⟨b,r,hb,g1,rfl⟩,g2⟩
    unfold xw at h;split at h
    ·split at h
     ·rename_i p a q b;split at h
      ·rename_i hk;rw[iP] at hk;subst hk;exact go _ (.inl ⟨rfl,p,a,b,hx.bS,hy.bS,rfl⟩) h
      ·exact h.elim
     ·exact h.elim
    ·split at h
     ·rename_i a b ha hb;exact go _ (.inr (.inl ⟨rfl,a,b,rq ha hx,rq hb hy,rfl⟩)) h
     ·exact h.elim
    ·split at h
     ·rename_i a b;refine go (a==b) (.inr (.inr ⟨rfl,⟨a.toArray⟩,⟨b.toArray⟩,hx.gJ,hy.gJ,by rw[cQ,cQ]⟩)) h
     ·exact h.elim
    ·exact h.elim
 | [],[],_::_,_,_,_,_,_,_,_,h=>h.elim
 | [],_::_,_,_,_,_,_,_,_,_,h=>by unfold xw at h;exact h.elim
 | _::_,[],_,_,_,_,_,_,_,_,h=>by unfold xw at h;exact h.elim
 | _::_,_::_,[],_,_,_,_,_,_,_,h=>by unfold xw at h;exact h.elim

theorem LY(aJ:bo P tt){op:BinOp}{x y:A}{t t':TypeId}{X Y:Operand}{o:Oper}{ρ:Operand->Value}(ho:o.op=.binOp op t X Y t')(hx:Rel ids im w x (ρ X))(hy:Rel ids im w y (ρ Y)){K:A->Prop}
  (h:I5 tt t op x y K):∃r v,(execOp ρ o).run P w=.ok (.value v) w/\K r/\Rel ids im w r v:=by
 unfold I5 at h;split at h
 ·split at h
  ·exact E5 ho hx.bS hy.bS h
  ·split at h
   ·rename_i hk;rw[iP] at hk;subst hk;exact BB ho hx.bS hy.bS h
   ·exact h.elim
 ·exact BC ho hx.gJ hy.gJ h
 ·rename_i cs dc;split at h
  ·rename_i ti ht;obtain⟨i,d,z,hi,hd,hz,bM,fG,oG,hzero,FR,FH,BD,nz,iU,Nf,tY,heq,_⟩:=aJ.facts ht;obtain⟨vs,Ai,HT,TD,Ni⟩:=hx.gL;obtain⟨us,HR,Ar,Ke,WE⟩:=hy.gL
   have e1:∀Du,o.op=.binOp Du t X Y t'->(execOp ρ o)=(do let z <-(do eqGuard Du t X Y (.agg vs.toArray) (.agg us.toArray);binOp Du t (.agg vs.toArray) (.agg us.toArray));pure (.value z)):=by
    intro Du ho;unfold execOp;rw[ho];simp only[Ai,HR]
   have Lj:6<=P.depth:=by unfold Program.depth Made.depth;omega
   have Nj:ti.agg=true->∀l:List Value,uf P t l=.agg l.toArray:=by
    intro ha l;rw[FR] at ha;unfold uf;rw[hd];cases d<;>simp[dM] at ha<;>rfl
   split at h
   ·rename_i sh I8 FM;obtain⟨r,g1,g2⟩:=pq (ids:=ids) (im:=im) (w:=w) sh cs dc vs us _ HT Ar Ni WE h;have:=qd (P:=P) (w:=w) (op:=.eql) (.inl rfl) (by rw[<-heq];exact FM) (by omega) Lj g1 (Nj I8 _) (Nj I8 _) X Y;refine⟨_,.bool r,?_,g2,.aH (.sb _)⟩;rw[e1 _ ho,Sem.run_bind,this];rfl
   ·rename_i sh I8 FM;obtain⟨r,g1,g2⟩:=pq (ids:=ids) (im:=im) (w:=w) sh cs dc vs us _ HT Ar Ni WE h;have:=qd (P:=P) (w:=w) (op:=.neq) (.inr rfl) (by rw[<-heq];exact FM) (by omega) Lj g1 (Nj I8 _) (Nj I8 _) X Y;refine⟨_,.bool !r,?_,g2,.aH (.sb _)⟩;rw[e1 _ ho,Sem.run_bind,this];rfl
   ·exact h.elim
  ·exact h.elim
 ·split at h
  ·rename_i k b ua;split at h
   ·rename_i ti ht
    have e0:∀Du,o.op=.binOp Du t X Y t'->(execOp ρ o)=(do let z <-(do eqGuard Du t X Y (ρ X) (ρ Y);binOp Du t (ρ X) (ρ Y));pure (.value z)):=by
     intro Du ho;unfold execOp;rw[ho]
    split at h
    ·rename_i hk;obtain⟨g1,g2,g3,g4⟩:=zd (P:=P) (w:=w) aJ ua hx hy ht (Nat.eq_of_beq_eq_true hk);refine⟨_,.bool b,?_,h,.aH (.bool _)⟩;rw[e0 _ ho];simp[g4,g2,g1]
    ·rename_i hk;obtain⟨g1,g2,g3,g4⟩:=zd (P:=P) (w:=w) aJ ua hx hy ht (Nat.eq_of_beq_eq_true hk);refine⟨_,.bool !b,?_,h,.aH (.bool _)⟩;rw[e0 _ ho];simp[g4,g3,g1]
    ·exact h.elim
   ·exact h.elim
  rename_i Wj;split at h;rotate_left
  ·exact h.elim
  ·rename_i a b ti ha hb ht;obtain⟨i,d,z,hi,hd,hz,bM,fG,oG,hzero,FR,FH,BD,nz,iU,Nf,tY,heq,WG⟩:=aJ.facts ht;have LZ:=rq ha hx;have PH:=rq hb hy
   have e1:∀Du,o.op=.binOp Du t X Y t'->(execOp ρ o)=(do let z <-(do eqGuard Du t X Y (.bool a) (.bool b);binOp Du t (.bool a) (.bool b));pure (.value z)):=by
    intro Du ho;unfold execOp;rw[ho];simp only[LZ,PH]
   split at h
   ·rename_i hk;have fp:=WG hk;subst fp;have e2:(eqGuard .eql t X Y (.bool a) (.bool b)).run P w=.ok () w:=by unfold eqGuard;rfl
    refine⟨_,.bool (a==b),?_,h,.aH (.sb _)⟩;rw[e1 _ ho];simp[e2,binOp,run_equal_bool w t a b hd]
   ·rename_i hk;have fp:=WG hk;subst fp;have e2:(eqGuard .neq t X Y (.bool a) (.bool b)).run P w=.ok () w:=by unfold eqGuard;rfl
    refine⟨_,.bool !(a==b),?_,h,.aH (.sb _)⟩;rw[e1 _ ho];simp[e2,binOp,run_equal_bool w t a b hd]
   ·exact h.elim
end
section
variable {c:Ctx} {s:List A} {m:List aq} {a:Act} {w w':World} {ids ab:dp} {P:Program} {im bl:Nat->Prop} {tt:TT}
variable {next:Act->World->Prop} {Q:Exit->Act->World->Prop}

/-- A run of cells in memory, each related. -/
def Sr(ids:dp)(im:Nat->Prop)(w:World)(cs:List A)(ao base:Nat):Prop :=
 ∃vs:List Value,vs.length=cs.length/\(∀j (h:j<vs.length),w.cell? ⟨ao,base+j,none⟩=some vs[j])/\(∀v∈vs,gR v) /\
  ∀j (h:j<cs.length) (h':j<vs.length),Rel ids im w cs[j] vs[j]

theorem kW{t:TypeId}{d:TypeDesc}{i:TypeInfo}(hi:P.info? t=some i)(hd:P.underlying t=some d)
  (hg:dM d=true) (ao off:Nat) (vs:List Value) (hl:vs.length=i.size)
  (hc:∀j (h:j<vs.length),w.cell? ⟨ao,off+j,none⟩=some vs[j]):(loadVar t ⟨ao,off,none⟩).run P w=.ok (.agg vs.toArray) w:=by
 have h1:(loadCells ⟨ao,off,none⟩ vs.length).run P w=.ok vs.toArray w:=run_loadCells_list w ⟨ao,off,none⟩ vs (fun j v hv=>by
  have hj:j<vs.length:=by
   rcases Nat.lt_or_ge j vs.length with h|h
   ·exact h
   ·rw[List.getElem?_eq_none h] at hv;cases hv
  have e:vs[j]=v:=by rw[List.getElem?_eq_getElem hj] at hv;exact Option.some.inj hv
  have:=hc j hj;rw[e] at this;unfold Addr.add;split
  ·rename_i h0;subst h0;simpa using this
  ·exact this)
 rw[hl] at h1;unfold loadVar isAgg;cases d<;>simp[dM] at hg<;>simp[underlying,hd,sizeOf,typeInfo,hi,h1]
theorem ic{t:TypeId}{d:TypeDesc}(hd:P.underlying t=some d)
  (hg:dM d=false) (ao off:Nat) (v:Value)
  (hc:w.cell? ⟨ao,off,none⟩=some v):(loadVar t ⟨ao,off,none⟩).run P w=.ok v w:=by
 unfold loadVar isAgg;cases d<;>simp[dM] at hg<;>simp[underlying,hd,hc]

theorem iB(aJ:bo P tt){t:TypeId}{ti:TI}(ht:tt.lookup t=some ti){cs:List A}{ao base off:Nat}(bR:Sr ids im w cs ao base){K:A->Prop}
  (h:I4 ti.agg ti.size cs off K):∃r v,(loadVar t ⟨ao,base+off,none⟩).run P w=.ok v w/\K r/\Rel ids im w r v:=by
 obtain⟨i,d,z,hi,hd,hz,bM,_,_,_,FR,_⟩:=aJ.facts ht;obtain⟨vs,hl,hc,ho,hr⟩:=bR;unfold I4 at h;split at h
 ·rename_i hb;split at h
  ·rename_i hle;rw[ck,jR] at h;have hle:=Nat.le_of_ble_eq_true hle;have PI:((vs.drop off).take ti.size).length=ti.size:=by simp;omega
   have Sj:((cs.drop off).take ti.size).length=ti.size:=by simp;omega
   refine⟨_,.agg ((vs.drop off).take ti.size).toArray,?_,h,?_⟩
   ·refine kW hi hd (by rw[<-FR];exact hb) ao (base+off) _ (by rw[PI,bM]) ?_;intro j hj;rw[PI] at hj;have:=hc (off+j) (by omega);rw[<-Nat.add_assoc] at this;simpa using this
   ·refine .agg _ _ (by rw[PI,Sj]) ?_ ?_
    ·intro v hv;exact ho v (List.mem_of_mem_drop (List.mem_of_mem_take hv))
    ·intro j h1 h2;rw[Sj] at h1;have:=hr (off+j) (by omega) (by omega);simpa using this
  ·exact h.elim
 ·rename_i hb;split at h
  ·rename_i aI;rw[db] at h;have aI:off<cs.length:=Nat.le_of_ble_eq_true aI;refine⟨_,vs[off]'(by omega),?_,h,?_⟩
   ·exact ic hd (by rw[<-FR];exact hb) ao _ _ (hc off (by omega))
   ·have:=hr off aI (by omega);simpa[List.getD_eq_getElem?_getD,aI] using this
  ·exact h.elim

theorem bf{b:Nat}{x:aq}(h:m[b]?=some x):m.getD b .dead=x:=by simp[List.getD_eq_getElem?_getD,h]

theorem aF.rz(hs:aF c s m a w ids){b:Nat}{p:Id}(bQ:ids[b]?=some (.lv p)){ty:TypeId}{cs:List A}(hb:m.getD b .dead=.box ty cs):
  Sr ids (au c ids w) w cs p.ao 0:=by
 obtain⟨x,hx,hr⟩:=hs.dU bQ;rw[bf hx] at hb;subst hb;obtain⟨vs,h1,h2,h3,h4⟩:=hr;refine⟨vs.toList,by simp;omega,?_,?_,?_⟩
 ·intro j hj;unfold World.cell?;simp only[h1];simp at hj ⊢
 ·intro v hv;obtain⟨j,hj,rfl⟩:=List.getElem_of_mem hv;simp at hj;have:=(h4 j (by omega) hj).2;simpa using this
 ·intro j hj bW;simp at bW;have:=(h4 j hj bW).1;simpa using this
theorem aF.Dv(hs:aF c s m a w ids){b:Nat}{p:Id}(bQ:ids[b]?=some (.lv p)){ty:TypeId}{sz n:Nat}{row:Nat->List A}(hb:m.getD b .dead=.row ty sz n row)
  {i:Nat} (hi:i<n):Sr ids (au c ids w) w (row i) p.ao (i*p.sz):=by
 obtain⟨x,hx,hr⟩:=hs.dU bQ;rw[bf hx] at hb;subst hb;obtain⟨e1,e2,vs,h1,h2,h3,hl,h4⟩:=hr;rw[e1]
 have hle:i*sz+sz<=n*sz:=by
  have:(i+1)*sz<=n*sz:=Nat.mul_le_mul_right _ hi;rw[Nat.add_mul] at this;omega
 refine⟨(vs.toList.drop (i*sz)).take sz,by simp;rw[hl i hi];omega,?_,?_,?_⟩
 ·intro j hj;simp at hj;unfold World.cell?;simp only[h1];simp
 ·intro v hv;obtain⟨j,hj,rfl⟩:=List.getElem_of_mem hv;simp at hj;have:=(h4 i j hi (by rw[hl i hi];omega) (by omega)).2;simpa using this
 ·intro j hj bW;simp at bW;have:=Rel.aH (ids:=ids) (h4 i j hi hj (by omega)).1;simpa using this

theorem zf(aJ:bo P tt)(hs:aF c s m a w ids){o:Oper}{t:TypeId}{X:Operand}(ho:o.op=.load t X){K:KT}
  (h:k9 tt t (ev s X) m K) (hn:∀v m' a' w' ab,K v m'->aF c (aZ s o.dst v) m' a' w' ab->next a' w'):o.wp P a w next Q:=by
 have hx:=hs.ev X;unfold k9 at h
 have e1:∀ao off,a.eval X=.pointer (some ⟨ao,off,none⟩)->execOp a.eval o=(do let z <-loadVar t ⟨ao,off,none⟩;pure (.value z)):=by
  intro ao off he;unfold execOp;rw[ho];simp only[he];rfl
 have fin:∀ {r:A} {v:Value} {ao off:Nat},a.eval X=.pointer (some ⟨ao,off,none⟩)->(loadVar t ⟨ao,off,none⟩).run P w=.ok v w->K r m->Rel ids (au c ids w) w r v->o.wp P a w next Q:=by
  intro r v ao off he bR hk hr;refine aQ (v:=v) (w':=w) ?_ (hn r m _ _ ids hk (hs.aZ o.dst hr));rw[e1 _ _ he];simp[bR]
 split at h
 ·exact h.elim
 ·rename_i ti ht;split at h
  ·rename_i b off he;rw[he] at hx;split at h
   ·rename_i ty cs hb;obtain⟨p,bQ,hv⟩:=hs.wB hx (by rw[hb];simp);obtain⟨r,v,h1,h2,h3⟩:=iB (P:=P) aJ ht (base:=0) (hs.rz bQ hb) h;rw[Nat.zero_add] at h1;exact fin hv h1 h2 h3
   ·exact h.elim
  ·rename_i b i off he;rw[he] at hx;split at h
   ·rename_i ty sz n row hb;obtain⟨p,bQ,hv⟩:=hs.kB hx (by rw[hb];simp);obtain⟨hi,h⟩:=h;rw[ck] at h;obtain⟨r,v,h1,h2,h3⟩:=iB (P:=P) aJ ht (hs.Dv bQ hb hi) h;exact fin hv h1 h2 h3
   ·exact h.elim
  ·rename_i cs off he;rw[he] at hx;cases hx with
   | aH hx =>
    generalize hv:a.eval X=vv at hx;cases hx with
    | bref ao base _ _ vs hb hc Ss hr =>
     have bR:Sr ids (au c ids w) w cs ao base:=by
      refine⟨(List.range cs.length).map vs,by simp,?_,?_,?_⟩
      ·intro j hj;simp at hj;simpa using hc j hj
      ·intro v hv;simp at hv;obtain⟨j,hj,rfl⟩:=hv;exact Ss j hj
      ·intro j hj bW;simpa using Rel.aH (hr j hj)
     obtain⟨r,v,h1,h2,h3⟩:=iB (P:=P) aJ ht bR h;exact fin hv h1 h2 h3
  ·exact h.elim
end
section
variable {c:Ctx} {s:List A} {m:List aq} {a:Act} {w w':World} {ids ab:dp} {P:Program} {im bl:Nat->Prop} {tt:TT}
variable {next:Act->World->Prop} {Q:Exit->Act->World->Prop}

theorem cm:∀(d:Nat) (x:A) (v:Value),cE d x=false->Rel ids im w x v->aw im w x v
 | 0,x,v,h,_=>by cases h
 | d+1,x,v,h,hr=>by
  cases hr with
  | aH hr=>exact hr
  | ref=>cases h
  | oref=>cases h
  | fH=>cases h
  | own=>cases h
  | jN=>cases h
  | jM=>cases h
  | fY=>cases h
  | fD=>cases h
  | omap=>cases h
  | qc=>cases h
  | ph=>cases h
  | mF=>cases h
  | pj=>cases h
  | na=>cases h
  | agg cs vs hl ho hr =>
   refine .agg cs vs hl ho fun j h1 h2=>cm d _ _ ?_ (hr j h1 h2);simp only[cE,List.any_eq_false] at h;simpa using h _ (List.getElem_mem h1)
  | tup cs vs hl hr =>
   refine .tup cs vs hl fun j h1 h2=>cm d _ _ ?_ (hr j h1 h2);simp only[cE,List.any_eq_false] at h;simpa using h _ (List.getElem_mem h1)
  | fn f cs vs hl hr =>
   refine .fn f cs vs hl fun j h1 h2=>cm d _ _ ?_ (hr j h1 h2);simp only[cE,List.any_eq_false] at h;simpa using h _ (List.getElem_mem h1)


theorem oe{x:A}{v:Value}(h1:one x=true)(h:Rel ids im w x v):gR v/\v.cells = #[v]:=by
 cases h with
 | aH h=>cases h<;>first|exact⟨rfl,rfl⟩|cases h1
 | ref=>exact⟨rfl,rfl⟩
 | oref=>exact⟨rfl,rfl⟩
 | fH=>exact⟨rfl,rfl⟩
 | own=>exact⟨rfl,rfl⟩
 | jN=>exact⟨rfl,rfl⟩
 | jM=>exact⟨rfl,rfl⟩
 | fY=>exact⟨rfl,rfl⟩
 | fD=>exact⟨rfl,rfl⟩
 | omap=>exact⟨rfl,rfl⟩
 | qc=>exact⟨rfl,rfl⟩
 | ph=>exact⟨rfl,rfl⟩
 | mF=>exact⟨rfl,rfl⟩
 | pj=>exact⟨rfl,rfl⟩
 | na=>exact⟨rfl,rfl⟩
 | agg=>cases h1
 | tup=>cases h1
 | fn=>exact⟨rfl,rfl⟩
theorem mz{x:A}{v:Value}{cs:List A}(hc:kE x=some cs)(h:Rel ids im w x v):
  ∃vs:List Value,v.cells=vs.toArray/\vs.length=cs.length/\(∀u∈vs,gR u)/\∀j (h:j<cs.length) (h':j<vs.length),Rel ids im w cs[j] vs[j]:=by
 have single:one x=true->cs=[x]->∃vs:List Value,v.cells=vs.toArray/\vs.length=cs.length/\(∀u∈vs,gR u)/\∀j (h:j<cs.length) (h':j<vs.length),Rel ids im w cs[j] vs[j]:=by
  intro h1 e;obtain⟨o1,o2⟩:=oe h1 h;refine⟨[v],by rw[o2],by rw[e];rfl,?_,?_⟩
  ·intro u hu;rw[List.mem_singleton.1 hu];exact o1
  ·subst e;intro j hj bW;have:j=0:=by simp at hj;omega
   subst this;exact h
 cases x<;>simp only[kE] at hc<;>first|cases hc|skip
 case agg =>
  obtain⟨vs,rfl,h2,h3,h4⟩:=h.gL;exact⟨vs,rfl,h2,h3,h4⟩
 all_goals exact single rfl rfl

/-- A splice of related cells. -/
theorem nd{cs us:List A}{vs xs:List Value}{off:Nat}(h1:off+us.length<=cs.length)(hl:vs.length=cs.length)(L0:xs.length=us.length)
  (hr:∀j (h:j<cs.length) (h':j<vs.length),Rel ids im w cs[j] vs[j]) (CU:∀j (h:j<us.length) (h':j<xs.length),Rel ids im w us[j] xs[j])
  (ho:∀v∈vs,gR v) (L4:∀v∈xs,gR v) :
  (vs.take off++xs++vs.drop (off+xs.length)).length=(qe cs off us).length/\(∀v∈vs.take off++xs++vs.drop (off+xs.length),gR v) /\
  ∀j (h:j<(qe cs off us).length) (h':j<(vs.take off++xs++vs.drop (off+xs.length)).length),Rel ids im w (qe cs off us)[j] (vs.take off++xs++vs.drop (off+xs.length))[j]:=by
 refine⟨by simp[qe];omega,?_,?_⟩
 ·intro v hv;simp only[List.mem_append] at hv;rcases hv with(hv|hv)|hv
  ·exact ho v (List.mem_of_mem_take hv)
  ·exact L4 v hv
  ·exact ho v (List.mem_of_mem_drop hv)
 ·intro j h h';simp only[qe] at h ⊢;have hlen:(qe cs off us).length=cs.length:=by simp[qe];omega
  by_cases c1:j<off
  ·have e1:(cs.take off++us++cs.drop (off+us.length))[j]=cs[j]'(by omega):=by
    rw[List.getElem_append_left (by simp;omega),List.getElem_append_left (by simp;omega),List.getElem_take]
   have e2:(vs.take off++xs++vs.drop (off+xs.length))[j]=vs[j]'(by omega):=by
    rw[List.getElem_append_left (by simp;omega),List.getElem_append_left (by simp;omega),List.getElem_take]
   rw[e1,e2];exact hr j (by omega) (by omega)
  ·by_cases c2:j<off+us.length
   ·have e1:(cs.take off++us++cs.drop (off+us.length))[j]=us[j-off]'(by omega):=by
     rw[List.getElem_append_left (by simp;omega),List.getElem_append_right (by simp;omega)]
     congr 1;simp;omega
    have e2:(vs.take off++xs++vs.drop (off+xs.length))[j]=xs[j-off]'(by omega):=by
     rw[List.getElem_append_left (by simp;omega),List.getElem_append_right (by simp;omega)]
     congr 1;simp;omega
    rw[e1,e2];exact CU _ (by omega) (by omega)
   ·have hj:j<cs.length:=by
     have:(qe cs off us).length=(cs.take off++us++cs.drop (off+us.length)).length:=rfl;omega
    have e1:(cs.take off++us++cs.drop (off+us.length))[j]=cs[j]:=by
     rw[List.getElem_append_right (by simp;omega),List.getElem_drop]
     congr 1;simp;omega
    have e2:(vs.take off++xs++vs.drop (off+xs.length))[j]=vs[j]'(by omega):=by
     rw[List.getElem_append_right (by simp;omega),List.getElem_drop]
     congr 1;simp;omega
    rw[e1,e2];exact hr j hj (by omega)

theorem BE{x:A}{v:Value}{cs:List A}(hc:kE x=some cs)(h:aw im w x v):
  ∃vs:List Value,v.cells=vs.toArray/\vs.length=cs.length/\(∀u∈vs,gR u)/\∀j (h:j<cs.length) (h':j<vs.length),aw im w cs[j] vs[j]:=by
 have single:one x=true->cs=[x]->∃vs:List Value,v.cells=vs.toArray/\vs.length=cs.length/\(∀u∈vs,gR u)/\∀j (h:j<cs.length) (h':j<vs.length),aw im w cs[j] vs[j]:=by
  intro h1 e;obtain⟨o1,o2⟩:=oe (ids:=[]) h1 (.aH h);refine⟨[v],by rw[o2],by rw[e];rfl,?_,?_⟩
  ·intro u hu;rw[List.mem_singleton.1 hu];exact o1
  ·subst e;intro j hj bW;have:j=0:=by simp at hj;omega
   subst this;exact h
 cases x<;>simp only[kE] at hc<;>first|cases hc|skip
 case agg =>
  cases h with
  | agg _ vs hl ho hr=>exact⟨vs,rfl,hl,ho,hr⟩
 all_goals exact single rfl rfl
theorem zg{cs us:List A}{vs xs:List Value}{off:Nat}(h1:off+us.length<=cs.length)(hl:vs.length=cs.length)(L0:xs.length=us.length)
  (hr:∀j (h:j<cs.length) (h':j<vs.length),aw im w cs[j] vs[j]) (CU:∀j (h:j<us.length) (h':j<xs.length),aw im w us[j] xs[j])
  (ho:∀v∈vs,gR v) (L4:∀v∈xs,gR v) :
  (vs.take off++xs++vs.drop (off+xs.length)).length=(qe cs off us).length/\(∀v∈vs.take off++xs++vs.drop (off+xs.length),gR v) /\
  ∀j (h:j<(qe cs off us).length) (h':j<(vs.take off++xs++vs.drop (off+xs.length)).length),aw im w (qe cs off us)[j] (vs.take off++xs++vs.drop (off+xs.length))[j]:=by
 obtain⟨q1,q2,q3⟩:=nd (ids:=[]) (im:=im) (w:=w) (cs:=cs) (us:=us) (vs:=vs) (xs:=xs) (off:=off) h1 hl L0 (fun j h h'=>.aH (hr j h h')) (fun j h h'=>.aH (CU j h h')) ho L4;refine⟨q1,q2,fun j h h'=>?_⟩
 have US:∀ {x:A} {v:Value},Rel [] im w x v->aw im w x v:=by
  intro x v h
  induction h with
  | aH h=>exact h
  | ref b off p h=>simp at h
  | oref b i off p h=>simp at h
  | fH b h=>simp at h
  | own b cap p h=>simp at h
  | jN b x n cap h=>simp at h
  | jM b off x y h=>simp at h
  | fY b i off x y h=>simp at h
  | fD b x h=>simp at h
  | omap b p h=>simp at h
  | qc b k p n h hn=>simp at h
  | ph b k n h=>simp at h
  | mF b k cap x p h hx=>simp at h
  | pj b k h=>simp at h
  | na b k x n cap h=>simp at h
  | agg cs vs hl ho hr ih=>exact .agg cs vs hl ho ih
  | tup cs vs hl hr ih=>exact .tup cs vs hl ih
  | fn f cs vs hl hr ih=>exact .fn f cs vs hl ih
 exact US (q3 j h h')

theorem fO{t:TypeId}{i:TypeInfo}(hi:P.info? t=some i)(ao off:Nat)(ty:TypeId)(cur:Array Value)(v:Value)(vs:List Value)(hv:v.cells=vs.toArray)
  (hl:vs.length=i.size) (ho:∀u∈vs,gR u) (hg:w.heap[ao]?=some (.cells cur ty (0,0))) (hle:off+vs.length<=cur.size) :
  (storeVar t ⟨ao,off,none⟩ v).run P w=.ok () (w.setRow ao (cur.toList.take off++vs++cur.toList.drop (off+vs.length)).toArray):=by
 have h1:=run_storeCells_at (P:=P) ao off ty vs 0 cur w hg (by omega) ho;unfold storeVar;have e:¬(v.cells.size≠i.size):=by rw[hv];simp[hl]
 simp[sizeOf,typeInfo,hi,hv,<-hl] at e ⊢;simpa using h1
end
section
variable {c:Ctx} {s:List A} {m:List aq} {a:Act} {w w':World} {ids ab:dp} {P:Program} {im bl:Nat->Prop} {tt:TT}
variable {next:Act->World->Prop} {Q:Exit->Act->World->Prop}

theorem kF{size:Nat}{cs:List A}{off:Nat}{v:A}{K:List A->Prop}(h:Kd size cs off v K):
  ∃vs,kE v=some vs/\vs.length=size/\off+size<=cs.length/\K (qe cs off vs):=by
 unfold Kd at h;split at h
 ·rename_i vs hv;split at h
  ·rename_i h1 h2;rw[ck] at h;exact⟨vs,hv,Nat.eq_of_beq_eq_true h1,Nat.le_of_ble_eq_true h2,h⟩
  ·exact h.elim
 ·exact h.elim

theorem aF.jS(hs:aF c s m a w ids)(d:Option Nat)(v:Value):aF c (_root_.Go.Proofs.YtijddijloelacaaGreat.Am.aZ s d .ae) m (a.put d v) w ids:=hs.aZ d (.aH (.ae _))

theorem kG(aJ:bo P tt)(hs:aF c s m a w ids){o:Oper}{t:TypeId}{X Y:Operand}(ho:o.op=.store t X Y){K:KT}
  (h:s8 tt t (ev s X) (ev s Y) m K) (hn:∀v m' a' w' ab,K v m'->aF c (aZ s o.dst v) m' a' w' ab->next a' w'):o.wp P a w next Q:=by
 have hx:=hs.ev X;have hy:=hs.ev Y;unfold s8 at h
 have e1:∀ao off,a.eval X=.pointer (some ⟨ao,off,none⟩)->execOp a.eval o=(do storeVar t ⟨ao,off,none⟩ (a.eval Y);pure .skip):=by
  intro ao off he;unfold execOp;rw[ho];simp only[he];rfl
 split at h
 ·exact h.elim
 ·rename_i ti ht;obtain⟨i,d,z,hi,hd,hz,bM,_⟩:=aJ.facts ht;split at h
  ·rename_i b off he;rw[he] at hx;split at h
   ·rename_i ty cs hb;obtain⟨p,bQ,hv⟩:=hs.wB hx (by rw[hb];simp);obtain⟨us,hu,Kk,hle,h⟩:=kF h;rw[eC] at h;obtain⟨xs,L5,vF,J9,NO⟩:=mz hu hy;obtain⟨x,E6,hr⟩:=hs.dU bQ;rw[bf E6] at hb;subst hb;obtain⟨vs,h1,h2,h3,h4⟩:=hr;have qL:=fO (P:=P) (w:=w) hi p.ao off ty vs (a.eval Y) xs L5 (by omega) J9 h1 (by omega)
    obtain⟨q1,q2,q3⟩:=nd (ids:=ids) (im:=au c ids w) (w:=w) (cs:=cs) (us:=us) (vs:=vs.toList) (xs:=xs) (off:=off) (by omega) (by simp;omega) (by omega)
     (fun j hj bW=>by simpa using(h4 j hj (by simpa using bW)).1) NO
     (fun v hv=>by obtain⟨j,hj,rfl⟩:=List.getElem_of_mem hv;simp at hj;simpa using(h4 j (by omega) hj).2) J9
    have bH:=hs.setRow b p bQ (.box ty (qe cs off us)) vs (vs.toList.take off++xs++vs.toList.drop (off+xs.length)).toArray ty h1 (fun g1 g2 _=>by
     refine⟨_,g1,?_,?_,?_⟩
     ·simp;omega
     ·simp[qe];omega
     ·intro j hj bW;simp only[List.size_toArray] at bW;refine⟨g2 _ _ (by simpa using q3 j hj bW),?_⟩;simpa using q2 _ (List.getElem_mem bW))
    refine gB (w':=w.setRow p.ao (vs.toList.take off++xs++vs.toList.drop (off+xs.length)).toArray) ?_ (hn _ _ _ _ _ h (bH.jS o.dst _));rw[e1 _ _ hv];simp at qL;simp[qL]
   ·exact h.elim
  ·rename_i b i' off he;rw[he] at hx;split at h
   ·rename_i ty sz n row hb;obtain⟨p,bQ,hv⟩:=hs.kB hx (by rw[hb];simp);split at h
    case h_2=>exact h.elim
    rename_i aU;have hy:=cm 4 _ _ aU hy;obtain⟨aI,h⟩:=h;rw[ck] at h;obtain⟨us,hu,Kk,hle,h⟩:=kF h;rw[eC] at h;obtain⟨xs,L5,vF,J9,NO⟩:=BE hu hy;obtain⟨x,E6,hr⟩:=hs.dU bQ;rw[bf E6] at hb;subst hb;obtain⟨g1,g2,vs,h1,h2,h3,hl,h4⟩:=hr
    have hmul:i'*sz+sz<=n*sz:=by
     have:(i'+1)*sz<=n*sz:=Nat.mul_le_mul_right _ aI;rw[Nat.add_mul] at this;omega
    rw[hl i' aI] at hle;have qL:=fO (P:=P) (w:=w) hi p.ao (i'*p.sz+off) ty vs (a.eval Y) xs L5 (by omega) J9 h1 (by rw[g1];omega);rw[g1] at qL
    have bH:=hs.setRow b p bQ (.row ty sz n (ju row i' (qe (row i') off us))) vs (vs.toList.take (i'*sz+off)++xs++vs.toList.drop (i'*sz+off+xs.length)).toArray ty h1 (fun k1 _ k2=>by
     refine⟨g1,g2,_,k1,by simp;omega,h3,?_,?_⟩
     ·intro j hj;unfold ju;split
      ·simp[qe];rw[hl i' aI];omega
      ·exact hl j hj
     ·intro j j' hj Kc L6;simp only[List.size_toArray] at L6
      have TE:(ju row i' (qe (row i') off us) j).length=sz:=by
       unfold ju;split
       ·simp[qe];rw[hl i' aI];omega
       ·exact hl j hj
      have WH:j'<sz:=by omega
      have ZE:j*sz+sz<=n*sz:=by
       have:(j+1)*sz<=n*sz:=Nat.mul_le_mul_right _ hj;rw[Nat.add_mul] at this;omega
      by_cases Au:j=i'
      ·subst Au
       obtain⟨q1,q2,q3⟩:=zg (im:=au c ids w) (w:=w) (cs:=row j) (us:=us) (vs:=(vs.toList.drop (j*sz)).take sz) (xs:=xs) (off:=off)
        (by rw[hl j hj];omega) (by simp;rw[hl j hj];omega) (by omega)
        (fun k hk gn=>by
         simp at gn;simpa using(h4 j k hj hk (by omega)).1) NO
        (fun v hv=>by
         obtain⟨k,hk,rfl⟩:=List.getElem_of_mem hv;simp at hk;simpa using(h4 j k hj (by rw[hl j hj];omega) (by omega)).2) J9
       have dC:ju row j (qe (row j) off us) j=qe (row j) off us:=by simp[ju]
       have e2:(vs.toList.take (j*sz+off)++xs++vs.toList.drop (j*sz+off+xs.length))[j*sz+j'] =
         (((vs.toList.drop (j*sz)).take sz).take off++xs++((vs.toList.drop (j*sz)).take sz).drop (off+xs.length))[j']'(by rw[q1];simp[qe];rw[hl j hj];omega):=by
        by_cases c1:j'<off
        ·rw[List.getElem_append_left (by simp;omega),List.getElem_append_left (by simp;omega),List.getElem_append_left (by simp;omega),List.getElem_append_left (by simp;omega)];simp
        ·by_cases c2:j'<off+xs.length
         ·rw[List.getElem_append_left (by simp;omega),List.getElem_append_right (by simp;omega),List.getElem_append_left (by simp;omega),List.getElem_append_right (by simp;omega)]
          congr 1;simp;omega
         ·rw[List.getElem_append_right (by simp;omega),List.getElem_append_right (by simp;omega)];simp
          congr 1;omega
       have uH:j'<(qe (row j) off us).length:=by simp[qe];rw[hl j hj];omega
       have r1:=q3 j' uH (by rw[q1];exact uH);rw[<-e2] at r1;have r2:=q2 _ (List.getElem_mem (by rw[q1];exact uH:j'<_));rw[<-e2] at r2;simp only[dC];exact⟨k2 _ _ (by simpa using r1),by simpa using r2⟩
      ·have dC:ju row i' (qe (row i') off us) j=row j:=by simp[ju,Au]
       have e2:(vs.toList.take (i'*sz+off)++xs++vs.toList.drop (i'*sz+off+xs.length))[j*sz+j']=vs[j*sz+j']'(by omega):=by
        rcases Nat.lt_or_ge j i' with hc|hc
        ·have:(j+1)*sz<=i'*sz:=Nat.mul_le_mul_right _ hc;rw[Nat.add_mul] at this;rw[List.getElem_append_left (by simp;omega),List.getElem_append_left (by simp;omega)];simp
        ·have:(i'+1)*sz<=j*sz:=Nat.mul_le_mul_right _ (by omega);rw[Nat.add_mul] at this;rw[List.getElem_append_right (by simp;omega)];simp
         congr 1;omega
       simp only[dC] at Kc ⊢;have:=h4 j j' hj Kc (by omega);rw[<-e2] at this;exact⟨k2 _ _ (by simpa using this.1),by simpa using this.2⟩)
    refine gB (w':=w.setRow p.ao (vs.toList.take (i'*sz+off)++xs++vs.toList.drop (i'*sz+off+xs.length)).toArray) ?_ (hn _ _ _ _ _ h (bH.jS o.dst _));rw[g1] at hv;rw[e1 _ _ hv];simp at qL;simp[qL]
   ·exact h.elim
  ·exact h.elim
end
section
variable {c:Ctx} {s:List A} {m:List aq} {a:Act} {w w':World} {ids ab:dp} {P:Program} {im bl:Nat->Prop} {tt:TT}
variable {next:Act->World->Prop} {Q:Exit->Act->World->Prop}

theorem kg:∀(vs:List Value) (k off:Nat) (cs:Array Value),off+k+vs.length<=cs.size ->
  (vs.zipIdx k).foldl (fun cs (p:Value×Nat)=>cs.setIfInBounds (off+p.2) p.1) cs=(cs.toList.take (off+k)++vs++cs.toList.drop (off+k+vs.length)).toArray
 | [],k,off,cs,h=>by simp
 | v::vs,k,off,cs,h=>by
  simp only[List.length_cons] at h;rw[List.zipIdx_cons,List.foldl_cons,kg vs (k+1) off _ (by simp;omega)]
  congr 1
  have aI:off+k<cs.size:=by omega
  apply List.ext_getElem
  ·simp;omega
  ·intro j h1 h2;simp only[Array.toList_setIfInBounds];by_cases c1:j<off+k
   ·rw[List.getElem_append_left (by simp;omega),List.getElem_append_left (by simp;omega),List.getElem_append_left (by simp;omega),List.getElem_append_left (by simp;omega)];simp[List.getElem_set];omega
   ·by_cases c2:j=off+k
    ·subst c2;rw[List.getElem_append_left (by simp;omega),List.getElem_append_left (by simp;omega),List.getElem_append_left (by simp;omega),List.getElem_append_right (by simp;omega)];simp;have e:min (off+k) cs.size=off+k:=by omega
     simp[e]
    ·by_cases c3:j<off+k+1+vs.length
     ·rw[List.getElem_append_left (by simp;omega),List.getElem_append_right (by simp;omega),List.getElem_append_left (by simp;omega),List.getElem_append_right (by simp;omega)];have e1:min (off+(k+1)) cs.size=off+k+1:=by omega
      have e2:min (off+k) cs.size=off+k:=by omega
      simp only[List.length_take,List.length_set,Array.length_toList,e1,e2];rw[List.getElem_cons];rw[dif_neg (by omega)]
      congr 1
     ·rw[List.getElem_append_right (by simp;omega),List.getElem_append_right (by simp;omega)];have e1:min (off+(k+1)) cs.size=off+k+1:=by omega
      have e2:min (off+k) cs.size=off+k:=by omega
      simp only[List.getElem_drop,List.length_append,List.length_take,List.length_set,Array.length_toList,e1,e2,List.length_cons];rw[List.getElem_set,if_neg (by omega)]
      congr 1;omega

theorem E7(place:Nat->Option (Nat×Nat))(cells:Array Value)(i:Nat)(v:Value)(rest:List (Nat×Value))(off size:Nat)(vs:List Value)
  (hp:place i=some (off,size)) (hv:v.cells=vs.toArray) (hl:vs.length=size) (hle:off+size<=cells.size) :
  Instr.fill place cells ((i,v)::rest)=Instr.fill place (cells.toList.take off++vs++cells.toList.drop (off+vs.length)).toArray rest:=by
 have:=kg vs 0 off cells (by omega);rw[Instr.fill,hp];simp only[hv];rw[if_neg (by simp;omega)]
 congr 1
 simp only[Nat.add_zero] at this;rw[<-this];simp

/-- Parts and their values, one by one. -/
def lP(ids:dp)(im:Nat->Prop)(w:World)(ps:List (Nat×A))(qs:List (Nat×Value)):Prop :=
 ps.length=qs.length/\∀j (h:j<ps.length) (h':j<qs.length),ps[j].1=qs[j].1/\Rel ids im w ps[j].2 qs[j].2

theorem lP.cons_inv{p:Nat×A}{ps:List (Nat×A)}{qs:List (Nat×Value)}(h:lP ids im w (p::ps) qs):
  ∃v St,qs=(p.1,v)::St/\Rel ids im w p.2 v/\lP ids im w ps St:=by
 obtain⟨hl,hr⟩:=h;cases qs with
 | nil=>simp at hl
 | cons q qs =>
  have h0:=hr 0 (by simp) (by simp);simp at h0;refine⟨q.2,qs,?_,h0.2,by simpa using hl,?_⟩
  ·rw[h0.1]
  ·intro j h1 h2;have:=hr (j+1) (by simpa using h1) (by simpa using h2);simpa using this

theorem nf{ti:TI}:∀(ps:List (Nat×A)) (qs:List (Nat×Value)) (cs:List A) (vs:List Value) (K:List A->Prop),lP ids im w ps qs->vs.length=cs.length->(∀v∈vs,gR v) ->
  (∀j (h:j<cs.length) (h':j<vs.length),Rel ids im w cs[j] vs[j])->nc ti ps cs K ->
  ∃(dc:List A) (du:List Value),Instr.fill (placeOf ti) vs.toArray qs=some du.toArray/\K dc/\du.length=dc.length/\(∀v∈du,gR v)/\(∀j (h:j<dc.length) (h':j<du.length),Rel ids im w dc[j] du[j])
 | [],qs,cs,vs,K,hp,hl,ho,hr,h=>by
  have:qs=[]:=by have:=hp.1;cases qs<;>simp at this ⊢
  subst this;exact⟨cs,vs,rfl,h,hl,ho,hr⟩
 | (i,x)::ps,qs,cs,vs,K,hp,hl,ho,hr,h=>by
  obtain⟨v,St,rfl,hv,Nk⟩:=hp.cons_inv;simp only[nc] at h;split at h
  ·rename_i off size us MP hc;split at h
   ·rename_i h1 h2;have h1:=Nat.eq_of_beq_eq_true h1;have h2:=Nat.le_of_ble_eq_true h2;rw[ck] at h;obtain⟨xs,L5,vF,J9,NO⟩:=mz hc hv;obtain⟨q1,q2,q3⟩:=nd (ids:=ids) (im:=im) (w:=w) (cs:=cs) (us:=us) (vs:=vs) (xs:=xs) (off:=off) (by omega) hl vF hr NO ho J9;obtain⟨dc,du,f1,f2,f3,f4,f5⟩:=nf ps St _ _ K Nk q1 q2 q3 h;refine⟨dc,du,?_,f2,f3,f4,f5⟩;rw[E7 _ _ i v St off size xs MP L5 (by omega) (by simp;omega)];simpa using f1
   ·exact h.elim
  ·exact h.elim
end
section
variable {c:Ctx} {s:List A} {m:List aq} {a:Act} {w w':World} {ids ab:dp} {P:Program} {im bl:Nat->Prop} {tt:TT}
variable {next:Act->World->Prop} {Q:Exit->Act->World->Prop} {o:Oper}

abbrev bZ(c:Ctx)(s:List A)(o:Oper)(K:KT)(next:Act->World->Prop):Prop :=
 ∀v m' a' w' ab,K v m'->aF c (aZ s o.dst v) m' a' w' ab->next a' w'

/-- An operation that yields a value, the world as it was. -/
theorem aO(hs:aF c s m a w ids){K:KT}(hn:bZ c s o K next)
  (h:∃r v,(execOp a.eval o).run P w=.ok (.value v) w/\K r m/\Rel ids (au c ids w) w r v):o.wp P a w next Q:=by
 obtain⟨r,v,h1,h2,h3⟩:=h;exact aQ h1 (hn r m _ _ ids h2 (hs.aZ o.dst h3))

theorem qf(hs:aF c s m a w ids){X:Operand}(ho:o.op=.move X\/o.op=.assign X){K:KT}(h:K (ev s X) m)(hn:bZ c s o K next):o.wp P a w next Q :=
 aO hs hn ⟨_,a.eval X,by unfold execOp;rcases ho with ho|ho<;>rw[ho]<;>rfl,h,hs.ev X⟩

theorem zh(hs:aF c s m a w ids){X Y Z:Operand}(ho:o.op=.pick X Y Z){K:KT}(h:zc (ev s X) (ev s Y) (ev s Z) fun v=>K v m)(hn:bZ c s o K next):o.wp P a w next Q:=by
 have hx:=hs.ev X;have e:execOp a.eval o=(do pure (.value (if <-asBool (a.eval X) then a.eval Y else a.eval Z))):=by unfold execOp;rw[ho]
 unfold zc at h;split at h
 ·rename_i hv;rw[hv] at hx;rw[db] at h;exact aO hs hn ⟨_,a.eval Y,by rw[e,hx.dR];rfl,h,hs.ev Y⟩
 ·rename_i hv;rw[hv] at hx;rw[db] at h;exact aO hs hn ⟨_,a.eval Z,by rw[e,hx.dR];rfl,h,hs.ev Z⟩
 ·rename_i b hv;rw[hv] at hx;rw[db,db] at h;cases b
  ·exact aO hs hn ⟨_,a.eval Z,by rw[e,hx.iL];rfl,h.2 rfl,hs.ev Z⟩
  ·exact aO hs hn ⟨_,a.eval Y,by rw[e,hx.iL];rfl,h.1 rfl,hs.ev Y⟩
 ·exact h.elim

theorem td(hs:aF c s m a w ids){X:Operand}{ix:Nat}(ho:o.op=.extract X ix){K:KT}(h:lO (ev s X) ix fun v=>K v m)(hn:bZ c s o K next):o.wp P a w next Q:=by
 have hx:=hs.ev X;have e:execOp a.eval o=(do let z <-Instr.extract (a.eval X) ix;pure (.value z)):=by unfold execOp;rw[ho]
 unfold lO at h;split at h
 ·rename_i vs hv;rw[hv] at hx;split at h
  ·rename_i aI;have aI:ix<vs.length:=Nat.le_of_ble_eq_true aI;rw[db] at h;obtain⟨us,h1,h2,h3⟩:=hx.kA;refine aO hs hn ⟨_,us[ix]'(by omega),?_,h,?_⟩
   ·rw[e,h1];simp[Instr.extract,List.getElem?_eq_getElem (show ix<us.length by omega)]
   ·simpa[List.getD_eq_getElem?_getD,aI] using h3 ix aI (by omega)
  ·exact h.elim
 ·exact h.elim

theorem BF(hs:aF c s m a w ids){X:Operand}(ho:o.op=.nilCheck X){K:KT}(h:I6 (ev s X) fun v=>K v m)(hn:bZ c s o K next):o.wp P a w next Q:=by
 have hx:=hs.ev X
 have fin:∀v,a.eval X=v->(∀p,v=.pointer p->p≠none)->((∃p,v=.pointer p)\/∃f us,v=.func (.func f) #[] us)->(execOp a.eval o).run P w=.ok (.value v) w:=by
  intro v hv h1 h2;unfold execOp;rw[ho];simp only[hv];rcases h2 with⟨p,rfl⟩|⟨f,us,rfl⟩
  ·cases p with
   | none=>exact absurd rfl (h1 none rfl)
   | some p=>rfl
  ·rfl
 unfold I6 at h;split at h
 ·rename_i hv;rw[hv] at hx
  obtain⟨q,h2⟩:∃q,a.eval X=.pointer (some q):=by
   rcases hx.gK with⟨p,_,h2⟩|⟨_,x,y,h2⟩<;>exact⟨_,h2⟩
  exact aO hs hn ⟨_,a.eval X,fin _ rfl (fun q hq=>by rw[h2] at hq;cases hq;simp) (.inl ⟨_,h2⟩),h,hx⟩
 ·rename_i hv;rw[hv] at hx
  obtain⟨q,h2⟩:∃q,a.eval X=.pointer (some q):=by
   rcases hx.gS with⟨p,_,h2⟩|⟨_,x,y,h2⟩<;>exact⟨_,h2⟩
  exact aO hs hn ⟨_,a.eval X,fin _ rfl (fun q hq=>by rw[h2] at hq;cases hq;simp) (.inl ⟨_,h2⟩),h,hx⟩
 ·rename_i hv;rw[hv] at hx
  have h2:∃q,a.eval X=.pointer (some q):=by
   cases hx with|aH hx=>generalize a.eval X=vv at hx;cases hx;exact⟨_,rfl⟩
  obtain⟨q,h2⟩:=h2;exact aO hs hn ⟨_,a.eval X,fin _ rfl (fun q hq=>by rw[h2] at hq;cases hq;simp) (.inl ⟨_,h2⟩),h,hx⟩
 ·rename_i hv;rw[hv] at hx;obtain⟨us,h2,_⟩:=hx.fM;exact aO hs hn ⟨_,a.eval X,fin _ rfl (fun q hq=>by rw[h2] at hq;cases hq) (.inr ⟨_,_,h2⟩),h,hx⟩
 ·exact h.elim

theorem qg(aJ:bo P tt)(hs:aF c s m a w ids){X:Operand}{src dst:TypeId}(ho:o.op=.convert src dst X){K:KT}(h:uX tt src dst (ev s X) fun v=>K v m)(hn:bZ c s o K next):o.wp P a w next Q:=by
 have hx:=hs.ev X;have e:execOp a.eval o=(do let z <-convert src dst (a.eval X);pure (.value z)):=by unfold execOp;rw[ho]
 unfold uX at h;split at h
 ·rename_i tj ti hj hi;obtain⟨i,d,z,_,hd,_⟩:=aJ.facts hj;obtain⟨i',d',z',_,gZ,_,_,_,_,_,_,_,_,_,_,Nf,tY,_⟩:=aJ.facts hi;split at h
  ·rename_i k n hk hv;rw[hv] at hx;rw[Nf hk] at gZ;rw[I7] at h;refine aO hs hn ⟨_,.int ti.ik (ti.ik.wrap n),?_,lM h,.aH (.int _ _)⟩;rw[e,hx.bS];simp[convert,underlying,hd,gZ,Conv.intToInt]
  ·rename_i st hk hv;rw[hv] at hx;rw[tY hk] at gZ;refine aO hs hn ⟨_,.string ⟨st.toArray⟩,?_,h,.aH (.str _)⟩;rw[e,hx.gJ];simp[convert,underlying,hd,gZ]
  ·exact h.elim
 ·exact h.elim
end
section
variable {c:Ctx} {s:List A} {m:List aq} {a:Act} {w w':World} {ids ab:dp} {P:Program} {im bl:Nat->Prop} {tt:TT}
variable {next:Act->World->Prop} {Q:Exit->Act->World->Prop} {o:Oper}

theorem zi{cs:List A}{off:Nat}{v:Value}(h:Rel ids im w (.bref cs off) v):
  ∃ao base,v=.pointer (some ⟨ao,base+off,none⟩)/\∀L7,Rel ids im w (.bref cs L7) (.pointer (some ⟨ao,base+L7,none⟩)):=by
 cases h with
 | aH h=>cases h with|bref ao base _ _ vs hb hc ho hr=>exact⟨ao,base,rfl,fun L7=>.aH (.bref ao base L7 cs vs hb hc ho hr)⟩

theorem pr(aJ:bo P tt)(hs:aF c s m a w ids){t:TypeId}{X:Operand}{f:Nat}(ho:o.op=.fieldAddr t X f){K:KT}
  (h:gC tt t (ev s X) f m K) (hn:bZ c s o K next):o.wp P a w next Q:=by
 have hx:=hs.ev X;have e:execOp a.eval o=(do let z <-Instr.fieldAt t (a.eval X) f;pure (.value z)):=by unfold execOp;rw[ho]
 unfold gC at h;split at h
 ·exact h.elim
 ·rename_i ti ht;obtain⟨i,d,z,hi,hd,_,_,_,_,_,_,FH,BD,_⟩:=aJ.facts ht;split at h
  ·rename_i hk;obtain⟨fs,Su,I9⟩:=FH hk;obtain⟨PJ,I',fP⟩:=BD hk;have:PJ=fs:=by rw[Su] at I';cases I';rfl
   subst this;subst Su;split at h
   ·exact h.elim
   ·rename_i fo X8 Nb;rw[I9,List.getElem?_map] at Nb;cases LS:PJ.toList[f]? with
    | none=>rw[LS] at Nb;cases Nb
    | some fd =>
     rw[LS] at Nb;simp only[Option.map_some,Option.some.injEq,Prod.mk.injEq] at Nb;obtain⟨rfl,rfl⟩:=Nb
     have bM:((P.info? fd.type).map (·.size)).getD 0≠0:=by
      have:=List.all_eq_true.1 fP fd (List.mem_of_getElem? LS);simpa using this
     have run:∀ao off,a.eval X=.pointer (some ⟨ao,off,none⟩)->(execOp a.eval o).run P w=.ok (.value (.pointer (some ⟨ao,off+fd.offset,none⟩))) w:=by
      intro ao off hv;rw[e,hv];cases PK:P.info? fd.type with
      | none=>rw[PK] at bM;simp at bM
      | some fi =>
       rw[PK] at bM;simp only[Option.map_some,Option.getD_some] at bM;have X9:PJ[f]?=some fd:=by simpa using LS
       have Ja:Addr.add ⟨ao,off,none⟩ fd.offset=⟨ao,off+fd.offset,none⟩:=by
        unfold Addr.add;split
        ·rename_i h0;rw[h0];rfl
        ·rfl
       simp[Instr.fieldAt,underlying,hd,X9,Instr.sureAddr,fieldPlace,sizeOf,typeInfo,PK,bM,Ja]
     split at h
     ·rename_i b off hv;rw[hv] at hx;rw[aN] at h;rcases hx.gK with⟨p,h1,h2⟩|⟨h1,x,y,h2⟩
      ·exact aO hs hn ⟨_,_,run _ _ h2,h,.ref b _ p h1⟩
      ·exact aO hs hn ⟨_,_,run _ _ h2,h,.jM b _ _ _ h1⟩
     ·rename_i b i' off hv;rw[hv] at hx;rw[aN] at h;rcases hx.gS with⟨p,h1,h2⟩|⟨h1,x,y,h2⟩
      ·refine aO hs hn ⟨_,_,run _ _ h2,h,?_⟩;rw[Nat.add_assoc];exact .oref b i' _ p h1
      ·exact aO hs hn ⟨_,_,run _ _ h2,h,.fY b i' _ _ _ h1⟩
     ·rename_i cs off hv;rw[hv] at hx;obtain⟨ao,base,h1,h2⟩:=zi hx;rw[aN] at h;refine aO hs hn ⟨_,_,run _ _ h1,h,?_⟩;rw[Nat.add_assoc];exact h2 _
     ·exact h.elim
  ·exact h.elim

theorem tf(ao off n:Nat):Addr.add ⟨ao,off,none⟩ n=⟨ao,off+n,none⟩:=by
 unfold Addr.add;split
 ·rename_i h0;rw[h0];rfl
 ·rfl

theorem pt(aJ:bo P tt)(hs:aF c s m a w ids){t:TypeId}{X Y:Operand}(ho:o.op=.indexAddr t X Y){K:KT}
  (h:dV tt t (ev s X) (ev s Y) m K) (hn:bZ c s o K next):o.wp P a w next Q:=by
 have hx:=hs.ev X;have hy:=hs.ev Y;have e:execOp a.eval o=(do let z <-Instr.indexAt t (a.eval X) (a.eval Y);pure (.value z)):=by unfold execOp;rw[ho]
 unfold dV at h;split at h
 ·exact h.elim
 ·rename_i ti ht;obtain⟨i,d,z,hi,hd,_,_,_,_,_,_,_,_,nz,iU,_⟩:=aJ.facts ht;split at h
  ·rename_i k ix hk hv;rw[hv] at hy;obtain⟨ie,ze,BG,iw,ng,_⟩:=iU hk;subst BG
   have run:∀ao base n cap,a.eval X=.slice (some ⟨ao,base,none⟩) n cap->0<=ix->ix<n->(execOp a.eval o).run P w=.ok (.value (.pointer (some ⟨ao,base+ix.toNat*ti.br,none⟩))) w:=by
    intro ao base n cap zj h0 h1;rw[e,zj,hy.bS];simp[Instr.indexAt,asIntOf,underlying,hd,h0,h1,sizeOf,typeInfo,iw,ng,tf]
   split at h
   ·rename_i n sz row zj;rw[zj] at hx;split at h
    ·rename_i bM;have bM:sz=ti.br:=Nat.eq_of_beq_eq_true bM;obtain⟨⟨h0,h1⟩,h⟩:=h;rw[ck] at h;cases hx with
     | aH hx =>
      generalize QE:a.eval X=vv at hx;cases hx with
      | rJ=>exact absurd h1 (by simp;omega)
      | sle=>exact absurd h1 (by simp;omega)
      | sl _ _ _ ao base cap vs hb ke hl hc Ss hr =>
       have aI:ix.toNat<n:=by omega
       refine aO hs hn ⟨_,_,run _ _ _ _ QE h0 h1,h,?_⟩;rw[<-bM];refine .aH (.bref ao (base+ix.toNat*sz) 0 (row ix.toNat) (vs ix.toNat) hb ?_ ?_ ?_)
       ·intro j hj;rw[hl _ aI] at hj;exact hc _ _ aI hj
       ·intro j hj;rw[hl _ aI] at hj;exact Ss _ _ aI hj
       ·intro j hj;exact hr _ _ aI hj
    ·exact h.elim
   ·rename_i b zj;rw[zj] at hx;split at h
    ·rename_i ty sz n row hb;split at h
     ·rename_i bM;have bM:sz=ti.br:=Nat.eq_of_beq_eq_true bM;obtain⟨⟨h0,h1⟩,h⟩:=h;rcases hs.fk hx (by rw[hb];simp) with⟨g1,g2⟩|⟨p,cap,g1,g2,g3,g4⟩
      ·exfalso
       have eU:b<ids.length:=by
        rcases Nat.lt_or_ge b ids.length with h'|h'
        ·exact h'
        ·rw[List.getElem?_eq_none h'] at g1;cases g1
       have kH:b<m.length:=by rw[<-hs.aK];exact eU
       have kX:=hs.bu b kH eU;rw[List.getElem?_eq_getElem eU] at g1;rw[Option.some.inj g1] at kX;have:m[b]=.row ty sz n row:=by simpa[List.getD_eq_getElem?_getD,kH] using hb
       rw[this] at kX;have kX:n=0:=kX;omega
      ·obtain⟨x,lq,kX⟩:=hs.dU g1;rw[bf lq] at hb;subst hb;obtain⟨q1,q2,_⟩:=kX;rw[q2] at g4;refine aO hs hn ⟨_,_,run _ _ _ _ g4 h0 h1,h,?_⟩;have:=Rel.oref (ids:=ids) (im:=au c ids w) (w:=w) b ix.toNat 0 p g1;rw[<-bM,<-q1];simpa using this
     ·exact h.elim
    ·exact h.elim
   ·exact h.elim
  ·rename_i k ix hk hv;rw[hv] at hy;obtain⟨ie,BG,iw,ng⟩:=nz hk;subst BG
   have run:∀ao off,a.eval X=.pointer (some ⟨ao,off,none⟩)->0<=ix->ix<(ti.kC:Int)->(execOp a.eval o).run P w=.ok (.value (.pointer (some ⟨ao,off+ix.toNat*ti.br,none⟩))) w:=by
    intro ao off zj h0 h1;rw[e,zj,hy.bS];simp[Instr.indexAt,asIntOf,underlying,hd,Instr.sureAddr,h0,h1,sizeOf,typeInfo,iw,ng,tf]
   split at h
   ·rename_i b off zj;rw[zj] at hx;obtain⟨⟨h0,h1⟩,h⟩:=h;rw[aN] at h;rcases hx.gK with⟨p,g1,g2⟩|⟨g1,x,y,g2⟩
    ·exact aO hs hn ⟨_,_,run _ _ g2 h0 h1,h,.ref b _ p g1⟩
    ·exact aO hs hn ⟨_,_,run _ _ g2 h0 h1,h,.jM b _ _ _ g1⟩
   ·rename_i cs off zj;rw[zj] at hx;obtain⟨⟨h0,h1⟩,h⟩:=h;obtain⟨ao,base,g1,g2⟩:=zi hx;rw[aN] at h;refine aO hs hn ⟨_,_,run _ _ g1 h0 h1,h,?_⟩;rw[Nat.add_assoc];exact g2 _
   ·exact h.elim
  ·exact h.elim
end
section
variable {c:Ctx} {s:List A} {m:List aq} {a:Act} {w w':World} {ids ab:dp} {P:Program} {im bl:Nat->Prop} {tt:TT}
variable {next:Act->World->Prop} {Q:Exit->Act->World->Prop} {o:Oper}

/-- A new block, and a value that names it. -/
theorem wF(hs:aF c s m a w ids){K:KT}(hn:bZ c s o K next)(x:aq)(vs:Array Value)(ty:TypeId)(n sz:Nat){r:A}{v:Value}
  (bR:(execOp a.eval o).run P w=.ok (.value v) (w.alloc (.cells vs ty))) (hk:K r (m++[x]))
  (hx:∀ab bl w',(∀b,au c ids w b->bl b)->(∀b,au c ids w b->w'.heap[b]?=w.heap[b]?)->(∀(b:Nat) p,ids[b]?=some p->p≠.dead->ab[b]?=some p) ->
   w'.heap[w.heap.size]?=some (.cells vs ty (0,0))->aV ab bl w' x (.lv (mkId w.heap.size vs.size n sz)))
  (hr:∀ab bl w',ab[m.length]?=some (.lv (mkId w.heap.size vs.size n sz))->Rel ab bl w' r v):o.wp P a w next Q:=by
 have bH:=hs.alloc x vs ty n sz hx;refine aQ bR (hn r _ _ _ _ hk (bH.aZ o.dst (hr _ _ _ ?_)));rw[<-hs.aK];simp

theorem BH(hs:aF c s m a w ids){t:TypeId}{X:Operand}(ho:o.op=.box t X){K:KT}(h:PD t (ev s X) m K)(hn:bZ c s o K next):o.wp P a w next Q:=by
 have hx:=hs.ev X;unfold PD at h;split at h
 ·rename_i cs hc;rw[eQ] at h;obtain⟨vs,h1,h2,h3,h4⟩:=mz hc hx;refine wF hs hn (.box t cs) vs.toArray t 0 0 (v:=.pointer (some ⟨w.heap.size,0,none⟩)) ?_ h ?_ ?_
  ·unfold execOp;rw[ho];simp[Instr.box,newVar,newRow,h1]
  ·intro ab bl w' g1 g2 g3 g4;refine⟨vs.toArray,g4,rfl,by simp[h2],?_⟩;intro j hj bW;simp at bW;refine⟨(by simpa using(h4 j hj bW).mono g1 g2 g3),?_⟩;simpa using h3 _ (List.getElem_mem bW)
  ·intro ab bl w' g;exact .ref _ _ _ g
 ·exact h.elim

theorem wG(aJ:bo P tt)(hs:aF c s m a w ids){t:TypeId}(ho:o.op=.alloc t){K:KT}(h:BA tt t m K)(hn:bZ c s o K next):o.wp P a w next Q:=by
 unfold BA at h;split at h
 ·rename_i ti ht;obtain⟨i,d,z,hi,hd,hz,bM,fG,oG,hzero,_⟩:=aJ.facts ht;rw[eQ] at h;refine wF hs hn (.box t ti.zero) z.cells t 0 0 (v:=.pointer (some ⟨w.heap.size,0,none⟩)) ?_ h ?_ ?_
  ·unfold execOp;rw[ho];simp[Instr.alloc,zeroValue,typeInfo,hi,hz,newVar,newRow]
  ·intro ab bl w' g1 g2 g3 g4;refine⟨z.cells,g4,rfl,by simp[hzero],?_⟩;intro j hj bW;refine⟨?_,fG _ (by simp)⟩;simp only[hzero,List.getElem_map,Array.getElem_toList];exact .aH (dT _ _ _)
  ·intro ab bl w' g;exact .ref _ _ _ g
 ·exact h.elim

theorem uY(hs:aF c s m a w ids)(ps:List (Nat×Operand)):lP ids (au c ids w) w (ps.map fun p=>(p.1,ev s p.2)) (ps.map fun p=>(p.1,a.eval p.2)) :=
 ⟨by simp,fun j h h'=>by simp;exact hs.ev _⟩

theorem E8(fs:List Field)(h:fs.all (fun f=>((P.info? f.type).map (·.size)).getD 0 != 0)=true):
  fs.mapM (fun f=>(P.info? f.type).map fun i=>(f.offset,i.size))=some (fs.map fun f=>(f.offset,((P.info? f.type).map (·.size)).getD 0)):=by
 induction fs with
 | nil=>rfl
 | cons f fs ih =>
  simp only[List.all_cons,Bool.and_eq_true] at h;cases hi:P.info? f.type with
  | none=>rw[hi] at h;simp at h
  | some i=>simp[hi,ih h.2]

theorem wH(aJ:bo P tt)(hs:aF c s m a w ids){t:TypeId}{ps:Array (Nat×Operand)}(ho:o.op=.build t ps){K:KT}
  (h:po tt t (ps.toList.map fun p=>(p.1,ev s p.2)) m K) (hn:bZ c s o K next):o.wp P a w next Q:=by
 have hp:=uY hs ps.toList;unfold po at h;split at h
 ·exact h.elim
 ·rename_i ti ht;obtain⟨i,d,z,hi,hd,hz,bM,fG,oG,hzero,_,FH,BD,nz,_⟩:=aJ.facts ht
  have key:nc ti (ps.toList.map fun p=>(p.1,ev s p.2)) ti.zero (fun cs=>K (.agg cs) m)->(∀parts du,Instr.fill (placeOf ti) z.cells parts=some du->P.built t parts=some du)->o.wp P a w next Q:=by
   intro h hb
   obtain⟨dc,du,f1,f2,f3,f4,f5⟩:=nf (ti:=ti) _ _ ti.zero z.cells.toList _ hp (by simp[hzero]) fG
    (fun j h1 h2=>by simp only[hzero,List.getElem_map];exact .aH (dT _ _ _)) h
   refine aO hs hn ⟨_,.agg du.toArray,?_,f2,.agg dc du f3 f4 f5⟩;have:=run_build (P:=P) w t (ps.map fun p=>(p.1,a.eval p.2)) du.toArray (hb _ _ (by simpa using f1));have e:execOp a.eval o=(do let z <-Instr.build t (ps.map fun p=>(p.1,a.eval p.2));pure (.value z)):=by unfold execOp;rw[ho]
   rw[e];simp[this]
  split at h
  ·rename_i hk;obtain⟨fs,Su,I9⟩:=FH hk;obtain⟨PJ,I',fP⟩:=BD hk;have:PJ=fs:=by rw[Su] at I';cases I';rfl
   subst this;subst Su;refine key h ?_;intro parts du hf;unfold Program.built;simp only[hi,hd,hz,E8 PJ.toList fP]
   have:(fun x=>(PJ.toList.map fun f=>(f.offset,((P.info? f.type).map (·.size)).getD 0)).toArray[x]?)=placeOf ti:=by
    funext x;unfold placeOf;rw[hk];simp[I9]
   rw[this];exact hf
  ·rename_i hk;obtain⟨ie,BG,iw,ng⟩:=nz hk;subst BG;refine key h ?_;intro parts du hf;unfold Program.built;simp only[hi,hd,hz,iw]
   have:(fun i=>some (i*ie.size,ie.size))=placeOf ti:=by
    funext x;unfold placeOf;rw[hk,ng];rfl
   rw[this];exact hf
  ·exact h.elim

theorem mA(hs:aF c s m a w ids){b:Nat}{v:Value}(hx:Rel ids (au c ids w) w (.own b) v){ty:TypeId}{sz n:Nat}{row:Nat->List A}(hb:m.getD b .dead=.row ty sz n row):
  (n=0/\v=.slice none 0 0/\ids[b]?=some .aP)\/∃p cap,ids[b]?=some (.lv p)/\(n<=cap/\cap<=maxLen)/\cap*sz=p.k/\p.sz=sz/\p.n=n/\v=.slice (some ⟨p.ao,0,none⟩) n cap:=by
 rcases hs.fk hx (by rw[hb];simp) with⟨g1,g2⟩|⟨p,cap,g1,g2,g3,g4⟩
 ·have eU:b<ids.length:=by
   rcases Nat.lt_or_ge b ids.length with h'|h'
   ·exact h'
   ·rw[List.getElem?_eq_none h'] at g1;cases g1
  have kH:b<m.length:=by rw[<-hs.aK];exact eU
  have kX:=hs.bu b kH eU;rw[List.getElem?_eq_getElem eU] at g1;rw[Option.some.inj g1] at kX;have:m[b]=.row ty sz n row:=by simpa[List.getD_eq_getElem?_getD,kH] using hb
  rw[this] at kX;exact .inl ⟨kX,g2,by rw[List.getElem?_eq_getElem eU];exact g1⟩
 ·obtain⟨x,lq,kX⟩:=hs.dU g1;rw[bf lq] at hb;subst hb;obtain⟨q1,q2,_⟩:=kX;exact .inr ⟨p,cap,g1,by rw[<-q2];exact g2,by rw[<-q1];exact g3,q1,q2,by rw[<-q2];exact g4⟩

theorem BI(aJ:bo P tt)(hs:aF c s m a w ids){X:Operand}{t:TypeId}
  (ho:o.op=.call { callee:=.builtin .len,args:=#[X],argTypes:=#[t] }) {K:KT} (h:za tt t (ev s X) m fun v=>K v m) (hn:bZ c s o K next):o.wp P a w next Q:=by
 have hx:=hs.ev X
 have e:(execOp a.eval o)=(do pure (.value (<-Builtin.len_ #[t] o.type #[a.eval X]))):=by
  obtain⟨dst,op,ty,pos,after,guard⟩:=o;simp only at ho;subst ho;rw[BigFrame.execOp_builtin,BigFrame.builtin_len];simp
 unfold za at h;split at h
 ·exact h.elim
 ·rename_i ti ht;obtain⟨i,d,z,hi,hd,hz,bM,fG,oG,hzero,_,FH,BD,nz,iU,Nf,tY,_⟩:=aJ.facts ht
  have E9:∀ad n cap,a.eval X=.slice ad n cap->ti.kind=3->(execOp a.eval o).run P w=.ok (.value (.int .i64 n)) w:=by
   intro ad n cap hv hk;obtain⟨ie,ze,BG,_⟩:=iU hk;subst BG;rw[e,hv];simp[Builtin.len_,underlying,hd,goInt]
  split at h
  ·rename_i n sz row hk hv;rw[hv] at hx;cases hx with
   | aH hx =>
    generalize QE:a.eval X=vv at hx;cases hx with
    | rJ=>exact aO hs hn ⟨_,_,E9 _ _ _ QE hk,h,.aH (.int _ _)⟩
    | sle=>exact aO hs hn ⟨_,_,E9 _ _ _ QE hk,h,.aH (.int _ _)⟩
    | sl=>exact aO hs hn ⟨_,_,E9 _ _ _ QE hk,h,.aH (.int _ _)⟩
  ·rename_i b hk hv;rw[hv] at hx;split at h
   ·rename_i ty sz n row hb;rcases mA hs hx hb with⟨rfl,g2,_⟩|⟨p,cap,g1,g2,g3,_,_,g4⟩
    ·exact aO hs hn ⟨_,_,E9 _ _ _ g2 hk,h,.aH (.int _ _)⟩
    ·exact aO hs hn ⟨_,_,E9 _ _ _ g4 hk,h,.aH (.int _ _)⟩
   ·exact h.elim
  ·rename_i hk hv;rw[hv] at hx;exact aO hs hn ⟨_,_,E9 _ _ _ hx.df hk,h,.aH (.int _ _)⟩
  ·rename_i st hk hv;rw[hv] at hx;have fp:=tY hk;subst fp;refine aO hs hn ⟨_,.int .i64 st.length,?_,h,.aH (.int _ _)⟩;rw[e,hx.gJ];simp[Builtin.len_,underlying,hd,goInt];rfl
  ·exact h.elim
end
section
variable {c:Ctx} {s:List A} {m:List aq} {a:Act} {w w':World} {ids ab:dp} {P:Program} {im bl:Nat->Prop} {tt:TT}
variable {next:Act->World->Prop} {Q:Exit->Act->World->Prop} {o:Oper}

theorem wI(aJ:bo P tt)(hs:aF c s m a w ids){t:TypeId}{X Y:Operand}(ho:o.op=.index t X Y){K:KT}
  (h:ta tt t (ev s X) (ev s Y) fun v=>K v m) (hn:bZ c s o K next):o.wp P a w next Q:=by
 have hx:=hs.ev X;have hy:=hs.ev Y;have e:execOp a.eval o=(do let z <-Instr.index t (a.eval X) (a.eval Y);pure (.value z)):=by unfold execOp;rw[ho]
 unfold ta at h;split at h
 ·rename_i ti k ix ht hv;rw[hv] at hy;obtain⟨i,d,z,hi,hd,hz,bM,fG,oG,hzero,_,FH,BD,nz,iU,Nf,tY,_⟩:=aJ.facts ht;split at h
  ·rename_i st hk zj;rw[zj] at hx;have fp:=tY hk;subst fp;obtain⟨⟨h0,h1⟩,h⟩:=h;have aI:ix.toNat<st.length:=by omega
   refine aO hs hn ⟨_,_,?_,h,.aH (.int _ _)⟩;rw[e,hx.gJ,hy.bS]
   have hg:(ByteArray.mk st.toArray)[ix.toNat]?=some (st[ix.toNat]):=by
    have:ix.toNat<(ByteArray.mk st.toArray).size:=aI;exact(getElem?_pos (ByteArray.mk st.toArray) ix.toNat this)
   simp[Instr.index,asIntOf,underlying,hd,h0,hg,List.getD_eq_getElem?_getD,aI]
  ·rename_i cs hk zj;rw[zj] at hx;obtain⟨ie,BG,iw,ng⟩:=nz hk;subst BG;split at h
   ·rename_i te xx;obtain⟨⟨h0,h1⟩,h⟩:=h;obtain⟨i',d',z',cr,gZ,_,Jb,_,_,_,Jc,_⟩:=aJ.facts xx;have Ya:ie=i':=by rw[iw] at cr;exact Option.some.inj cr
    obtain⟨vs,Ai,HT,TD,Ni⟩:=hx.gL
    have run:∀v,(part ti.aM vs.toArray (ix.toNat*ti.br)).run P w=.ok v w->(execOp a.eval o).run P w=.ok (.value v) w:=by
     intro v hp;rw[e,Ai,hy.bS];simp[Instr.index,asIntOf,underlying,hd,h0,h1,sizeOf,typeInfo,iw,ng,hp]
    unfold I4 at h;split at h
    ·rename_i hb;split at h
     ·rename_i hle;have hle:=Nat.le_of_ble_eq_true hle;rw[ck,jR] at h;have PI:((vs.drop (ix.toNat*ti.br)).take te.size).length=te.size:=by simp;omega
      refine aO hs hn ⟨_,.agg ((vs.drop (ix.toNat*ti.br)).take te.size).toArray,run _ ?_,h,.agg _ _ (by rw[PI];simp;omega) ?_ ?_⟩
      ·unfold part isAgg;rw[Jc] at hb;cases d'<;>simp[dM] at hb<;>simp[underlying,gZ,sizeOf,typeInfo,cr,Jb]
      ·intro v hv;exact TD v (List.mem_of_mem_drop (List.mem_of_mem_take hv))
      ·intro j h1 h2;simp at h1 h2;have:=Ni (ix.toNat*ti.br+j) (by omega) (by omega);simpa using this
     ·exact h.elim
    ·rename_i hb;split at h
     ·rename_i aI;have aI:ix.toNat*ti.br<cs.length:=Nat.le_of_ble_eq_true aI;rw[db] at h;refine aO hs hn ⟨_,vs[ix.toNat*ti.br]'(by omega),run _ ?_,h,?_⟩
      ·unfold part isAgg;rw[Jc] at hb;cases d'<;>simp[dM] at hb<;>simp[underlying,gZ,List.getElem?_eq_getElem (show ix.toNat*ti.br<vs.length by omega)]
      ·simpa[List.getD_eq_getElem?_getD,aI] using Ni _ aI (by omega)
     ·exact h.elim
   ·exact h.elim
  ·exact h.elim
 ·exact h.elim

theorem wJ(aJ:bo P tt)(hs:aF c s m a w ids){t:TypeId}{X:Operand}{f:Nat}(ho:o.op=.field t X f){K:KT}
  (h:tc tt t (ev s X) f fun v=>K v m) (hn:bZ c s o K next):o.wp P a w next Q:=by
 have hx:=hs.ev X;have e:execOp a.eval o=(do let z <-Instr.field t (a.eval X) f;pure (.value z)):=by unfold execOp;rw[ho]
 unfold tc at h;split at h
 ·exact h.elim
 ·rename_i ti ht;split at h
  ·rename_i fo X8 ft cs hk UT UU zj;rw[zj] at hx;obtain⟨fs,hd,Ud,T6⟩:=aJ.n9 ht hk;rw[Ud] at UU;rw[T6] at UT;simp only[List.getElem?_map,Option.map_eq_some_iff] at UU UT;obtain⟨Jd,Km,rfl⟩:=UU;obtain⟨Yb,qC,UW⟩:=UT;have Yc:Jd=Yb:=by rw[Km] at qC;exact Option.some.inj qC
   subst Yc;have UX:Jd.offset=fo:=congrArg Prod.fst UW;subst UX;have hg:fs[f]?=some Jd:=by rw[<-Array.getElem?_toList];exact Km
   split at h
   ·rename_i te xx;obtain⟨i',d',z',cr,gZ,_,Jb,_,_,_,Jc,_⟩:=aJ.facts xx;obtain⟨vs,Ai,HT,TD,Ni⟩:=hx.gL
    have run:∀v,(part Jd.type vs.toArray Jd.offset).run P w=.ok v w->(execOp a.eval o).run P w=.ok (.value v) w:=by
     intro v hp;rw[e,Ai];simp[Instr.field,underlying,hd,hg,asAgg,hp]
    unfold I4 at h;split at h
    ·rename_i hb;split at h
     ·rename_i hle;have hle:=Nat.le_of_ble_eq_true hle;rw[ck,jR] at h;have PI:((vs.drop Jd.offset).take te.size).length=te.size:=by simp;omega
      refine aO hs hn ⟨_,.agg ((vs.drop Jd.offset).take te.size).toArray,run _ ?_,h,.agg _ _ (by rw[PI];simp;omega) ?_ ?_⟩
      ·unfold part isAgg;rw[Jc] at hb;cases d'<;>simp[dM] at hb<;>simp[underlying,gZ,sizeOf,typeInfo,cr,Jb]
      ·intro v hv;exact TD v (List.mem_of_mem_drop (List.mem_of_mem_take hv))
      ·intro j h1 h2;simp at h1 h2;have:=Ni (Jd.offset+j) (by omega) (by omega);simpa using this
     ·exact h.elim
    ·rename_i hb;split at h
     ·rename_i aI;have aI:Jd.offset<cs.length:=Nat.le_of_ble_eq_true aI;rw[db] at h;refine aO hs hn ⟨_,vs[Jd.offset]'(by omega),run _ ?_,h,?_⟩
      ·unfold part isAgg;rw[Jc] at hb;cases d'<;>simp[dM] at hb<;>simp[underlying,gZ,List.getElem?_eq_getElem (show Jd.offset<vs.length by omega)]
      ·simpa[List.getD_eq_getElem?_getD,aI] using Ni _ aI (by omega)
     ·exact h.elim
   ·exact h.elim
  ·exact h.elim

theorem kI(hs:aF c s m a w ids)(xs:List Operand):∀j (h:j<(xs.map (ev s)).length) (h':j<(xs.map a.eval).length),Rel ids (au c ids w) w (xs.map (ev s))[j] (xs.map a.eval)[j]:=by
 intro j h h';simp;exact hs.ev _

theorem qO(hs:aF c s m a w ids){f:FuncId}{xs:Array Operand}(ho:o.op=.makeFunc (.func f) #[] xs){K:KT}
  (h:K (.fn f (xs.toList.map (ev s))) m) (hn:bZ c s o K next):o.wp P a w next Q:=by
 refine aO hs hn ⟨_,.func (.func f) #[] (xs.toList.map a.eval).toArray,?_,h,.fn f _ _ (by simp) (kI hs xs.toList)⟩;have e:(xs.map a.eval)=(xs.toList.map a.eval).toArray:=by apply Array.ext';simp
 unfold execOp;rw[ho];simp[Instr.makeFunc,e]

def Je:A->List A->(A->Prop)->Prop
 | x,[],K=>fv x K
 | x,y::ys,K=>TB x y fun v=>Je v ys K
def Jf:A->List A->(A->Prop)->Prop
 | x,[],K=>fv x K
 | x,y::ys,K=>TC x y fun v=>Jf v ys K
theorem uZ:∀(ys:List A) (vs:List Value) (x:A) (v:Value) (K:A->Prop),Rel ids im w x v->ys.length=vs.length->(∀j (h:j<ys.length) (h':j<vs.length),Rel ids im w ys[j] vs[j])->Je x ys K ->
  ∃r u,(vs.foldlM Builtin.min2 v).run P w=.ok u w/\K r/\Rel ids im w r u
 | [],vs,x,v,K,hx,hl,hr,h=>by
  have:vs=[]:=by cases vs<;>simp at hl ⊢
  subst this;rw[Je,db] at h;exact⟨x,v,by simp,h,hx⟩
 | y::ys,vs,x,v,K,hx,hl,hr,h=>by
  cases vs with
  | nil=>simp at hl
  | cons u us =>
   have hy:Rel ids im w y u:=hr 0 (by simp) (by simp);simp only[Je] at h;unfold TB at h;split at h
   ·rename_i k a' k' b';rw[hx.bS,hy.bS]
    obtain⟨r,z,h1,h2,h3⟩:=uZ ys us (.int k (if b'<a' then b' else a')) (.int k (if b'<a' then b' else a')) K (.aH (.int _ _)) (by simpa using hl)
     (fun j h1 h2=>hr (j+1) (Nat.succ_lt_succ h1) (Nat.succ_lt_succ h2)) h
    exact⟨r,z,by simp[List.foldlM_cons,Builtin.min2,h1],h2,h3⟩
   ·exact h.elim
theorem u5:∀(ys:List A) (vs:List Value) (x:A) (v:Value) (K:A->Prop),Rel ids im w x v->ys.length=vs.length->(∀j (h:j<ys.length) (h':j<vs.length),Rel ids im w ys[j] vs[j])->Jf x ys K ->
  ∃r u,(vs.foldlM Builtin.max2 v).run P w=.ok u w/\K r/\Rel ids im w r u
 | [],vs,x,v,K,hx,hl,hr,h=>by
  have:vs=[]:=by cases vs<;>simp at hl ⊢
  subst this;rw[Jf,db] at h;exact⟨x,v,by simp,h,hx⟩
 | y::ys,vs,x,v,K,hx,hl,hr,h=>by
  cases vs with
  | nil=>simp at hl
  | cons u us =>
   have hy:Rel ids im w y u:=hr 0 (by simp) (by simp);simp only[Jf] at h;unfold TC at h;split at h
   ·rename_i k a' k' b';rw[hx.bS,hy.bS]
    obtain⟨r,z,h1,h2,h3⟩:=u5 ys us (.int k (if a'<b' then b' else a')) (.int k (if a'<b' then b' else a')) K (.aH (.int _ _)) (by simpa using hl)
     (fun j h1 h2=>hr (j+1) (Nat.succ_lt_succ h1) (Nat.succ_lt_succ h2)) h
    exact⟨r,z,by simp[List.foldlM_cons,Builtin.max2,h1],h2,h3⟩
   ·exact h.elim
end
def fd:Nat->A->(A->Prop)->Prop
 | 0,x,K=>fv x K
 | d+1,x,K=>match x with
  | .agg cs=>pv d cs fun c=>K (.agg c)
  | .tup cs=>pv d cs fun c=>K (.tup c)
  | .fn f cs=>pv d cs fun c=>K (.fn f c)
  | .bref cs o=>pv d cs fun c=>K (.bref c o)
  | x=>fv x K
where pv (d:Nat):List A->(List A->Prop)->Prop
 | [],K=>K []
 | a::as,K=>fd d a fun a'=>pv d as fun iO=>K (a'::iO)
mutual
theorem dX:∀(d:Nat) (x:A) (K:A->Prop),fd d x K=K x
 | 0,x,K=>by rw[fd,db]
 | d+1,x,K=>by cases x<;>simp only[fd,cD,db]
theorem cD:∀(d:Nat) (l:List A) (K:List A->Prop),fd.pv d l K=K l
 | _,[],_=>by rw[fd.pv]
 | d,a::as,K=>by rw[fd.pv];simp only[dX,cD d as]
end

def plain:Nat->A->Bool
 | 0,_=>false
 | d+1,x=>match x with
  | .int _ _=>true
  | .bool _=>true
  | .sb _=>true
  | .str _=>true
  | .gk=>true
  | .aR=>true
  | .fF=>true
  | .agg cs=>cs.all (plain d)
  | .tup cs=>cs.all (plain d)
  | _=>false
/-- A cell of a slice of maps, as a value. -/
def UY(agg:Bool)(sh:List KS)(x:Nat)(has:List KC->Bool)(val:List KC->A):A:=match x with
 | 0=>.fF
 | 1=>.mv agg sh has val
 | _=>.ae
def wk(m:List aq):Nat->A->A
 | 0,_=>.ae
 | d+1,x=>match x with
  | .ref b off=>match m.getD b .dead with
   | .box _ cs=>.bref (cs.map (wk m d)) off
   | _=>.ae
  | .oref _ _ _=>.ae
  | .own b=>match m.getD b .dead with
   | .row _ sz n row=>.sl n sz row
   | .nest _ _ sz n hole len row=>match hole with
    | none=>.sl n 1 fun i=>[.sl (len i) sz (row i)]
    | some _=>.ae
   | .cF _ agg sh n _ cs jb has val=>match cs.isEmpty with
    | true=>.sl n 1 fun i=>[UY agg sh (jb i) (has i) (val i)]
    | false=>.ae
   | _=>.ae
  | .omap b=>match m.getD b .dead with
   | .ez g n key val=>.mv g n key val
   | _=>.ae
  | .qc _ _=>.ae
  | .mF _ _=>.ae
  | .agg cs=>.agg (cs.map (wk m d))
  | .tup cs=>.tup (cs.map (wk m d))
  | .fn f cs=>.fn f (cs.map (wk m d))
  | x=>x

section
variable {c:Ctx} {s:List A} {m:List aq} {a:Act} {w w':World} {ids ab:dp} {P:Program} {im bl:Nat->Prop} {tt:TT}
variable {next:Act->World->Prop} {Q:Exit->Act->World->Prop} {o:Oper}

theorem pw:∀(d:Nat) (x:A) (v:Value),plain d x=true->aw im w x v->aw bl w' x v
 | 0,x,v,h,_=>by cases h
 | d+1,x,v,h,hr=>by
  cases hr with
  | int=>exact .int _ _
  | bool=>exact .bool _
  | sb=>exact .sb _
  | str=>exact .str _
  | gk=>exact .gk
  | aR=>exact .aR
  | agg cs vs hl ho hr =>
   refine .agg cs vs hl ho fun j h1 h2=>pw d _ _ ?_ (hr j h1 h2);simp only[plain,List.all_eq_true] at h;exact h _ (List.getElem_mem h1)
  | tup cs vs hl hr =>
   refine .tup cs vs hl fun j h1 h2=>pw d _ _ ?_ (hr j h1 h2);simp only[plain,List.all_eq_true] at h;exact h _ (List.getElem_mem h1)
  | bref=>cases h
  | rJ=>cases h
  | sle=>cases h
  | sl=>cases h
  | fn=>cases h
  | bz=>cases h
  | fF=>exact .fF
  | mv=>cases h
  | ae=>cases h

/-- What may be read through a value, all that is the call's own besides. -/
def qh(c:Ctx)(ids:dp)(w:World):Nat->Prop:=fun b=>au c ids w b\/∃p,dH.lv p∈ids/\p.has b

theorem zk{ty:TypeId}{agg:Bool}{sh:List KS}{n hi:Nat}{cs:List A}{jb:Nat->Nat}{has:Nat->List KC->Bool}{val:Nat->List KC->A}{p:Id}{cap:Nat}
  (hB:aV ids im w (.cF ty agg sh n hi cs jb has val) (.lv p)) (he:cs.isEmpty=true) (hc:p.n<=cap) (hA:∀x,im x->bl x) (hZ:∀x,p.has x->bl x) :
  aw bl w (.sl n 1 fun i=>[UY agg sh (jb i) (has i) (val i)]) (.slice (some ⟨p.ao,0,none⟩) p.n cap):=by
 obtain⟨q1,q2,q3,qP,g1,g2,g3,g4,kb,g5⟩:=hB;subst q2;have he:cs.length=0:=by cases cs with|nil=>rfl|cons x xs=>cases he
 refine .sl p.n 1 _ p.ao 0 cap (fun i j=>qP.getD (i*1+j) undef) (hZ _ (.inl rfl)) hc (fun _ _=>rfl) ?_ ?_ ?_
 ·intro i j hi hj;rw[Nat.zero_add,cell_of_row w p.ao _ qP ty (0,0) g1];simp[Array.getD_eq_getD_getElem?,show i+j<qP.size by omega]
 ·intro i j hi hj;have Jg:j=0:=by omega
  subst Jg;have hk:i<qP.size:=by omega
  simp only[Nat.mul_one,Nat.add_zero,Array.getD_eq_getD_getElem?,Array.getElem?_eq_getElem hk,Option.getD_some];obtain⟨⟨x,e⟩,_⟩:=g5 i hi hk;rw[e];rfl
 ·intro i j hi hj;have Jg:j=0:=by simp at hj;omega
  subst Jg;have hk:i<qP.size:=by omega
  simp only[Nat.mul_one,Nat.add_zero,Array.getD_eq_getD_getElem?,Array.getElem?_eq_getElem hk,Option.getD_some,List.getElem_cons_zero];obtain⟨_,k1⟩:=g5 i hi hk;obtain⟨k2,k3⟩:=k1 (.inl he);unfold UY;split
  ·rename_i e;rw[k2 e];exact .fF
  ·rename_i e;obtain⟨e1,e2,⟨es,clock,f,m1,m2,m3,m4,m5,m6,m7⟩,_⟩:=k3 e;rw[e1];exact .mv _ _ _ _ _ es clock f (hZ _ (.inr e2)) m1 m2 m3 m4 (fun i hi=>(m5 i hi).mono hA (fun _ _=>rfl)) m6 m7
  ·exact .ae _
theorem jv(hs:aF c s m a w ids):∀(d:Nat) (x:A) (v:Value),Rel ids (au c ids w) w x v->aw (qh c ids w) w (wk m d x) v
 | 0,x,v,_=>.ae _
 | d+1,x,v,hr=>by
  have up:aw (au c ids w) w x v->aw (qh c ids w) w x v:=fun h=>h.mono (fun _ h=>.inl h) (fun _ _=>rfl);cases hr with
  | aH hr =>
   cases hr with
   | agg cs vs hl ho hr=>exact .agg _ vs (by simp[hl]) ho fun j h1 h2=>by simpa using jv hs d _ _ (.aH (hr j (by simpa using h1) h2))
   | tup cs vs hl hr=>exact .tup _ vs (by simp[hl]) fun j h1 h2=>by simpa using jv hs d _ _ (.aH (hr j (by simpa using h1) h2))
   | fn f cs vs hl hr=>exact .fn f _ vs (by simp[hl]) fun j h1 h2=>by simpa using jv hs d _ _ (.aH (hr j (by simpa using h1) h2))
   | int=>exact .int _ _
   | bool=>exact .bool _
   | sb=>exact .sb _
   | str=>exact .str _
   | gk=>exact .gk
   | aR=>exact .aR
   | bz=>exact .bz
   | fF=>exact .fF
   | mv g n key val r es clock f hb hh hk hd hc hv D5 Cg=>exact up (.mv g n key val r es clock f hb hh hk hd hc hv D5 Cg)
   | ae=>exact .ae _
   | rJ=>exact .rJ _ _
   | sle=>exact .sle _ _ _ _
   | sl n sz row ao base cap vs hb ke hl hc ho hr=>exact up (.sl n sz row ao base cap vs hb ke hl hc ho hr)
   | bref ao base off cs vs hb hc ho hr=>exact up (.bref ao base off cs vs hb hc ho hr)
  | ref b off p h =>
   simp only[wk];split
   ·rename_i ty cs hb;obtain⟨vs,h1,h2,h3,h4⟩:=hs.rz h hb
    have:=aw.bref (im:=qh c ids w) (w:=w) p.ao 0 off (cs.map (wk m d)) (fun j=>vs.getD j undef) (.inr ⟨p,List.mem_of_getElem? h,.inl rfl⟩)
     (fun j hj=>by simp at hj;have:=h2 j (by omega);simpa[List.getD_eq_getElem?_getD,show j<vs.length by omega] using this)
     (fun j hj=>by simp at hj;have:=h3 _ (List.getElem_mem (show j<vs.length by omega));simpa[List.getD_eq_getElem?_getD,show j<vs.length by omega] using this)
     (fun j hj=>by
      simp at hj;have:=jv hs d _ _ (h4 j hj (by omega));simpa[List.getD_eq_getElem?_getD,show j<vs.length by omega] using this)
    simpa using this
   ·exact .ae _
  | oref=>exact .ae _
  | qc=>exact .ae _
  | ph=>exact .ae _
  | mF=>exact .ae _
  | pj=>exact .ae _
  | na=>exact .ae _
  | jN b x n cap h=>simp only[wk,hs.da h];exact .ae _
  | jM b off x y h=>simp only[wk,hs.da h];exact .ae _
  | fY=>exact .ae _
  | fD b x h=>simp only[wk,hs.da h];exact .ae _
  | fH b h =>
   simp only[wk];split
   ·rename_i ty sz n row hb;rcases mA hs (.fH b h) hb with⟨rfl,_,_⟩|⟨p,cap,g1,_⟩
    ·exact .rJ _ _
    ·rw[h] at g1;cases g1
   ·rename_i hb
    have aI:b<ids.length:=by
     rcases Nat.lt_or_ge b ids.length with h'|h'
     ·exact h'
     ·rw[List.getElem?_eq_none h'] at h;cases h
    have:=hs.bu b (by rw[<-hs.aK];exact aI) aI;rw[List.getElem?_eq_getElem aI] at h
    have e:m[b]'(by rw[<-hs.aK];exact aI)=m.getD b .dead:=by
     rw[List.getD_eq_getElem?_getD,List.getElem?_eq_getElem (by rw[<-hs.aK];exact aI)];rfl
    rw[e,hb,Option.some.inj h] at this;have this:_=0:=this;subst this;split
    ·exact .rJ _ _
    ·exact .ae _
   ·rename_i ty agg sh n dI cs jb has val hb
    have aI:b<ids.length:=by
     rcases Nat.lt_or_ge b ids.length with h'|h'
     ·exact h'
     ·rw[List.getElem?_eq_none h'] at h;cases h
    have:=hs.bu b (by rw[<-hs.aK];exact aI) aI;rw[List.getElem?_eq_getElem aI] at h
    have e:m[b]'(by rw[<-hs.aK];exact aI)=m.getD b .dead:=by
     rw[List.getD_eq_getElem?_getD,List.getElem?_eq_getElem (by rw[<-hs.aK];exact aI)];rfl
    rw[e,hb,Option.some.inj h] at this;have this:_=0:=this;subst this;split
    ·exact .rJ _ _
    ·exact .ae _
   ·exact .ae _
  | own b cap p h hn hm =>
   simp only[wk];split
   ·rename_i ty sz n row hb;obtain⟨x,lq,kX⟩:=hs.dU h;rw[bf lq] at hb;subst hb;obtain⟨q1,q2,qP,g1,g2,g3,hl,g5⟩:=kX;subst q1;subst q2
    have aI:∀i j,i<p.n->j<p.sz->i*p.sz+j<qP.size:=by
     intro i j hi hj;have:=Nat.mul_le_mul_right p.sz (show i+1<=p.n from hi);rw[Nat.add_mul] at this;omega
    refine .sl p.n p.sz row p.ao 0 cap (fun i j=>qP.getD (i*p.sz+j) undef) (.inr ⟨p,List.mem_of_getElem? h,.inl rfl⟩) hn.1 hl ?_ ?_ ?_
    ·intro i j hi hj;have hk:=aI i j hi hj;rw[Nat.zero_add,cell_of_row w p.ao _ qP ty (0,0) g1];simp[Array.getD_eq_getD_getElem?,hk]
    ·intro i j hi hj;have hk:=aI i j hi hj;have:=(g5 i j hi (by rw[hl i hi];exact hj) hk).2;simpa[Array.getD_eq_getD_getElem?,hk] using this
    ·intro i j hi hj;have hk:=aI i j hi (by rw[<-hl i hi];exact hj);have:=(g5 i j hi hj hk).1;simp only[Array.getD_eq_getD_getElem?,Array.getElem?_eq_getElem hk,Option.getD_some];exact this.mono (fun _ h=>.inl h) (fun _ _=>rfl)
   ·rename_i ty aM sz n hole len row hb;split
    ·skip
     obtain⟨x,lq,kX⟩:=hs.dU h;rw[bf lq] at hb;subst hb;obtain⟨q1,q2,q3,qP,g1,g2,g3,kb,g5⟩:=kX;subst q2;refine .sl p.n 1 _ p.ao 0 cap (fun i j=>qP.getD (i*1+j) undef) (.inr ⟨p,List.mem_of_getElem? h,.inl rfl⟩) hn.1 (fun _ _=>rfl) ?_ ?_ ?_
     ·intro i j hi hj;rw[Nat.zero_add,cell_of_row w p.ao _ qP ty (0,0) g1];simp[Array.getD_eq_getD_getElem?,show i+j<qP.size by omega]
     ·intro i j hi hj;have Jg:j=0:=by omega
      subst Jg;have hk:i<qP.size:=by omega
      simp only[Nat.mul_one,Nat.add_zero,Array.getD_eq_getD_getElem?,Array.getElem?_eq_getElem hk,Option.getD_some];rcases (g5 i hi (by simp) hk).1 with⟨e,_⟩|⟨q,mU,du,e,_⟩<;>rw[e]<;>rfl
     ·intro i j hi hj;have Jg:j=0:=by simp at hj;omega
      subst Jg;have hk:i<qP.size:=by omega
      simp only[Nat.mul_one,Nat.add_zero,Array.getD_eq_getD_getElem?,Array.getElem?_eq_getElem hk,Option.getD_some,List.getElem_cons_zero];obtain⟨k1,k2,_⟩:=g5 i hi (by simp) hk;rcases k1 with⟨e1,e2,_⟩|⟨q,mU,du,e1,e2,e3,e4,e5,e6,e7,e8⟩
      ·rw[e1,e2];exact .rJ _ _
      ·rw[e1]
       have aI:∀i' j,i'<len i->j<sz->i'*sz+j<du.size:=by
        intro i' j cr hj;have h1:=Nat.mul_le_mul_right sz (show i'+1<=len i from cr);have h2:=Nat.mul_le_mul_right sz e5;rw[Nat.add_mul] at h1;omega
       refine .sl (len i) sz (row i) q 0 mU (fun i' j=>du.getD (i'*sz+j) undef) (.inr ⟨p,List.mem_of_getElem? h,.inr (k2 q e2)⟩) e5 e7 ?_ ?_ ?_
       ·intro i' j cr hj;have hk:=aI i' j cr hj;rw[Nat.zero_add,cell_of_row w q _ du aM (0,0) e3];simp[Array.getD_eq_getD_getElem?,hk]
       ·intro i' j cr hj;have hk:=aI i' j cr hj;have:=(e8 i' j cr (by rw[e7 i' cr];exact hj) hk).2;simpa[Array.getD_eq_getD_getElem?,hk] using this
       ·intro i' j cr hj;have hk:=aI i' j cr (by rw[<-e7 i' cr];exact hj);have:=(e8 i' j cr hj hk).1;simp only[Array.getD_eq_getD_getElem?,Array.getElem?_eq_getElem hk,Option.getD_some];exact this.mono (fun _ h=>.inl h) (fun _ _=>rfl)
    ·exact .ae _
   ·rename_i ty agg sh n dI cs jb has val hb;split
    ·rename_i he;obtain⟨x,lq,kX⟩:=hs.dU h;rw[bf lq] at hb;subst hb;exact zk kX he hn.1 (fun _ h=>.inl h) (fun x hx=>.inr ⟨p,List.mem_of_getElem? h,hx⟩)
    ·exact .ae _
   ·exact .ae _
  | omap b p h =>
   simp only[wk];split
   ·rename_i g n key val hb;obtain⟨x,lq,kX⟩:=hs.dU h;rw[bf lq] at hb;subst hb;obtain⟨es,clock,f,g1,g2,g3,g4,g5,g6,g7⟩:=kX;exact .mv g n key val p.ao es clock f (.inr ⟨p,List.mem_of_getElem? h,.inl rfl⟩) g1 g2 g3 g4 (fun i hi=>(g5 i hi).mono (fun _ h=>.inl h) (fun _ _=>rfl)) g6 g7
   ·exact .ae _
  | agg cs vs hl ho hr=>exact .agg _ vs (by simp[hl]) ho fun j h1 h2=>by simpa using jv hs d _ _ (hr j (by simpa using h1) h2)
  | tup cs vs hl hr=>exact .tup _ vs (by simp[hl]) fun j h1 h2=>by simpa using jv hs d _ _ (hr j (by simpa using h1) h2)
  | fn f cs vs hl hr=>exact .fn f _ vs (by simp[hl]) fun j h1 h2=>by simpa using jv hs d _ _ (hr j (by simpa using h1) h2)
end
def og(s:List A):Option Operand->Option A
 | none=>none
 | some x=>some (ev s x)
def vW(x:Option A)(d y:Nat)(K:Nat->Prop):Prop :=
 match x with
 | none=>K d
 | some v=>match v with
  | .int _ i=>(0<=i/\i<=(y:Int))/\K i.toNat
  | _=>False
def tg(tt:TT)(t:TypeId)(x:A)(lo hi:Option A)(K:A->Prop):Prop :=
 match tt.lookup t with
 | none=>False
 | some ti=>match ti.kind,x with
  | 4,.str s=>vW hi s.length s.length fun h=>vW lo 0 h fun l=>K (.str ((s.take h).drop l))
  | 3,.sl n sz row=>match Nat.beq sz ti.br with
   | true=>vW hi n n fun h=>vW lo 0 h fun l=>K (.sl (h-l) sz fun i=>row (l+i))
   | false=>False
  | 3,.aR=>vW hi 0 0 fun h=>vW lo 0 h fun _=>K .aR
  | _,_=>False

section
variable {c:Ctx} {s:List A} {m:List aq} {a:Act} {w w':World} {ids ab:dp} {P:Program} {im bl:Nat->Prop} {tt:TT}
variable {next:Act->World->Prop} {Q:Exit->Act->World->Prop} {o:Oper}

theorem fg(hs:aF c s m a w ids){x:Option Operand}{d y y':Nat}{K:Nat->Prop}(h:vW (og s x) d y K)(hy:y<=y'):
  ∃n,K n/\(x=none->n=d)/\(x.isSome->n<=y)/\∀X,x=some X->∃k i,a.eval X=.int k i/\i.toNat=n/\0<=i/\i<=(y':Int):=by
 cases x with
 | none=>exact⟨d,h,fun _=>rfl,fun h=>by simp at h,fun _ h=>by simp at h⟩
 | some X =>
  simp only[vW,og] at h;split at h
  ·rename_i v k i hv;have hx:=hs.ev X;rw[hv] at hx;exact⟨i.toNat,h.2,fun h=>by simp at h,fun _=>by omega,fun X' Yd=>by cases Yd;exact⟨k,i,hx.bS,rfl,h.1.1,by omega⟩⟩
  ·exact h.elim

theorem dq{Kf:Bool}{len cap:Nat}{lo hi:Option Operand}{h l:Nat}(hh:hi=none->h=len)(hl:lo=none->l=0)
  (eh:∀X,hi=some X->∃k i,a.eval X=.int k i/\i.toNat=h/\0<=i/\i<=(cap:Int))
  (el:∀X,lo=some X->∃k i,a.eval X=.int k i/\i.toNat=l/\0<=i/\i<=(h:Int)) :
  (Instr.sliceBounds Kf len cap (lo.map a.eval) (hi.map a.eval) none).run P w=.ok (l,h,cap) w:=by
 cases hi with
 | none =>
  have:=hh rfl;subst this;cases lo with
  | none=>have:=hl rfl;subst this;simp[Instr.sliceBounds]
  | some L =>
   obtain⟨k,i,e1,e2,e3,e4⟩:=el L rfl;simp[Instr.sliceBounds,e1,run_sliceBound,e3,e4,e2]
 | some H =>
  obtain⟨k,i,e1,e2,e3,e4⟩:=eh H rfl;cases lo with
  | none=>have:=hl rfl;subst this;simp[Instr.sliceBounds,e1,run_sliceBound,e3,e4,e2]
  | some L =>
   obtain⟨k',i',f1,f2,f3,f4⟩:=el L rfl;simp[Instr.sliceBounds,e1,run_sliceBound,e3,e4,e2,f1,f3,f4,f2]

theorem wK(aJ:bo P tt)(hs:aF c s m a w ids){t:TypeId}{X:Operand}{lo hi:Option Operand}(ho:o.op=.slice t X lo hi none){K:KT}
  (h:tg tt t (ev s X) (og s lo) (og s hi) fun v=>K v m) (hn:bZ c s o K next):o.wp P a w next Q:=by
 have hx:=hs.ev X;have e:execOp a.eval o=(do let z <-Instr.sliceAt t (a.eval X) (lo.map a.eval) (hi.map a.eval) none;pure (.value z)):=by unfold execOp;rw[ho];rfl
 unfold tg at h;split at h
 ·exact h.elim
 ·rename_i ti iQ;obtain⟨i,d,z,_,hd,_,_,_,_,_,_,_,_,_,iU,Nf,tY,_⟩:=aJ.facts iQ;split at h
  ·rename_i st hk hv;rw[hv] at hx;rw[tY hk] at hd;obtain⟨hb,h,b1,b2,b3⟩:=fg hs h (Nat.le_refl _);obtain⟨lb,h,c1,c2,c3⟩:=fg hs h (Nat.le_refl _);refine aO hs hn ⟨_,.string ⟨((st.take hb).drop lb).toArray⟩,?_,h,.aH (.str _)⟩;have bM:(ByteArray.mk st.toArray).size=st.length:=by simp[ByteArray.size]
   rw[e,hx.gJ,Sem.run_bind,run_sliceAt_string _ _ _ _ _ _ hd];have:=dq (P:=P) (w:=w) (a:=a) (Kf:=false) (len:=st.length) (cap:=st.length) b1 c1 b3 c3;simp[Instr.slice,underlying,hd,bM,this];apply ByteArray.ext
   have:lb<=hb:=by
    cases lo with
    | none=>have:=c1 rfl;omega
    | some L=>exact c2 rfl
   have:hb<=st.length:=by
    cases hi with
    | none=>have:=b1 rfl;omega
    | some L=>exact b2 rfl
   simp[ByteArray.data_extract];rw[List.drop_take]
  ·rename_i n sz row hk hv;rw[hv] at hx;obtain⟨ie,ze,gZ,iw,bM,_,_,_,_⟩:=iU hk;subst gZ;split at h
   ·rename_i hb;have hb:=Nat.eq_of_beq_eq_true hb
    have u6:P.underlying t=some (.slice (P.elem t)):=by
     have:P.elem t=ti.aM:=by simp[Program.elem,hd]
     rw[this];exact hd
    have Fa:P.elem t=ti.aM:=by simp[Program.elem,hd]
    cases hx with
    | aH hx =>
     have key:∀(ba:Option Addr) (cap:Nat),n<=cap->a.eval X=.slice ba n cap ->
       (∀(l h:Nat),l<=h->h<=n->aw (au c ids w) w (.sl (h-l) sz fun i=>row (l+i)) (.slice (if cap=l then ba else ba.map (·.add (l*sz))) (h-l) (cap-l)))->o.wp P a w next Q:=by
      intro ba cap ke hX hrel;obtain⟨gj,h,b1,b2,b3⟩:=fg hs h ke;obtain⟨lb,h,c1,c2,c3⟩:=fg hs h (Nat.le_refl _)
      have q1:lb<=gj:=by
       cases lo with
       | none=>have:=c1 rfl;omega
       | some L=>exact c2 rfl
      have q2:gj<=n:=by
       cases hi with
       | none=>have:=b1 rfl;omega
       | some L=>exact b2 rfl
      refine aO hs hn ⟨_,_,?_,h,.aH (hrel lb gj q1 q2)⟩;rw[e,hX,Sem.run_bind,run_sliceAt_slice _ _ _ _ _ _ u6,run_slice_any _ _ _ _ _ u6];have:=dq (P:=P) (w:=w) (a:=a) (Kf:=true) (len:=n) (cap:=cap) b1 c1 b3 c3;simp[this,Fa,sizeOf,typeInfo,iw,bM,sliced,hb]
     generalize hX:a.eval X=V at hx;cases hx with
     | rJ =>
      refine key none 0 (by omega) hX (fun l h h1 h2=>?_);have:l=0:=by omega
      subst this;have:h=0:=by omega
      subst this;exact .rJ _ _
     | sle _ _ ad cap =>
      refine key (some ad) cap (by omega) hX (fun l h h1 h2=>?_);have:l=0:=by omega
      subst this;have:h=0:=by omega
      subst this;split
      ·exact .sle _ _ _ _
      ·exact .sle _ _ _ _
     | sl _ _ _ ao base cap vs hb ke hl hc Ug hr =>
      refine key _ cap ke hX (fun l h h1 h2=>?_);by_cases NY:cap=l
      ·have e1:h-l=0:=by omega
       rw[if_pos NY,e1];exact .sl 0 sz _ ao base _ vs hb (by omega) (fun _ h=>by omega) (fun _ _ h=>by omega) (fun _ _ h=>by omega) (fun _ _ h=>by omega)
      ·rw[if_neg NY];show aw _ _ _ (.slice (some (Addr.add ⟨ao,base,none⟩ (l*sz))) _ _);rw[show Addr.add ⟨ao,base,none⟩ (l*sz)=⟨ao,base+l*sz,none⟩ from by simp[Addr.add]];refine .sl (h-l) sz (fun i=>row (l+i)) ao (base+l*sz) (cap-l) (fun i j=>vs (l+i) j) hb (by omega) (fun i hi=>hl (l+i) (by omega)) (fun i j hi hj=>?_) (fun i j hi hj=>Ug (l+i) j (by omega) hj) (fun i j hi hj=>hr (l+i) j (by omega) hj);rw[<-hc (l+i) j (by omega) hj,Nat.add_mul,Nat.add_assoc base]
   ·exact h.elim
  ·rename_i hk hv;rw[hv] at hx;obtain⟨ie,ze,gZ,iw,bM,_,_,_,_⟩:=iU hk;subst gZ
   have u6:P.underlying t=some (.slice (P.elem t)):=by
    have:P.elem t=ti.aM:=by simp[Program.elem,hd]
    rw[this];exact hd
   have Fa:P.elem t=ti.aM:=by simp[Program.elem,hd]
   obtain⟨gj,h,b1,b2,b3⟩:=fg hs h (Nat.le_refl _);obtain⟨lb,h,c1,c2,c3⟩:=fg hs h (Nat.le_refl _);refine aO hs hn ⟨_,.slice none 0 0,?_,h,.aH .aR⟩
   have q2:gj<=0:=by
    cases hi with
    | none=>have:=b1 rfl;omega
    | some L=>exact b2 rfl
   have q1:lb<=gj:=by
    cases lo with
    | none=>have:=c1 rfl;omega
    | some L=>exact c2 rfl
   have:gj=0:=by omega
   subst this;have:lb=0:=by omega
   subst this;rw[e,hx.df,Sem.run_bind,run_sliceAt_slice _ _ _ _ _ _ u6,run_slice_any _ _ _ _ _ u6];have:=dq (P:=P) (w:=w) (a:=a) (Kf:=true) (len:=0) (cap:=0) b1 c1 b3 c3;simp[this,Fa,sizeOf,typeInfo,iw,bM,sliced]
  ·exact h.elim
end
/-- What is known of the world at each moment: it hangs on the first n blocks alone. -/
structure aG where
 G:World->Prop
 n:Nat
 lt:∀w,G w->n<=w.heap.size
 st:∀w w',G w->w.heap.size<=w'.heap.size->(∀b,b<n->w'.heap[b]?=w.heap[b]?)->G w'
def aG.ok(G:aG)(c:Ctx):Prop:=G.G c.w0/\∀b,c.mu b->G.n<=b
theorem aG.ok.now{G:aG}{c:Ctx}{w:World}(h:G.ok c)(hf:Fr c w):G.G w :=
 G.st _ _ h.1 hf.size fun b hb=>hf.block b (Nat.lt_of_lt_of_le hb (G.lt _ h.1)) fun hm=>by have:=h.2 b hm;omega

def aa(P:Program)(G:aG)(f:FuncId)(args:List A)(r:A):Prop :=
 (∃ fn cd, P.funcs[f]? = some fn ∧ fn.body = some cd ∧ (fn.name == "runtime.NumGoroutine") = false) ∧
 ∀(im:Nat->Prop) (w:World) (vs:List Value),(∀b,im b->b<w.heap.size)->G.G w->vs.length=args.length ->
  (∀j (h:j<args.length) (h':j<vs.length),aw im w args[j] vs[j]) ->
  Calls P f vs.toArray w fun e w'=>∃v,e=.returned v/\aw (fun b=>im b\/(w.heap.size<=b/\b<w'.heap.size)) w' r v/\Bw w.heap.size w w'

def mP(P:Program)(G:aG)(f:A)(args:List A)(m:List aq)(K:KT):Prop :=
 match f with
 | .fn g cap=>fd.pv 4 (args++cap) fun as=>match as.any (cE 4) with
  | false=>∃r,aa P G g as r/\fd 3 r fun r'=>K r' m
  | true=>fd.pv 4 (as.map (wk m 5)) fun iO=>∃r,aa P G g iO r/\plain 4 r=true/\fd 3 r fun r'=>K r' m
 | _=>False

section
variable {c:Ctx} {s:List A} {m:List aq} {a:Act} {w w':World} {ids ab:dp} {P:Program} {im bl:Nat->Prop} {tt:TT} {G:aG}
variable {next:Act->World->Prop} {Q:Exit->Act->World->Prop} {o:Oper}

theorem bg{f:FuncId}{args:Array Value}{R R':Ending->World->Prop}(h:Calls P f args w R)(hr:∀e w',R e w'->R' e w'):Calls P f args w R':=by
 intro cs;obtain⟨e,w',fr,h1,h2⟩:=h cs;exact⟨e,w',fr,hr _ _ h1,h2⟩

theorem lQ(hs:aF c s m a w ids)(hG:G.ok c){F:Operand}{xs:Array Operand}{ts:Array TypeId}(ho:o.op=.call { callee:=.value F,args:=xs,argTypes:=ts }){K:KT}
  (h:mP P G (ev s F) (xs.toList.map (ev s)) m K) (hn:bZ c s o K next):o.wp P a w next Q:=by
 have hf:=hs.ev F;have TF:G.G w:=hG.now hs.frame;unfold mP at h;split at h
 ·rename_i g cap hv;rw[hv] at hf;obtain⟨us,HR,Ar,Ke⟩:=hf.fM;rw[cD] at h
  have hrel:∀j (h:j<(xs.toList.map (ev s)++cap).length) (h':j<(xs.toList.map a.eval++us).length),Rel ids (au c ids w) w (xs.toList.map (ev s)++cap)[j] (xs.toList.map a.eval++us)[j]:=by
   intro j h h';by_cases hj:j<xs.toList.length
   ·rw[List.getElem_append_left (by simpa using hj),List.getElem_append_left (by simpa using hj)];exact kI hs xs.toList j (by simpa using hj) (by simpa using hj)
   ·rw[List.getElem_append_right (by simpa using hj),List.getElem_append_right (by simpa using hj)];simp at h h' hj;have:=Ke (j-xs.size) (by omega) (by omega);simpa using this
  have hlen:(xs.toList.map a.eval++us).length=(xs.toList.map (ev s)++cap).length:=by simp[Ar]
  have run : ∀ fn cd, P.funcs[g]? = some fn → fn.body = some cd → (fn.name == "runtime.NumGoroutine") = false → (execOp a.eval o).run P w = .ok (.enter g (xs.toList.map a.eval ++ us).toArray) w := by
   intro fn cd h1 h2 h3;have e:execOp a.eval o=(do let d <-resolve a.eval { callee:=.value F,args:=xs,argTypes:=ts } o.type;invoke d.target d.args):=by unfold execOp;rw[ho]
   have e2:(xs.map a.eval++us.toArray)=(xs.toList.map a.eval++us).toArray:=by apply Array.ext';simp
   have h4 : ¬ fn.name = "runtime.NumGoroutine" := by simpa using h3
   rw[e];simp[resolve,HR,Deferred.ofValue,invoke,callFunc,h1,h2,h4,e2]
  split at h
  ·rename_i aU;obtain⟨r,hc,hk⟩:=h;rw[dX] at hk;obtain⟨⟨fn,cd,h1,h2,h3⟩,hc⟩:=hc;unfold Oper.wp;rw[run fn cd h1 h2 h3];show Calls P g _ w _;refine bg (hc (au c ids w) w (xs.toList.map a.eval++us) (fun b hb=>cw hs hb) TF hlen (fun j h h'=>cm 4 _ _ ?_ (hrel j h h'))) ?_
   ·have:=List.any_eq_false.1 aU _ (List.getElem_mem h);simpa using this
   ·rintro e w' ⟨v,rfl,hr,hb⟩;refine hn r m _ _ ids hk ((hs.same hb).aZ o.dst (.aH (hr.mono ?_ (fun _ _=>rfl))));rintro b (gj|⟨lZ,j8⟩)
    ·rcases gj with h|⟨q1,q2,q3⟩
     ·exact .inl h
     ·exact .inr ⟨q1,Nat.lt_of_lt_of_le q2 hb.size,q3⟩
    ·refine .inr ⟨.inl (Nat.le_trans hs.frame.size lZ),j8,fun p hp=>?_⟩;intro hx;have:=(hs.ar p hp b hx).2;omega
  ·rw[cD] at h;obtain⟨r,hc,MP,hk⟩:=h;rw[dX] at hk;obtain⟨⟨fn,cd,h1,h2,h3⟩,hc⟩:=hc;unfold Oper.wp;rw[run fn cd h1 h2 h3];show Calls P g _ w _;refine bg (hc (qh c ids w) w (xs.toList.map a.eval++us) ?_ TF (by simp[Ar]) (fun j h h'=>?_)) ?_
   ·rintro b (hb|⟨p,hp,hx⟩)
    ·exact cw hs hb
    ·exact(hs.ar p hp b hx).2
   ·have:=jv hs 5 _ _ (hrel j (by simpa using h) h');rw[List.getElem_map];exact this
   ·rintro e w' ⟨v,rfl,hr,hb⟩;exact hn r m _ _ ids hk ((hs.same hb).aZ o.dst (.aH (pw 4 _ _ MP hr)))
 ·exact h.elim

def step(P:Program)(G:aG)(tt:TT)(o:Oper)(s:List A)(m:List aq)(K:KT):Prop :=
 match o.op with
 | .move x=>fv (ev s x) fun v=>K v m
 | .assign x=>fv (ev s x) fun v=>K v m
 | .pick x y z=>zc (ev s x) (ev s y) (ev s z) fun v=>K v m
 | .alloc t=>BA tt t m K
 | .box t x=>PD t (ev s x) m K
 | .build t ps=>po tt t (ps.toList.map fun p=>(p.1,ev s p.2)) m K
 | .load t x=>k9 tt t (ev s x) m K
 | .store t x y=>s8 tt t (ev s x) (ev s y) m K
 | .nilCheck x=>I6 (ev s x) fun v=>K v m
 | .binOp op t x y _=>I5 tt t op (ev s x) (ev s y) fun v=>K v m
 | .unOp op _ x=>Sq op (ev s x) fun v=>K v m
 | .convert src dst x=>uX tt src dst (ev s x) fun v=>K v m
 | .makeFunc (.func f) first cap=>match first.toList with
  | []=>K (.fn f (cap.toList.map (ev s))) m
  | _=>False
 | .fieldAddr t x f=>gC tt t (ev s x) f m K
 | .indexAddr t x i=>dV tt t (ev s x) (ev s i) m K
 | .index t x i=>ta tt t (ev s x) (ev s i) fun v=>K v m
 | .field t x f=>tc tt t (ev s x) f fun v=>K v m
 | .extract x ix=>lO (ev s x) ix fun v=>K v m
 | .slice t x lo hi mx=>match mx with
  | none=>tg tt t (ev s x) (og s lo) (og s hi) fun v=>K v m
  | some _=>False
 | .call { callee:=.builtin .len,args,argTypes }=>match args.toList,argTypes.toList with
  | [x],[t]=>za tt t (ev s x) m fun v=>K v m
  | _,_=>False
 | .call { callee:=.builtin .min,args,.. }=>match args.toList with
  | x::xs=>Je (ev s x) (xs.map (ev s)) fun v=>K v m
  | _=>False
 | .call { callee:=.builtin .max,args,.. }=>match args.toList with
  | x::xs=>Jf (ev s x) (xs.map (ev s)) fun v=>K v m
  | _=>False
 | .call { callee:=.value f,args,.. }=>mP P G (ev s f) (args.toList.map (ev s)) m K
 | _=>False

theorem th{α:Type}{xs:Array α}{x:α}(h:xs.toList=[x]):xs = #[x]:=by apply Array.ext';simpa using h

theorem nh(aJ:bo P tt)(hG:G.ok c)(hs:aF c s m a w ids){K:KT}(h:step P G tt o s m K)(hn:bZ c s o K next):o.wp P a w next Q:=by
 unfold step at h;split at h
 ·rename_i x ho;rw[db] at h;exact qf hs (.inl ho) h hn
 ·rename_i x ho;rw[db] at h;exact qf hs (.inr ho) h hn
 ·rename_i ho;exact zh hs ho h hn
 ·rename_i ho;exact wG aJ hs ho h hn
 ·rename_i ho;exact BH hs ho h hn
 ·rename_i ho;exact wH aJ hs ho h hn
 ·rename_i ho;exact zf aJ hs ho h hn
 ·rename_i ho;exact kG aJ hs ho h hn
 ·rename_i ho;exact BF hs ho h hn
 ·rename_i ho;exact aO hs hn (LY aJ ho (hs.ev _) (hs.ev _) h)
 ·rename_i ho;exact aO hs hn (PF ho (hs.ev _) h)
 ·rename_i ho;exact qg aJ hs ho h hn
 ·rename_i f first cap ho;split at h
  ·rename_i hf;have:first = #[]:=by apply Array.ext';simpa using hf
   subst this;exact qO hs ho h hn
  ·exact h.elim
 ·rename_i ho;exact pr aJ hs ho h hn
 ·rename_i ho;exact pt aJ hs ho h hn
 ·rename_i ho;exact wI aJ hs ho h hn
 ·rename_i ho;exact wJ aJ hs ho h hn
 ·rename_i ho;exact td hs ho h hn
 ·rename_i ho;split at h
  ·exact wK aJ hs ho h hn
  ·exact h.elim
 ·rename_i args ts ho;split at h
  ·rename_i x t hx ht;rw[th hx,th ht] at ho;exact BI aJ hs ho h hn
  ·exact h.elim
 ·rename_i args ts ho;split at h
  ·rename_i x xs hx
   have e:(execOp a.eval o)=(do pure (.value (<-Builtin.min_ ts o.type (args.map a.eval)))):=by
    obtain⟨dst,op,ty,pos,after,guard⟩:=o;simp only at ho;subst ho;rw[BigFrame.execOp_builtin,BigFrame.builtin_min]
   obtain⟨r,v,h1,h2,h3⟩:=uZ (P:=P) (xs.map (ev s)) (xs.map a.eval) (ev s x) (a.eval x) _ (hs.ev x) (by simp) (kI hs xs) h;refine aO hs hn ⟨r,v,?_,h2,h3⟩;rw[e];simp[Builtin.min_] at h1 ⊢;simp[hx,h1]
  ·exact h.elim
 ·rename_i args ts ho;split at h
  ·rename_i x xs hx
   have e:(execOp a.eval o)=(do pure (.value (<-Builtin.max_ ts o.type (args.map a.eval)))):=by
    obtain⟨dst,op,ty,pos,after,guard⟩:=o;simp only at ho;subst ho;rw[BigFrame.execOp_builtin,BigFrame.builtin_max]
   obtain⟨r,v,h1,h2,h3⟩:=u5 (P:=P) (xs.map (ev s)) (xs.map a.eval) (ev s x) (a.eval x) _ (hs.ev x) (by simp) (kI hs xs) h;refine aO hs hn ⟨r,v,?_,h2,h3⟩;rw[e];simp[Builtin.max_] at h1 ⊢;simp[hx,h1]
  ·exact h.elim
 ·rename_i ho;exact lQ hs hG ho h hn
 ·exact h.elim
end
def tW(b:Nat):Nat->A->A
 | 0,_=>.ae
 | d+1,x=>match x with
  | .ref b' o=>match Nat.beq b' b with
   | true=>.ae
   | false=>.ref b' o
  | .oref b' i o=>match Nat.beq b' b with
   | true=>.ae
   | false=>.oref b' i o
  | .own b'=>match Nat.beq b' b with
   | true=>.ae
   | false=>.own b'
  | .omap b'=>match Nat.beq b' b with
   | true=>.ae
   | false=>.omap b'
  | .qc _ _=>.ae
  | .mF _ _=>.ae
  | .agg cs=>.agg (cs.map (tW b d))
  | .tup cs=>.tup (cs.map (tW b d))
  | .fn f cs=>.fn f (cs.map (tW b d))
  | x=>x
def zl(b d:Nat):aq->aq
 | .box ty cs=>.box ty (cs.map (tW b d))
 | .ghost cs=>.ghost (cs.map (tW b d))
 | .cF ty g sh n hi cs jb has val=>.cF ty g sh n hi (cs.map (tW b d)) jb has val
 | x=>x

section
variable {c:Ctx} {s:List A} {m:List aq} {a:Act} {w w':World} {ids ab:dp} {P:Program} {im bl:Nat->Prop} {tt:TT} {G:aG}
variable {next:Act->World->Prop} {Q:Exit->Act->World->Prop} {o:Oper}

theorem jg{b:Nat}(hi:∀b,im b->bl b)(hw:∀b,im b->w'.heap[b]?=w.heap[b]?)(hd:∀(b':Nat) p,b'≠b->ids[b']?=some p->ab[b']?=some p):
  ∀(d:Nat) (x:A) (v:Value),Rel ids im w x v->Rel ab bl w' (tW b d x) v
 | 0,x,v,_=>.aH (.ae _)
 | d+1,x,v,h=>by
  have keep:∀y,aw im w y v->Rel ab bl w' y v:=fun y hy=>.aH (hy.mono hi hw);cases x with
  | ref b' o =>
   simp only[tW];split
   ·exact .aH (.ae _)
   ·rename_i hb;rcases h.gK with⟨p,h1,rfl⟩|⟨h1,x,y,rfl⟩;rotate_left
    ·exact .jM _ _ x y (hd b' _ (fun e=>by subst e;simp at hb) h1)
    exact .ref _ _ p (hd b' _ (fun e=>by subst e;simp at hb) h1)
  | oref b' i o =>
   simp only[tW];split
   ·exact .aH (.ae _)
   ·rename_i hb;rcases h.gS with⟨p,h1,rfl⟩|⟨h1,x,y,rfl⟩;rotate_left
    ·exact .fY _ _ _ x y (hd b' _ (fun e=>by subst e;simp at hb) h1)
    exact .oref _ _ _ p (hd b' _ (fun e=>by subst e;simp at hb) h1)
  | own b' =>
   simp only[tW];split
   ·exact .aH (.ae _)
   ·rename_i hb;have hne:b'≠b:=fun e=>by subst e;simp at hb
    rcases h.jc with⟨h1,rfl⟩|⟨p,cap,h1,h2,h3,rfl⟩|⟨h1,x,n,cap,rfl⟩
    ·exact .fH _ (hd b' _ hne h1)
    ·exact .own _ cap p (hd b' _ hne h1) h2 h3
    ·exact .jN _ x n cap (hd b' _ hne h1)
  | omap b' =>
   simp only[tW];split
   ·exact .aH (.ae _)
   ·rename_i hb;rcases h.iM with⟨p,h1,rfl⟩|⟨h1,x,rfl⟩;rotate_left
    ·exact .fD _ x (hd b' _ (fun e=>by subst e;simp at hb) h1)
    exact .omap _ p (hd b' _ (fun e=>by subst e;simp at hb) h1)
  | agg cs =>
   obtain⟨vs,rfl,hl,ho,hr⟩:=h.gL;exact .agg _ vs (by simpa using hl) ho (fun j h h'=>by rw[List.getElem_map];exact jg hi hw hd d _ _ (hr j (by simpa using h) h'))
  | tup cs =>
   obtain⟨vs,rfl,hl,hr⟩:=h.kA;exact .tup _ vs (by simpa using hl) (fun j h h'=>by rw[List.getElem_map];exact jg hi hw hd d _ _ (hr j (by simpa using h) h'))
  | fn f cs =>
   obtain⟨vs,rfl,hl,hr⟩:=h.fM;exact .fn f _ vs (by simpa using hl) (fun j h h'=>by rw[List.getElem_map];exact jg hi hw hd d _ _ (hr j (by simpa using h) h'))
  | int k n=>cases h with|aH h=>exact keep _ h
  | bool k=>cases h with|aH h=>exact keep _ h
  | sb k=>cases h with|aH h=>exact keep _ h
  | str k=>cases h with|aH h=>exact keep _ h
  | gk=>cases h with|aH h=>exact keep _ h
  | bref cs off=>cases h with|aH h=>exact keep _ h
  | aR=>cases h with|aH h=>exact keep _ h
  | sl n sz row=>cases h with|aH h=>exact keep _ h
  | bz=>cases h with|aH h=>exact keep _ h
  | fF=>cases h with|aH h=>exact keep _ h
  | mv g n k v=>cases h with|aH h=>exact keep _ h
  | ae=>exact .aH (.ae _)
  | qc=>exact .aH (.ae _)
  | mF=>exact .aH (.ae _)

/-- Block b becomes another one: written in place, or moved to a new block. -/
theorem aF.rebind(hs:aF c s m a w ids)(b:Nat)(q:dH)(x:aq)(d:Nat)(hb:b<m.length)
  (Nl:w'.os=w.os) (Sv:w'.tape=w.tape) (Sw:w'.output=w.output) (bM:w.heap.size<=w'.heap.size)
  (eU:∀k,k<w.heap.size->(∀p,ids[b]?=some (.lv p)->¬p.has k)->w'.heap[k]?=w.heap[k]?)
  (UZ:∀vs,q≠.cz vs)
  (hq:∀p',q=.lv p'->∀x,p'.has x->x<w'.heap.size/\(w.heap.size<=x\/∃p,ids[b]?=some (.lv p)/\p.has x))
  (hx:(∀u v,aw (au c ids w) w u v->aw (au c (ids.set b q) w') w' u v)->aV (ids.set b q) (au c (ids.set b q) w') w' x q) (xG:en w.drawn w'.drawn:=by exact en.refl _) :
  aF c (s.map (tW b d)) ((m.map (zl b d)).set b x) a w' (ids.set b q):=by
 have eD:b<ids.length:=by rw[hs.aK];exact hb
 have jn:∀p',dH.lv p'∈ids.set b q->dH.lv p'∈ids\/q=.lv p':=by
  intro p' h;rcases List.mem_or_eq_of_mem_set h with h|h
  ·exact .inl h
  ·exact .inr h.symm
 have hi:∀k,au c ids w k->au c (ids.set b q) w' k:=by
  intro k h;rcases h with h|⟨h1,h2,h3⟩
  ·exact .inl h
  ·refine .inr ⟨h1,Nat.lt_of_lt_of_le h2 bM,fun p hp=>?_⟩;rcases jn p hp with hp|hp
   ·exact h3 p hp
   ·intro hx;rcases (hq p hp k hx).2 with h|⟨p0,h4,h5⟩
    ·omega
    ·exact h3 p0 (List.mem_of_getElem? h4) h5
 have hh:∀k,au c ids w k->w'.heap[k]?=w.heap[k]?:=by
  intro k h;refine eU k (cw hs h) (fun p hp e=>?_);rcases h with h|⟨_,_,h3⟩
  ·exact hs.oM h (hs.ar p (List.mem_of_getElem? hp) k e).1
  ·exact h3 p (List.mem_of_getElem? hp) e
 have hd:∀(b':Nat) p,b'≠b->ids[b']?=some p->(ids.set b q)[b']?=some p:=by
  intro b' p hne h;rw[List.getElem?_set_ne (fun e=>hne e.symm)];exact h
 refine⟨hs.defers,by simp[hs.len],?_,by simp[hs.aK],?_,?_,?_,?_,hs.dL,?_⟩
 ·intro i h h';rw[List.getElem_map];exact jg hi hh hd d _ _ (hs.bE i (by simpa using h) h')
 ·intro i h h';rw[List.getElem_set,List.getElem_set];split
  ·rename_i he;subst he;exact hx (fun u v h=>h.mono hi hh)
  ·rename_i he;have h1:i<m.length:=by simpa using h
   have h2:i<ids.length:=by simpa using h'
   have hB:=hs.bu i h1 h2;rw[List.getElem_map]
   have U0:∀p,ids[i]=.lv p->∀k,p.has k->w'.heap[k]?=w.heap[k]?:=by
    intro p hp k hk;have Sx:ids[i]?=some (.lv p):=by rw[List.getElem?_eq_getElem h2,hp]
    refine eU _ (hs.ar p (List.mem_of_getElem? Sx) k hk).2 (fun p0 Tq e=>?_);exact he (hs.ah b i p0 p k Tq Sx e hk)
   have hk:∀p,ids[i]=.lv p->w'.heap[p.ao]?=w.heap[p.ao]?:=fun p hp=>U0 p hp _ (.inl rfl);cases hm:m[i] with
   | dead=>rw[hm] at hB;exact hB
   | gone=>rw[hm] at hB;exact hB
   | box ty cs =>
    rw[hm] at hB;cases hp:ids[i] with
    | dead=>rw[hp] at hB;exact hB.elim
    | av=>rw[hp] at hB;exact hB.elim
    | aP=>rw[hp] at hB;exact hB.elim
    | cz vs=>rw[hp] at hB;exact hB.elim
    | lv p =>
     rw[hp] at hB;obtain⟨vs,g1,g2,g3,g4⟩:=hB;refine⟨vs,by rw[hk p hp];exact g1,g2,by simpa using g3,?_⟩;intro j hj bW;have:=g4 j (by simpa using hj) bW;rw[List.getElem_map];exact⟨jg hi hh hd d _ _ this.1,this.2⟩
   | row ty sz n row =>
    rw[hm] at hB;cases hp:ids[i] with
    | dead=>rw[hp] at hB;exact hB.elim
    | av=>rw[hp] at hB;exact hB.elim
    | aP=>rw[hp] at hB;exact hB
    | cz vs=>rw[hp] at hB;exact hB.elim
    | lv p =>
     rw[hp] at hB;obtain⟨e1,e2,vs,g1,g2,g3,g4,g5⟩:=hB;exact⟨e1,e2,vs,by rw[hk p hp];exact g1,g2,g3,g4,fun i' j cr h h'=>⟨(g5 i' j cr h h').1.mono hi hh,(g5 i' j cr h h').2⟩⟩
   | nest ty aM sz n hole len row =>
    rw[hm] at hB;cases hp:ids[i] with
    | dead=>rw[hp] at hB;exact hB.elim
    | av=>rw[hp] at hB;exact hB.elim
    | aP=>rw[hp] at hB;exact hB
    | cz vs=>rw[hp] at hB;exact hB.elim
    | lv p =>
     rw[hp] at hB;obtain⟨e1,e2,e3,vs,g1,g2,g3,kb,g5⟩:=hB;refine⟨e1,e2,e3,vs,by rw[hk p hp];exact g1,g2,g3,kb,fun i' cr Ye h=>?_⟩;obtain⟨k1,k2,k3⟩:=g5 i' cr Ye h;exact⟨k1.mono hi hh (fun x hx=>U0 p hp _ (.inr (k2 x hx))),k2,k3⟩
   | ez g n key val =>
    rw[hm] at hB;cases hp:ids[i] with
    | dead=>rw[hp] at hB;exact hB.elim
    | av=>rw[hp] at hB;exact hB.elim
    | aP=>rw[hp] at hB;exact hB.elim
    | cz vs=>rw[hp] at hB;exact hB.elim
    | lv p =>
     rw[hp] at hB;obtain⟨es,clock,f,h1,h2,h3,h4,h5,h6⟩:=hB;exact⟨es,clock,f,by rw[hk p hp];exact h1,h2,h3,h4,fun i h=>(h5 i h).mono hi hh,h6⟩
   | n0 g n key val =>
    rw[hm] at hB;cases hp:ids[i] with
    | dead=>rw[hp] at hB;exact hB.elim
    | av=>rw[hp] at hB;exact hB.elim
    | aP=>rw[hp] at hB;exact hB.elim
    | cz vs=>rw[hp] at hB;exact hB.elim
    | lv p =>
     rw[hp] at hB;obtain⟨es,clock,f,h1,h2,h3,h4,h5,h6⟩:=hB;exact⟨es,clock,f,by rw[hk p hp];exact h1,h2,h3,h4,fun i h=>(h5 i h).mono hi hh,h6⟩
   | E2 g n key val se =>
    rw[hm] at hB;cases hp:ids[i] with
    | dead=>rw[hp] at hB;exact hB.elim
    | av=>rw[hp] at hB;exact hB.elim
    | aP=>rw[hp] at hB;exact hB.elim
    | cz vs=>rw[hp] at hB;exact hB.elim
    | lv p =>
     rw[hp] at hB;obtain⟨r,es,clock,f,sb,h1,h2,h3,h4,h5,h6,h7,h8⟩:=hB;exact⟨r,es,clock,f,sb,by rw[hk p hp];exact h1,hi _ h2,by rw[hh _ h2];exact h3,h4,h5,h6,fun i h=>(h7 i h).mono hi hh,h8⟩
   | cF ty g sh c dI cs jb has val =>
    rw[hm] at hB;cases hp:ids[i] with
    | dead=>rw[hp] at hB;exact hB.elim
    | av=>rw[hp] at hB;exact hB.elim
    | aP=>rw[hp] at hB;exact hB
    | cz vs=>rw[hp] at hB;exact hB.elim
    | lv p =>
     rw[hp] at hB;exact lL (tW b d) (U0 p hp) (fun _ _ h=>h.mono hi hh) (fun x v h=>jg hi hh hd d x v h) hB
   | bC ty sz n Φ =>
    rw[hm] at hB;cases hp:ids[i] with
    | dead=>rw[hp] at hB;exact hB.elim
    | av=>rw[hp] at hB;exact hB.elim
    | aP=>rw[hp] at hB;exact hB
    | cz vs=>rw[hp] at hB;exact hB.elim
    | lv p =>
     rw[hp] at hB;obtain⟨row,h0,e1,e2,vs,g1,g2,g3,g4,g5⟩:=hB;exact⟨row,h0,e1,e2,vs,by rw[hk p hp];exact g1,g2,g3,g4,fun i' j cr h h'=>⟨(g5 i' j cr h h').1.mono hi hh,(g5 i' j cr h h').2⟩⟩
   | ghost cs =>
    rw[hm] at hB;cases hp:ids[i] with
    | dead=>rw[hp] at hB;exact hB.elim
    | av=>rw[hp] at hB;exact hB.elim
    | aP=>rw[hp] at hB;exact hB.elim
    | lv p=>rw[hp] at hB;exact hB.elim
    | cz vs =>
     rw[hp] at hB;refine⟨by simpa using hB.1,fun j hj bW=>?_⟩;rw[List.getElem_map];exact jg hi hh hd d _ _ (hB.2 j (by simpa using hj) bW)
 ·intro i j p p2 x h1 h2 h3 Dt;by_cases PL:i=b<;>by_cases TG:j=b
  ·rw[PL,TG]
  ·subst PL;rw[List.getElem?_set_self eD] at h1;rw[List.getElem?_set_ne (fun e=>TG e.symm)] at h2;have U1:=Option.some.inj h1;have f2:=hs.ar p2 (List.mem_of_getElem? h2) x Dt;rcases (hq p U1 x h3).2 with h|⟨p0,h4,h5⟩
   ·omega
   ·exact hs.ah i j p0 p2 x h4 h2 h5 Dt
  ·subst TG;rw[List.getElem?_set_self eD] at h2;rw[List.getElem?_set_ne (fun e=>PL e.symm)] at h1;have U1:=Option.some.inj h2;have f2:=hs.ar p (List.mem_of_getElem? h1) x h3;rcases (hq p2 U1 x Dt).2 with h|⟨p0,h4,h5⟩
   ·omega
   ·exact hs.ah i j p p0 x h1 h4 h3 h5
  ·rw[List.getElem?_set_ne (fun e=>PL e.symm)] at h1;rw[List.getElem?_set_ne (fun e=>TG e.symm)] at h2;exact hs.ah i j p p2 x h1 h2 h3 Dt
 ·intro p hp x hx;rcases jn p hp with hp|hp
  ·have:=hs.ar p hp x hx;exact⟨this.1,Nat.lt_of_lt_of_le this.2 bM⟩
  ·refine⟨?_,(hq p hp x hx).1⟩;rcases (hq p hp x hx).2 with h|⟨p0,h4,h5⟩
   ·exact .inl (Nat.le_trans hs.frame.size h)
   ·exact(hs.ar p0 (List.mem_of_getElem? h4) x h5).1
 ·refine hs.frame.go Nl Sv Sw bM (fun k hk hm=>?_) xG;refine eU k (Nat.lt_of_lt_of_le hk hs.frame.size) (fun p hp e=>?_);rcases (hs.ar p (List.mem_of_getElem? hp) k e).1 with h|h
  ·omega
  ·exact hm h
 ·intro vs h;rcases List.mem_or_eq_of_mem_set h with h|h
  ·exact hs.cz vs h
  ·exact absurd h.symm (UZ vs)
end
section
variable {P:Program}
theorem qi{w:World}(t ty e:TypeId)(i:TypeInfo)(ht:P.underlying t=some (.slice e))(hi:P.info? e=some i)(ad:Option Addr)(n cap:Nat)(hn:n<=cap):
  (Builtin.append_ #[t,t] ty #[.slice ad n cap,.slice none 0 0]).run P w=.ok (.slice ad n cap) w:=by
 cases ad<;>simp[Builtin.append_,run_underlying ht,sizeOf,typeInfo,hi,Builtin.lenOf,Builtin.firstCells,hn,storeCells]
theorem zm{w:World}(t ty e:TypeId)(i:TypeInfo)(ht:P.underlying t=some (.slice e))(hi:P.info? e=some i)(a:Addr)(c:Nat):
  (Builtin.append_ #[t,t] ty #[.slice none 0 0,.slice (some a) 0 c]).run P w=.ok (.slice none 0 0) w:=by
 simp[Builtin.append_,run_underlying ht,sizeOf,typeInfo,hi,Builtin.lenOf,Builtin.firstCells,loadCells,loadCellsFrom]

/-- What an append leaves: nothing new; or a block of cells that begin with the old ones and the new ones: the old block, or a new one. -/
def Jh(w:World)(v:Value)(e:TypeId)(size n m:Nat)(xs news:List Value)(v':Value)(w':World):Prop :=
 w'.os=w.os/\w'.tape=w.tape/\w'.output=w.output/\w.heap.size<=w'.heap.size/\(∀k,k<w.heap.size->v.ownBlock≠some k->w'.heap[k]?=w.heap[k]?)/\en w.drawn w'.drawn /\
 ((v'=.slice none 0 0/\n+m=0) \/
  ∃g cap cur,v'=.slice (some ⟨g,0,none⟩) (n+m) cap/\w'.heap[g]?=some (.cells cur e (0,0))/\n+m<=cap/\cap<=maxLen/\cur.size=cap*size/\cur.toList.take ((n+m)*size)=xs++news /\
   g<w'.heap.size/\(w.heap.size<=g\/v.ownBlock=some g))

theorem kJ{w:World}(t ty e:TypeId)(i:TypeInfo)(z:Value)(ht:P.underlying t=some (.slice e))(hi:P.info? e=some i)(hz:i.zero=some z)(oG:z.cells.size=i.size)
  (v:Value) (n:Nat) (xs:List Value) (hv:(v=.slice none 0 0/\n=0/\xs=[])\/∃g cap cur,v=.slice (some ⟨g,0,none⟩) n cap/\w.heap[g]?=some (.cells cur e (0,0))/\n<=cap/\cap<=maxLen/\cur.size=cap*i.size/\cur.toList.take (n*i.size)=xs)
  (y:Value) (m:Nat) (news:List Value) (hy:(y=.slice none 0 0/\m=0/\news=[])\/∃a c,y=.slice (some a) m c/\news.length=m*i.size/\(∀j u,news[j]?=some u->w.cell? (a.add j)=some u)) (h1:∀u∈news,u.oneCell'=true)
  (ZF:n+m<=140737488355328) (Ji:(n+m)*i.bytes<=140737488355328) :
  ∃v' w',(Builtin.append_ #[t,t] ty #[v,y]).run P w=.ok v' w'/\Jh w v e i.size n m xs news v' w':=by
 have U2:n+m<=maxLen:=by simp only[maxLen];omega
 have Sy:∀(I3:Nat) (v:Value),xs.length=n*i.size->news.length=m*i.size->Jh w v e i.size n m xs news (.slice (some ⟨w.heap.size,0,none⟩) (n+m) (grownCap w (n+m) I3 e))
   (w.drew.alloc (.cells (xs.toArray++news.toArray++Builtin.zeroCells z.cells (grownCap w (n+m) I3 e-(n+m))) e)):=by
  intro I3 v hx WI;have HE:=grownCap_ge w (n+m) I3 e;have hlen:(xs++news).length=(n+m)*i.size:=by rw[List.length_append,hx,WI,Nat.add_mul]
  refine⟨rfl,rfl,rfl,by simp,fun k hk _=>Below.heap_alloc w.drew _ k hk,en.succ _,.inr ⟨w.heap.size,_,_,rfl,heap_alloc_new w.drew _,HE,grownCap_le_maxLen w (n+m) I3 e U2,?_,?_,by simp,.inl (Nat.le_refl _)⟩⟩
  ·simp only[Array.size_append,List.size_toArray,size_zeroCells,oG,hx,WI,<-Nat.add_mul]
   congr 1;omega
  ·simp only[Array.toList_append,List.append_assoc];rw[<-List.append_assoc,<-hlen];exact List.take_left
 rcases hv with⟨rfl,rfl,rfl⟩|⟨g,cap,cur,rfl,hg,U3,WJ,OG,Dw⟩
 ·rcases hy with⟨rfl,rfl,rfl⟩|⟨a,c,rfl,hl,Dx⟩
  ·exact⟨_,_,qi t ty e i ht hi none 0 0 (Nat.le_refl _),rfl,rfl,rfl,Nat.le_refl _,fun _ _ _=>rfl,en.refl _,.inl ⟨rfl,rfl⟩⟩
  ·by_cases hm:m=0
   ·subst hm;exact⟨_,_,zm t ty e i ht hi a c,rfl,rfl,rfl,Nat.le_refl _,fun _ _ _=>rfl,en.refl _,.inl ⟨rfl,rfl⟩⟩
   ·have hr:=run_append_nil (P:=P) w t ty e i z ht hi hz a m c news hl Dx (by omega) (by omega) (by have hb:=Ji;simp only[Nat.zero_add] at hb;omega);have:=Sy 0 (.slice none 0 0) (by simp) hl;simp only[Nat.zero_add,Array.empty_append] at this hr ⊢;exact⟨_,_,hr,this⟩
 ·have vF:xs.length=n*i.size:=by
   rw[<-Dw,List.length_take,Array.length_toList,OG];exact Nat.min_eq_left (Nat.mul_le_mul_right _ U3)
  have holds:∀j u,xs[j]?=some u->w.cell? ((⟨g,0,none⟩:Addr).add j)=some u:=by
   intro j u hu;have Ja:(⟨g,0,none⟩:Addr).add j=⟨g,j,none⟩:=by unfold Addr.add;split<;>simp_all
   rw[Ja,cell_of_row w g j cur e (0,0) hg];rw[<-Dw,List.getElem?_take] at hu;split at hu
   ·simpa using hu
   ·cases hu
  rcases hy with⟨rfl,rfl,rfl⟩|⟨a,c,rfl,hl,Dx⟩
  ·refine⟨_,_,qi t ty e i ht hi _ n cap U3,rfl,rfl,rfl,Nat.le_refl _,fun _ _ _=>rfl,en.refl _,.inr ⟨g,cap,cur,rfl,hg,U3,WJ,OG,by simpa using Dw,(Array.getElem?_eq_some_iff.1 hg).1,.inr rfl⟩⟩
  ·by_cases Jj:n+m<=cap
   ·have U4:n*i.size+news.length<=cur.size:=by rw[hl,OG,<-Nat.add_mul];exact Nat.mul_le_mul_right _ Jj
    have hr:=run_append_room (P:=P) w t ty e i ht hi g n cap cur hg a m c news hl Dx h1 Jj U4;refine⟨_,_,hr,rfl,rfl,rfl,by simp,fun k _ hk=>setRow_other w g k _ (fun e=>hk (by simp[Value.ownBlock,e])),en.refl _,.inr ⟨g,cap,_,rfl,setRow_heap w g cur _ e _ hg,Jj,WJ,?_,?_,?_,.inr rfl⟩⟩
    ·simp only[List.size_toArray,List.length_append,List.length_take,List.length_drop,Array.length_toList];omega
    ·have hlen:(xs++news).length=(n+m)*i.size:=by rw[List.length_append,vF,hl,Nat.add_mul]
     rw[Dw,<-hlen];exact List.take_left
    ·have:=(Array.getElem?_eq_some_iff.1 hg).1;simpa[World.setRow] using this
   ·have hr:=run_append_grow (P:=P) w t ty e i z ht hi hz ⟨g,0,none⟩ n cap xs vF holds a m c news hl Dx (by omega) (by omega) (growslice_fits (by omega) Ji);exact⟨_,_,hr,Sy cap _ vF hl⟩
end
/-- The rows of what is appended. -/
def zn(m:List aq)(br:Nat)(y:A):Option (Nat×(Nat->List A)) :=
 match y with
 | .own b=>match m.getD b .dead with
  | .row _ sz n row=>match Nat.beq sz br with
   | true=>some (n,row)
   | false=>none
  | _=>none
 | .sl n sz row=>match Nat.beq sz br with
  | true=>some (n,row)
  | false=>none
 | .aR=>some (0,fun _=>[])
 | .mF b k=>match m.getD b .dead with
  | .row _ sz n row=>match Nat.beq sz br with
   | true=>some (n-k,fun i=>row (k+i))
   | false=>none
  | _=>none
 | _=>none
def bN(n:Nat)(r1 r2:Nat->List A):Nat->List A:=fun i=>match Nat.blt i n with
 | true=>r1 i
 | false=>r2 (i-n)
def pz:List aq->(List aq->Prop)->Prop
 | [],K=>K []
 | x::xs,K=>match x with
  | .box ty cs=>fd.pv 3 cs fun dc=>pz xs fun ys=>K (.box ty dc::ys)
  | .row ty sz n r=>pz xs fun ys=>K (.row ty sz n r::ys)
  | .nest ty aM sz n ho le r=>pz xs fun ys=>K (.nest ty aM sz n ho le r::ys)
  | .ez g n k v=>pz xs fun ys=>K (.ez g n k v::ys)
  | .n0 g n k v=>pz xs fun ys=>K (.n0 g n k v::ys)
  | .E2 g n k v se=>pz xs fun ys=>K (.E2 g n k v se::ys)
  | .cF ty g sh n hi cs jb has val=>fd.pv 3 cs fun dc=>pz xs fun ys=>K (.cF ty g sh n hi dc jb has val::ys)
  | .bC ty sz n Φ=>pz xs fun ys=>K (.bC ty sz n Φ::ys)
  | .ghost cs=>fd.pv 3 cs fun dc=>pz xs fun ys=>K (.ghost dc::ys)
  | .gone=>pz xs fun ys=>K (.gone::ys)
  | .dead=>pz xs fun ys=>K (.dead::ys)
theorem dF:∀(l:List aq) (K:List aq->Prop),pz l K=K l
 | [],K=>rfl
 | x::xs,K=>by cases x<;>simp only[pz,cD,dF xs]
def PM(tt:TT)(t:TypeId)(x y:A)(s:List A)(m:List aq)(K:List A->A->List aq->Prop):Prop :=
 match tt.lookup t with
 | none=>False
 | some ti=>match ti.kind,zn m ti.br y with
  | 3,some (n2,iy)=>match x with
   | .own b=>match m.getD b .dead with
    | .row ty sz n row=>match Nat.beq sz ti.br,Nat.beq ty ti.aM with
     | true,true=>dj ti.dS fun eb=>(n+n2<=140737488355328/\(n+n2)*eb<=140737488355328) /\
      fd.pv 4 (s.map (tW b 4)) fun s'=>pz ((m.map (zl b 4)).set b (.row ty sz (n+n2) (bN n row iy))) fun m'=>K s' (.own b) m'
     | _,_=>False
    | _=>False
   | .aR=>dj ti.dS fun eb=>dj ti.aM fun aM=>dj ti.br fun br=>(n2<=140737488355328/\n2*eb<=140737488355328)/\kZ m (.row aM br n2 iy) fun b m'=>K s (.own b) m'
   | _=>False
  | _,_=>False

section
variable {c:Ctx} {s:List A} {m:List aq} {a:Act} {w w':World} {ids ab:dp} {P:Program} {im bl:Nat->Prop} {tt:TT} {G:aG}
variable {next:Act->World->Prop} {Q:Exit->Act->World->Prop} {o:Oper}

theorem iS{b:Nat}{ty:TypeId}{sz n:Nat}{row:Nat->List A}(h:m.getD b .dead=.row ty sz n row):∃hb:b<m.length,m[b]=.row ty sz n row:=by
 rcases Nat.lt_or_ge b m.length with hb|hb
 ·exact⟨hb,by rw[List.getD_eq_getElem?_getD,List.getElem?_eq_getElem hb] at h;simpa using h⟩
 ·rw[List.getD_eq_getElem?_getD,List.getElem?_eq_none hb] at h;cases h

/-- Values that stand for rows. -/
def dz(im:Nat->Prop)(w:World)(n sz:Nat)(row:Nat->List A)(vs:List Value):Prop :=
 vs.length=n*sz/\(∀u∈vs,gR u)/\(∀i,i<n->(row i).length=sz)/\∀i j,i<n->∀(h:j<(row i).length) (h':i*sz+j<vs.length),aw im w (row i)[j] vs[i*sz+j]

theorem dz.nil(im:Nat->Prop)(w:World)(sz:Nat)(row:Nat->List A):dz im w 0 sz row [] :=
 ⟨by simp,by simp,fun i h=>by omega,fun i j h=>by omega⟩

theorem dz.cat{n n2 sz:Nat}{r1 r2:Nat->List A}{xs ys:List Value}(h1:dz im w n sz r1 xs)(h2:dz im w n2 sz r2 ys):dz im w (n+n2) sz (bN n r1 r2) (xs++ys):=by
 obtain⟨a1,a2,a3,a4⟩:=h1;obtain⟨b1,b2,b3,b4⟩:=h2;have rc:∀i,i<n->bN n r1 r2 i=r1 i:=fun i hi=>by simp only[bN];rw[show Nat.blt i n=true from Nat.ble_eq_true_of_le hi]
 have WK:∀i,¬i<n->bN n r1 r2 i=r2 (i-n):=fun i hi=>by
  simp only[bN]
  have:Nat.blt i n=false:=by
   cases h:Nat.blt i n with
   | false=>rfl
   | true=>exact absurd (Nat.le_of_ble_eq_true h) hi
  rw[this]
 refine⟨by rw[List.length_append,a1,b1,Nat.add_mul],?_,?_,?_⟩
 ·intro u hu;rcases List.mem_append.1 hu with h|h
  ·exact a2 u h
  ·exact b2 u h
 ·intro i hi;by_cases h:i<n
  ·rw[rc i h];exact a3 i h
  ·rw[WK i h];exact b3 _ (by omega)
 ·intro i j hi h h';by_cases pA:i<n
  ·have e:=rc i pA;have hl:=a3 i pA;have hj:j<(r1 i).length:=by rw[e] at h;exact h
   have aI:i*sz+j<n*sz:=by
    have:=Nat.mul_le_mul_right sz (show i+1<=n from pA);rw[Nat.add_mul] at this;omega
   rw[List.getElem_append_left (by omega)];have:=a4 i j pA hj (by omega);simpa only[e] using this
  ·have e:=WK i pA;have hl:=b3 (i-n) (by omega);have hj:j<(r2 (i-n)).length:=by rw[e] at h;exact h
   have HE:n*sz<=i*sz+j:=Nat.le_trans (Nat.mul_le_mul_right sz (by omega)) (Nat.le_add_right _ _);rw[List.getElem_append_right (by omega)]
   have e2:i*sz+j-xs.length=(i-n)*sz+j:=by
    rw[a1,Nat.sub_mul];have:=Nat.mul_le_mul_right sz (show n<=i by omega);omega
   have:=b4 (i-n) j (by omega) hj (by rw[<-e2];rw[List.length_append] at h';omega);simpa only[e,e2] using this

theorem rH(g o j:Nat):(⟨g,o,none⟩:Addr).add j=⟨g,o+j,none⟩:=by unfold Addr.add;split<;>simp_all

theorem iE{i j sz n k:Nat}(hk:k<n*sz)(hi:i=k/sz)(hj:j=k%sz):i<n/\j<sz/\i*sz+j=k:=by
 have hs:0<sz:=by
  rcases Nat.eq_zero_or_pos sz with h|h
  ·subst h;omega
  ·exact h
 subst hi;subst hj;refine⟨(Nat.div_lt_iff_lt_mul hs).2 hk,Nat.mod_lt _ hs,?_⟩;have:=Nat.div_add_mod k sz;rw[Nat.mul_comm] at this;exact this

theorem aV.Dy{ty:TypeId}{sz n:Nat}{row:Nat->List A}{p:Id}(h:aV ids im w (.row ty sz n row) (.lv p)):
  ∃cur:Array Value,p.sz=sz/\p.n=n/\w.heap[p.ao]?=some (.cells cur ty (0,0))/\cur.size=p.k/\n*sz<=p.k/\dz im w n sz row (cur.toList.take (n*sz)):=by
 obtain⟨e1,e2,vs,g1,g2,g3,g4,g5⟩:=h;have hl:(vs.toList.take (n*sz)).length=n*sz:=by simp;omega
 refine⟨vs,e1,e2,g1,g2,g3,hl,?_,g4,?_⟩
 ·intro u hu;obtain⟨k,hk,rfl⟩:=List.getElem_of_mem hu;rw[hl] at hk;obtain⟨q1,q2,q3⟩:=iE hk rfl rfl;have aI:k<vs.size:=by omega
  have:=(g5 (k/sz) (k%sz) q1 (by rw[g4 _ q1];exact q2) (by rw[q3];exact aI)).2;simp only[List.getElem_take,Array.getElem_toList];simpa only[q3] using this
 ·intro i j hi h h';rw[hl] at h';have:=(g5 i j hi h (by omega)).1;simpa using this

theorem dz.tail{im:Nat->Prop}{w:World}{n sz:Nat}{row:Nat->List A}{vs:List Value}(h:dz im w n sz row vs)(k:Nat):dz im w (n-k) sz (fun i=>row (k+i)) (vs.drop (k*sz)):=by
 obtain⟨h1,h2,h3,h4⟩:=h;refine⟨by rw[List.length_drop,h1,Nat.sub_mul],fun u hu=>h2 u (List.mem_of_mem_drop hu),fun i hi=>h3 _ (by omega),fun i j hi hj h'=>?_⟩;have:=h4 (k+i) j (by omega) hj (by rw[List.length_drop] at h';rw[Nat.add_mul];omega);rw[List.getElem_drop];have e:(k+i)*sz+j=k*sz+(i*sz+j):=by rw[Nat.add_mul];omega
 simpa only[e] using this
theorem tm(hs:aF c s m a w ids){br n:Nat}{row:Nat->List A}{y:A}{v:Value}(h:zn m br y=some (n,row))(hy:Rel ids (au c ids w) w y v):
  ∃news,dz (au c ids w) w n br row news/\((v=.slice none 0 0/\n=0/\news=[])\/∃ad cp,v=.slice (some ad) n cp/\(∀j u,news[j]?=some u->w.cell? (ad.add j)=some u)):=by
 unfold zn at h;split at h
 ·rename_i b;split at h
  ·rename_i ty sz n' dr hb;split at h
   ·rename_i he;have he:=Nat.eq_of_beq_eq_true he;cases h;subst he;obtain⟨aI,hm⟩:=iS hb;have eD:b<ids.length:=by rw[hs.aK];exact aI
    have hB:=hs.bu b aI eD;rw[hm] at hB;rcases hs.fk hy (by rw[hb];simp) with⟨h1,rfl⟩|⟨p,cap,h1,h2,h3,rfl⟩
    ·have:ids[b]=.aP:=by rw[List.getElem?_eq_getElem eD] at h1;exact Option.some.inj h1
     rw[this] at hB;have hB:n=0:=hB;subst hB;exact⟨[],dz.nil _ _ _ _,.inl ⟨rfl,rfl,rfl⟩⟩
    ·have:ids[b]=.lv p:=by rw[List.getElem?_eq_getElem eD] at h1;exact Option.some.inj h1
     rw[this] at hB;obtain⟨cur,e1,e2,g1,g2,g3,hR⟩:=hB.Dy;refine⟨_,hR,.inr ⟨_,cap,by rw[e2],fun j u hu=>?_⟩⟩;rw[rH,Nat.zero_add,cell_of_row w p.ao j cur ty (0,0) g1];rw[List.getElem?_take] at hu;split at hu
     ·simpa using hu
     ·cases hu
   ·cases h
  ·cases h
 ·rename_i n' sz dr;split at h
  ·rename_i he;have he:=Nat.eq_of_beq_eq_true he;cases h;subst he;cases hy with
   | aH hy =>
    cases hy with
    | rJ=>exact⟨[],dz.nil _ _ _ _,.inl ⟨rfl,rfl,rfl⟩⟩
    | sle _ _ ad cap=>exact⟨[],dz.nil _ _ _ _,.inr ⟨ad,cap,rfl,fun j u hu=>by simp at hu⟩⟩
    | sl _ _ _ ao base cap vs hb ke hl hc ho hr =>
     refine⟨(List.range (n*sz)).map fun k=>vs (k/sz) (k%sz),⟨by simp,?_,hl,?_⟩,.inr ⟨_,cap,rfl,?_⟩⟩
     ·intro u hu;simp only[List.mem_map,List.mem_range] at hu;obtain⟨k,hk,rfl⟩:=hu;obtain⟨q1,q2,q3⟩:=iE hk rfl rfl;exact ho _ _ q1 q2
     ·intro i j hi hj h';have L6:j<sz:=by rw[<-hl i hi];exact hj
      have VZ:0<sz:=by omega
      have e1:(i*sz+j)/sz=i:=by rw[Nat.mul_comm,Nat.mul_add_div VZ,Nat.div_eq_of_lt L6];simp
      have e2:(i*sz+j)%sz=j:=by rw[Nat.mul_comm,Nat.mul_add_mod,Nat.mod_eq_of_lt L6]
      simp only[List.getElem_map,List.getElem_range,e1,e2];exact hr i j hi hj
     ·intro k u hu;rw[List.getElem?_map] at hu;rcases Nat.lt_or_ge k (n*sz) with hk|hk
      ·rw[List.getElem?_eq_getElem (by simpa using hk)] at hu;simp at hu;obtain⟨q1,q2,q3⟩:=iE hk rfl rfl;rw[rH,<-hu,<-hc _ _ q1 q2,Nat.add_assoc,q3]
      ·rw[List.getElem?_eq_none (by simpa using hk)] at hu;cases hu
  ·cases h
 ·cases h;exact⟨[],dz.nil _ _ _ _,.inl ⟨hy.df,rfl,rfl⟩⟩
 ·rename_i b k;split at h
  ·rename_i ty sz n' dr hb;split at h
   ·rename_i he;have he:=Nat.eq_of_beq_eq_true he;cases h;subst he;obtain⟨aI,hm⟩:=iS hb;have eD:b<ids.length:=by rw[hs.aK];exact aI
    have hB:=hs.bu b aI eD;rw[hm] at hB;rcases hs.PB hy (by rw[hb];simp) with⟨h1,rfl⟩|⟨p,cap,x,h1,hx,rfl⟩
    ·have:ids[b]=.aP:=by rw[List.getElem?_eq_getElem eD] at h1;exact Option.some.inj h1
     rw[this] at hB;have hB:n'=0:=hB;subst hB;rw[Nat.zero_sub];exact⟨[],dz.nil _ _ _ _,.inl ⟨rfl,rfl,rfl⟩⟩
    ·have:ids[b]=.lv p:=by rw[List.getElem?_eq_getElem eD] at h1;exact Option.some.inj h1
     rw[this] at hB;obtain⟨cur,e1,e2,g1,g2,g3,hR⟩:=hB.Dy;refine⟨_,hR.tail k,.inr ⟨_,cap,by rw[e2],fun j u hu=>?_⟩⟩;rw[List.getElem?_drop,List.getElem?_take] at hu;split at hu
     ·rename_i hj
      have Yf:k<p.n:=by
       rw[e2];rcases Nat.lt_or_ge k n' with hk|hk
       ·exact hk
       ·have:=Nat.mul_le_mul_right sz hk;omega
      rw[hx Yf,e1,rH,cell_of_row w p.ao _ cur ty (0,0) g1];simpa using hu
     ·cases hu
   ·cases h
  ·cases h
 ·cases h

theorem dz.mono{n sz:Nat}{row:Nat->List A}{vs:List Value}(h:dz im w n sz row vs)(hm:∀u v,aw im w u v->aw bl w' u v):dz bl w' n sz row vs :=
 ⟨h.1,h.2.1,h.2.2.1,fun i j hi hj bW=>hm _ _ (h.2.2.2 i j hi hj bW)⟩

/-- A block whose first cells stand for rows. -/
theorem aV.mB{ty:TypeId}{sz n cap:Nat}{row:Nat->List A}{g:Nat}{cur:Array Value}{vs:List Value}(hg:w.heap[g]?=some (.cells cur ty (0,0)))(OG:cur.size=cap*sz)(hn:n<=cap)
  (ht:cur.toList.take (n*sz)=vs) (hR:dz im w n sz row vs):aV ids im w (.row ty sz n row) (.lv (mkId g cur.size n sz)):=by
 have hle:n*sz<=cur.size:=by rw[OG];exact Nat.mul_le_mul_right _ hn
 refine⟨rfl,rfl,cur,hg,rfl,hle,hR.2.2.1,?_⟩;intro i j hi hj bW
 have aI:i*sz+j<n*sz:=by
  have:=Nat.mul_le_mul_right sz (show i+1<=n from hi);have:=hR.2.2.1 i hi;rw[Nat.add_mul] at *;omega
 have uC:=hR.1;have e:vs[i*sz+j]'(by omega)=cur[i*sz+j]:=by subst ht;simp
 refine⟨by rw[<-e];exact hR.2.2.2 i j hi hj (by omega),?_⟩;rw[<-e];exact hR.2.1 _ (List.getElem_mem _)

theorem BJ(aJ:bo P tt)(hs:aF c s m a w ids){t:TypeId}{X Y:Operand}(ho:o.op=.call { callee:=.builtin .append,args:=#[X,Y],argTypes:=#[t,t] })
  {K:List A->A->List aq->Prop} (h:PM tt t (ev s X) (ev s Y) s m K)
  (hn:∀s1 v m' a' w' ab,K s1 v m'->aF c (aZ s1 o.dst v) m' a' w' ab->next a' w'):o.wp P a w next Q:=by
 have hx:=hs.ev X;have hy:=hs.ev Y
 have e:(execOp a.eval o)=(do pure (.value (<-Builtin.append_ #[t,t] o.type #[a.eval X,a.eval Y]))):=by
  obtain⟨dst,op,ty,pos,after,guard⟩:=o;simp only at ho;subst ho;simp[execOp,resolve,invoke,builtin]
 unfold PM at h;split at h
 ·exact h.elim
 ·rename_i ti iQ;obtain⟨i0,d,z0,_,hd,_,_,_,_,_,_,_,_,_,iU,_⟩:=aJ.facts iQ;split at h
  ·rename_i n2 iy hk hv;obtain⟨ie,ze,gZ,iw,bM,Al,hz,oG,hne⟩:=iU hk;subst gZ;obtain⟨news,L8,PH⟩:=tm hs hv hy
   have L9:(a.eval Y=.slice none 0 0/\n2=0/\news=[])\/∃ad cp,a.eval Y=.slice (some ad) n2 cp/\news.length=n2*ie.size/\(∀j u,news[j]?=some u->w.cell? (ad.add j)=some u):=by
    rcases PH with h|⟨ad,cp,h1,h2⟩
    ·exact .inl h
    ·exact .inr ⟨ad,cp,h1,by rw[bM];exact L8.1,h2⟩
   have Fb:ze.cells.size=ie.size:=by rw[oG,bM]
   split at h
   ·rename_i b LZ;rw[LZ] at hx;split at h
    ·rename_i ty sz n row hb;split at h
     ·rename_i lZ j8;have lZ:=Nat.eq_of_beq_eq_true lZ;have j8:=Nat.eq_of_beq_eq_true j8;subst lZ;subst j8;rw[aN] at h;obtain⟨⟨Ay,qS⟩,h⟩:=h;rw[cD,dF] at h;obtain⟨aI,hm⟩:=iS hb;have eD:b<ids.length:=by rw[hs.aK];exact aI
      have hB:=hs.bu b aI eD;rw[hm] at hB
      have L5:∃xs,dz (au c ids w) w n ti.br row xs/\((a.eval X=.slice none 0 0/\n=0/\xs=[])\/∃g cap cur,a.eval X=.slice (some ⟨g,0,none⟩) n cap/\w.heap[g]?=some (.cells cur ti.aM (0,0))/\n<=cap/\cap<=maxLen/\cur.size=cap*ie.size/\cur.toList.take (n*ie.size)=xs) /\
        ((a.eval X).ownBlock=none\/∃p,ids[b]?=some (.lv p)/\(a.eval X).ownBlock=some p.ao):=by
       rcases hs.fk hx (by rw[hb];simp) with⟨h1,h2⟩|⟨p,cap,h1,h2,h3,h4⟩
       ·have:ids[b]=.aP:=by rw[List.getElem?_eq_getElem eD] at h1;exact Option.some.inj h1
        rw[this] at hB;have hB:n=0:=hB;subst hB;exact⟨[],dz.nil _ _ _ _,.inl ⟨h2,rfl,rfl⟩,.inl (by rw[h2];rfl)⟩
       ·have:ids[b]=.lv p:=by rw[List.getElem?_eq_getElem eD] at h1;exact Option.some.inj h1
        rw[this] at hB;obtain⟨cur,e1,e2,g1,g2,g3,hR⟩:=hB.Dy;subst e2;exact⟨_,hR,.inr ⟨p.ao,cap,cur,h4,g1,h2.1,h2.2,by rw[g2,<-h3,e1,bM],by rw[bM]⟩,.inr ⟨p,h1,by rw[h4];rfl⟩⟩
      obtain⟨xs,U5,PN,aU⟩:=L5;obtain⟨v',w',bR,o1,o2,o3,o4,o5,L',o6⟩:=kJ (P:=P) (w:=w) t o.type ti.aM ie ze hd iw hz Fb (a.eval X) n xs PN (a.eval Y) n2 news L9 L8.2.1 Ay (by rw[Al];exact qS);have U6:=U5.cat L8
      have hblk:∀k,k<w.heap.size->(∀p,ids[b]?=some (.lv p)->¬p.has k)->w'.heap[k]?=w.heap[k]?:=by
       intro k hk hp;refine o5 k hk (fun e=>?_);rcases aU with h|⟨p,h1,h2⟩
       ·rw[h] at e;cases e
       ·rw[h2] at e;exact hp p h1 (.inl (Option.some.inj e).symm)
      rcases o6 with⟨rfl,ua⟩|⟨g,cap,cur,rfl,q1,q2,q3,q4,q5,q6,q7⟩
      ·have bH:=hs.rebind (w':=w') b .aP (.row ti.aM ti.br (n+n2) (bN n row iy)) 4 aI o1 o2 o3 o4 hblk (fun _ h=>by cases h) (fun p' h=>by cases h) (fun _=>ua) L';refine aQ (by rw[e];simp[bR]) (hn _ _ _ _ _ _ h (bH.aZ o.dst (.fH b ?_)));rw[List.getElem?_set_self eD]
      ·rw[bM] at q4 q5
       have bH:=hs.rebind (w':=w') b (.lv (mkId g cur.size (n+n2) ti.br)) (.row ti.aM ti.br (n+n2) (bN n row iy)) 4 aI o1 o2 o3 o4 hblk (fun _ h=>by cases h)
        (fun p' h x hx=>by
         cases h;have:=cg hx;subst this;refine⟨q6,?_⟩;rcases q7 with h|h
         ·exact .inl h
         ·rcases aU with h'|⟨p,h1,h2⟩
          ·rw[h'] at h;cases h
          ·rw[h2] at h;exact .inr ⟨p,h1,.inl (Option.some.inj h).symm⟩)
        (fun hm=>aV.mB q1 q4 q2 q5 (U6.mono hm)) L'
       refine aQ (by rw[e];simp[bR]) (hn _ _ _ _ _ _ h (bH.aZ o.dst (.own b cap (mkId g cur.size (n+n2) ti.br) ?_ ⟨q2,q3⟩ q4.symm)));rw[List.getElem?_set_self eD]
     ·exact h.elim
    ·exact h.elim
   ·rename_i LZ;rw[LZ] at hx;simp only[aN] at h;obtain⟨⟨Ay,qS⟩,h⟩:=h;rw[eQ] at h;obtain⟨v',w',bR,o1,o2,o3,o4,o5,L',o6⟩:=kJ (P:=P) (w:=w) t o.type ti.aM ie ze hd iw hz Fb (a.eval X) 0 [] (.inl ⟨hx.df,rfl,rfl⟩) (a.eval Y) n2 news L9 L8.2.1 (by omega) (by rw[Al];simpa using qS);have PO:Bw w.heap.size w w':=⟨o1,o2,o3,o4,fun k hk=>o5 k hk (by rw[hx.df];simp[Value.ownBlock]),L'⟩;simp only[Nat.zero_add,List.nil_append] at o6
    have la:∀js:dp,(∀p,dH.lv p∈js->∀x,p.has x->w.heap.size<=x)->∀u v,aw (au c ids w) w u v->aw (au c (ids++js) w') w' u v:=by
     intro js L6 u v hu;refine hu.mono ?_ (fun k hk=>PO.block k (cw hs hk));intro k hk;rcases hk with hk|⟨h1,h2,h3⟩
     ·exact .inl hk
     ·refine .inr ⟨h1,Nat.lt_of_lt_of_le h2 o4,fun p hp=>?_⟩;rcases List.mem_append.1 hp with hp|hp
      ·exact h3 p hp
      ·intro hx;have:=L6 p hp k hx;omega
    rcases o6 with⟨rfl,ua⟩|⟨g,cap,cur,rfl,q1,q2,q3,q4,q5,q6,q7⟩
    ·have bH := hs.grow PO [.row ti.aM ti.br n2 iy] [.aP] rfl (fun i h1 h2 => by
       have:i=0:=by simp at h1;omega
       subst this;exact ua) (fun p h=>by simp at h) (fun vs h=>by simp at h) (fun i j p q x h1=>by
       cases i with
       | zero=>simp at h1
       | succ i=>simp at h1)
     refine aQ (by rw[e];simp[bR]) (hn _ _ _ _ _ _ h (bH.aZ o.dst (.fH m.length ?_)));rw[<-hs.aK];simp
    ·rw[bM] at q4 q5
     have HE:w.heap.size<=g:=by
      rcases q7 with h|h
      ·exact h
      ·rw[hx.df] at h;simp[Value.ownBlock] at h
     have bH:=hs.grow PO [.row ti.aM ti.br n2 iy] [.lv (mkId g cur.size n2 ti.br)] rfl (fun i h1 h2=>by
       have:i=0:=by simp at h1;omega
       subst this;exact aV.mB q1 q4 q2 q5 (L8.mono (la _ (fun p hp x hx=>by simp at hp;subst hp;rw[cg hx];exact HE)))) (fun p h x hx=>by simp at h;subst h;rw[cg hx];exact⟨HE,q6⟩) (fun vs h=>by simp at h) (fun i j p q x h1 h2 _ _=>by
       cases i with
       | zero=>cases j with
        | zero=>rfl
        | succ j=>simp at h2
       | succ i=>simp at h1)
     refine aQ (by rw[e];simp[bR]) (hn _ _ _ _ _ _ h (bH.aZ o.dst (.own m.length cap (mkId g cur.size n2 ti.br) ?_ ⟨q2,q3⟩ q4.symm)));rw[<-hs.aK];simp
   ·exact h.elim
  ·exact h.elim
end
def Fc(z:List A):Nat->List A
 | 0=>[]
 | n+1=>z++Fc z n
theorem Dz(z:List A):∀n,(Fc z n).length=n*z.length
 | 0=>by simp[Fc]
 | n+1=>by simp[Fc,Dz z n,Nat.add_mul];omega
theorem DA(z:List A):∀(n k:Nat) (h:k<(Fc z n).length) (h':k%z.length<z.length),(Fc z n)[k]=z[k%z.length]
 | 0,k,h,_=>by simp[Fc] at h
 | n+1,k,h,h'=>by
  simp only[Fc];by_cases hk:k<z.length
  ·rw[List.getElem_append_left hk];simp[Nat.mod_eq_of_lt hk]
  ·rw[List.getElem_append_right (by omega)];have e:(k-z.length)%z.length=k%z.length:=(Nat.mod_eq_sub_mod (by omega)).symm;rw[DA z n (k-z.length) (by simp[Fc] at h;omega) (by rw[e];exact h')];simp only[e]

def Jk(tt:TT)(t:TypeId)(l k:A)(m:List aq)(K:KT):Prop :=
 match tt.lookup t,l,k with
 | some ti,.int _ l,.int _ k=>match ti.kind,tt.lookup ti.aM with
  | 3,some te=>dj ti.dS fun eb=>dj ti.aM fun aM=>dj ti.br fun br=>fl te.zero fun z=>(0<=l/\l<=k/\k<=140737488355328/\k*(eb:Int)<=140737488355328)/\kZ m (.row aM br l.toNat fun _=>z) fun b m'=>K (.own b) m'
  | _,_=>False
 | _,_,_=>False
def tn(tt:TT)(t:TypeId)(len:Nat)(parts:List (Nat×A))(m:List aq)(K:KT):Prop :=
 match tt.lookup t with
 | none=>False
 | some ti=>match ti.kind,tt.lookup ti.aM,Nat.ble (len*ti.br) 1000000 with
  | 3,some te,true=>nc ti parts (Fc te.zero len) fun cs=>match cs.any (cE 4),Nat.beq cs.length (len*ti.br) with
   | false,true=>dj ti.aM fun aM=>dj ti.br fun br=>kZ m (.row aM br len fun i=>fT br (cs.drop (i*br))) fun b m'=>K (.own b) m'
   | _,_=>False
  | _,_,_=>False
/-- A slice of a row of ours: the row itself, shorter. -/
def BK(tt:TT)(t:TypeId)(b:Nat)(lo hi:Option A)(s:List A)(m:List aq)(K:List A->A->List aq->Prop):Prop :=
 match tt.lookup t,lo with
 | some ti,none=>match ti.kind,m.getD b .dead with
  | 3,.row ty sz n row=>vW hi n n fun h =>
   fd.pv 4 (s.map (tW b 4)) fun s'=>pz ((m.map (zl b 4)).set b (.row ty sz h row)) fun m'=>K s' (.own b) m'
  | _,_=>False
 | some ti,some l=>match ti.kind,hi,m.getD b .dead with
  | 3,none,.row _ sz n _=>match Nat.beq sz ti.br with
   | true=>vW (some l) 0 n fun k=>dj b fun b'=>K s (.mF b' k) m
   | false=>False
  | _,_,_=>False
 | _,_=>False
/-- An operation that may strike names. -/
def oh(P:Program)(G:aG)(tt:TT)(o:Oper)(s:List A)(m:List aq)(K:List A->A->List aq->Prop):Prop :=
 match o.op with
 | .call { callee:=.builtin .append,args,argTypes }=>match args.toList,argTypes.toList with
  | [x,y],[t,t']=>match Nat.beq t' t with
   | true=>PM tt t (ev s x) (ev s y) s m K
   | false=>False
  | _,_=>False
 | .makeSlice t l k=>Jk tt t (ev s l) (ev s k) m (K s)
 | .buildSlice t len ps=>tn tt t len (ps.toList.map fun p=>(p.1,ev s p.2)) m (K s)
 | .slice t x lo hi mx=>match mx,ev s x with
  | none,.own b=>BK tt t b (og s lo) (og s hi) s m K
  | _,_=>step P G tt o s m (K s)
 | _=>step P G tt o s m (K s)

section
variable {c:Ctx} {s:List A} {m:List aq} {a:Act} {w w':World} {ids ab:dp} {P:Program} {im bl:Nat->Prop} {tt:TT} {G:aG}
variable {next:Act->World->Prop} {Q:Exit->Act->World->Prop} {o:Oper}

theorem ni{z:Array Value}{sz n N:Nat}(hz:z.size=sz)(hn:n<=N)(fG:∀v∈z.toList,v.oneCell'=true):
  dz im w n sz (fun _=>z.toList.map ofConst) ((madeCells z (N*sz)).toList.take (n*sz)):=by
 have hle:n*sz<=N*sz:=Nat.mul_le_mul_right _ hn;have hl:((madeCells z (N*sz)).toList.take (n*sz)).length=n*sz:=by rw[List.length_take,Array.length_toList,size_madeCells];exact Nat.min_eq_left hle
 have gp:∀k (h:k<((madeCells z (N*sz)).toList.take (n*sz)).length) (h':k%sz<z.toList.length),((madeCells z (N*sz)).toList.take (n*sz))[k]=z.toList[k%sz]:=by
  intro k h h';simp[madeCells,hz];rw[getElem!_pos z (k%sz) (by simpa using h')]
 refine⟨hl,?_,fun i _=>by simp[hz],?_⟩
 ·intro u hu;obtain⟨k,hk,rfl⟩:=List.getElem_of_mem hu;have nz:=hk;rw[hl] at nz;obtain⟨q1,q2,q3⟩:=iE nz rfl rfl;rw[gp k hk (by simpa[hz] using q2)];exact fG _ (List.getElem_mem _)
 ·intro i j hi hj h';have L6:j<sz:=by simpa[hz] using hj
  have e2:(i*sz+j)%sz=j:=by rw[Nat.mul_comm,Nat.mul_add_mod,Nat.mod_eq_of_lt L6]
  rw[gp _ h' (by rw[e2];simpa[hz] using L6)];simp only[e2,List.getElem_map];exact dT _ _ _

theorem zo(aJ:bo P tt)(hs:aF c s m a w ids){t:TypeId}{L C:Operand}(ho:o.op=.makeSlice t L C){K:KT}(h:Jk tt t (ev s L) (ev s C) m K)(hn:bZ c s o K next):o.wp P a w next Q:=by
 have hl:=hs.ev L;have hc:=hs.ev C;unfold Jk at h;split at h
 ·rename_i ti k1 l k2 k iQ hL hC;rw[hL] at hl;rw[hC] at hc;obtain⟨i0,d,z0,_,hd,_,_,_,_,_,_,_,_,_,iU,_⟩:=aJ.facts iQ;split at h
  ·rename_i te hk xx;obtain⟨ie,ze,gZ,iw,bM,Al,hz,oG,hne⟩:=iU hk;subst gZ;obtain⟨i1,d1,z1,dt,_,Nn,_,fG,_,hzero,_⟩:=aJ.facts xx;have e1:i1=ie:=by rw[iw] at dt;exact(Option.some.inj dt).symm
   subst e1;have e2:z1=ze:=by rw[hz] at Nn;exact(Option.some.inj Nn).symm
   subst e2;simp only[aN,ck] at h;obtain⟨⟨c1,c2,c3,c4⟩,h⟩:=h;rw[eQ] at h;have bR:=run_make (P:=P) w t ti.aM i1 z1 hd iw hz k1 k2 l k c1 c2 (by rw[Al,Int.mul_comm];omega) (by omega);refine wF hs hn (.row ti.aM ti.br l.toNat fun _=>te.zero) (madeCells z1.cells (k.toNat*i1.size)) ti.aM l.toNat ti.br (v:=.slice (some ⟨w.heap.size,0,none⟩) l.toNat k.toNat) ?_ h ?_ ?_
   ·unfold execOp;rw[ho];simp only[hl.bS,hc.bS,Sem.run_bind,bR];rfl
   ·intro ab bl w' g1 g2 g3 g4;rw[bM] at g4 ⊢;refine aV.mB (cap:=k.toNat) g4 (by simp[size_madeCells]) (by omega) rfl ?_;rw[hzero];exact ni oG (by omega) fG
   ·intro ab bl w' g;refine .own _ k.toNat _ g ⟨by show l.toNat<=k.toNat;omega,by simp only[maxLen];omega⟩ ?_;simp[size_madeCells,bM]
  ·exact h.elim
 ·exact h.elim

/-- A slice literal: the new block, and what it stands for. -/
theorem DB(aJ:bo P tt)(hs:aF c s m a w ids){t:TypeId}{len:Nat}{ps:Array (Nat×Operand)}{ti te:TI}(iQ:tt.lookup t=some ti)(hk:ti.kind=3)(xx:tt.lookup ti.aM=some te)(Ma:len*ti.br<=1000000)
  {K:List A->Prop} (h:nc ti (ps.toList.map fun p=>(p.1,ev s p.2)) (Fc te.zero len) K) :
  ∃dc du,K dc/\(dc.any (cE 4)=false->dc.length=len*ti.br ->
   (Instr.buildSlice t len (ps.map fun p=>(p.1,a.eval p.2))).run P w=.ok (.slice (some ⟨w.heap.size,0,none⟩) len len) (w.alloc (.cells du ti.aM))/\du.size=len*ti.br/\len<=maxLen /\
   ∀ab bl w',(∀b,au c ids w b->bl b)->(∀b,au c ids w b->w'.heap[b]?=w.heap[b]?)->(∀(b:Nat) p,ids[b]?=some p->p≠.dead->ab[b]?=some p) ->
    w'.heap[w.heap.size]?=some (.cells du ti.aM (0,0))->aV ab bl w' (.row ti.aM ti.br len fun i=>fT ti.br (dc.drop (i*ti.br))) (.lv (mkId w.heap.size du.size len ti.br))):=by
 have hp:=uY hs ps.toList;obtain⟨i0,d,z0,_,hd,_,_,_,_,_,_,_,_,_,iU,_⟩:=aJ.facts iQ;obtain⟨ie,ze,gZ,iw,bM,Al,hz,oG,hne⟩:=iU hk;subst gZ;obtain⟨i1,d1,z1,dt,_,Nn,_,fG,_,hzero,_⟩:=aJ.facts xx;have e1:i1=ie:=by rw[iw] at dt;exact(Option.some.inj dt).symm
 subst e1;have e2:z1=ze:=by rw[hz] at Nn;exact(Option.some.inj Nn).symm
 subst e2;have TH:te.zero.length=ti.br:=by rw[hzero];simp[oG]
 have hM:=ni (im:=au c ids w) (w:=w) (n:=len) (N:=len) oG (Nat.le_refl _) fG;have vB:(madeCells z1.cells (len*ti.br)).toList.length=len*ti.br:=by simp[size_madeCells]
 rw[List.take_of_length_le (by omega)] at hM
 obtain⟨dc,du,f1,f2,f3,f4,f5⟩:=nf (ti:=ti) (ids:=ids) (im:=au c ids w) (w:=w) _ _ (Fc te.zero len) (madeCells z1.cells (len*ti.br)).toList _ hp (by rw[vB,Dz,TH])
  hM.2.1 (fun j h1 h2=>by
   rw[vB] at h2;obtain⟨q1,q2,q3⟩:=iE h2 rfl rfl;have:=hM.2.2.2 (j/ti.br) (j%ti.br) q1 (by simp[oG];exact q2) (by rw[q3,vB];exact h2);rw[DA _ _ _ h1 (by rw[TH];exact q2)];simp only[TH,q3] at this ⊢;have e:te.zero[j%ti.br]'(by rw[TH];exact q2)=(z1.cells.toList.map ofConst)[j%ti.br]'(by simp[oG];exact q2):=by simp only[hzero]
   rw[e];exact .aH this) h
 refine⟨dc,du.toArray,f2,fun aU hlen=>?_⟩;have uC:du.length=len*ti.br:=by rw[f3,hlen]
 have No:∀zero:Array Value,(len*ti.br=0\/zero=z1.cells)->(Array.range (len*ti.br)).map (zero[· % zero.size]!)=madeCells z1.cells (len*ti.br):=by
  intro zero h;rcases h with h|h
  ·rw[h];simp[madeCells]
  ·rw[h];rfl
 have MP:(fun i=>some (i*ti.br,ti.br))=placeOf ti:=by
  funext x;unfold placeOf;rw[hk];rfl
 have bR:(Instr.buildSlice t len (ps.map fun p=>(p.1,a.eval p.2))).run P w=.ok (.slice (some ⟨w.heap.size,0,none⟩) len len) (w.alloc (.cells du.toArray ti.aM)):=by
  have hf:Instr.fill (placeOf ti) (madeCells z1.cells (len*ti.br)) (ps.toList.map fun p=>(p.1,a.eval p.2))=some du.toArray:=by simpa using f1
  have hle:¬16777216<len*ti.br:=by omega
  by_cases h0:len*ti.br=0
  ·have:=No #[] (.inl h0);rw[<-this] at hf;simp[Instr.buildSlice,underlying,hd,sizeOf,typeInfo,iw,bM,h0,MP,newRow];rw[h0] at hf;simp at hf;simp[hf]
  ·have:=No z1.cells (.inr rfl);rw[<-this] at hf;simp[Instr.buildSlice,underlying,hd,sizeOf,typeInfo,iw,bM,hle,h0,MP,newRow,zeroValue,hz];simp[hf]
 refine⟨bR,by simpa using uC,?_,?_⟩
 ·have:len<=len*ti.br:=Nat.le_mul_of_pos_right _ (Nat.pos_of_ne_zero hne);simp only[maxLen];omega
 ·intro ab bl w' g1 g2 g3 g4;refine aV.mB (cap:=len) (vs:=du) g4 (by simpa using uC) (Nat.le_refl _) (by rw[<-uC];simp) ⟨uC,f4,?_,?_⟩
  ·intro i hi;simp only[jR];simp;have:=Nat.mul_le_mul_right ti.br (show i+1<=len from hi);rw[Nat.add_mul] at this;omega
  ·intro i j hi hj h';have hc:i*ti.br+j<dc.length:=by omega
   have e:(fT ti.br (dc.drop (i*ti.br)))[j]=dc[i*ti.br+j]:=by simp[jR]
   rw[e];refine(cm 4 _ _ ?_ (f5 _ hc h')).mono g1 g2;have:=List.any_eq_false.1 aU _ (List.getElem_mem hc);simpa using this

theorem tp(aJ:bo P tt)(hs:aF c s m a w ids){t:TypeId}{len:Nat}{ps:Array (Nat×Operand)}(ho:o.op=.buildSlice t len ps){K:KT}
  (h:tn tt t len (ps.toList.map fun p=>(p.1,ev s p.2)) m K) (hn:bZ c s o K next):o.wp P a w next Q:=by
 unfold tn at h;split at h
 ·exact h.elim
 ·rename_i ti iQ;split at h
  ·rename_i te hk xx Ma;obtain⟨dc,du,f2,DD⟩:=DB (P:=P) aJ hs iQ hk xx (Nat.le_of_ble_eq_true Ma) h;split at f2
   ·rename_i aU hlen;rw[aN,aN,eQ] at f2;obtain⟨bR,uC,TJ,hB⟩:=DD aU (Nat.eq_of_beq_eq_true hlen);refine wF hs hn _ du ti.aM len ti.br (v:=.slice (some ⟨w.heap.size,0,none⟩) len len) ?_ f2 hB ?_
    ·unfold execOp;rw[ho];simp only[Sem.run_bind,bR];rfl
    ·intro ab bl w' g;exact .own _ len _ g ⟨Nat.le_refl _,TJ⟩ uC.symm
   ·exact f2.elim
  ·exact h.elim

theorem wL(aJ:bo P tt)(hs:aF c s m a w ids){t:TypeId}{X:Operand}{lo hi:Option Operand}{b:Nat}(ho:o.op=.slice t X lo hi none)(hX:ev s X=.own b)
  {K:List A->A->List aq->Prop} (h:BK tt t b (og s lo) (og s hi) s m K)
  (hn:∀s1 v m' a' w' ab,K s1 v m'->aF c (aZ s1 o.dst v) m' a' w' ab->next a' w'):o.wp P a w next Q:=by
 have hx:=hs.ev X;rw[hX] at hx;have e:execOp a.eval o=(do let z <-Instr.sliceAt t (a.eval X) (lo.map a.eval) (hi.map a.eval) none;pure (.value z)):=by unfold execOp;rw[ho];rfl
 unfold BK at h;split at h
 ·rename_i ti iQ qH;have qH:lo=none:=by cases lo with|none=>rfl|some=>simp[og] at qH
  subst qH;obtain⟨i0,d,z0,_,hd,_,_,_,_,_,_,_,_,_,iU,_⟩:=aJ.facts iQ;split at h
  ·rename_i ty sz n row hk hb;obtain⟨ie,ze,gZ,iw,bM,Al,hz,oG,hne⟩:=iU hk;subst gZ
   have u6:P.underlying t=some (.slice (P.elem t)):=by
    have:P.elem t=ti.aM:=by simp[Program.elem,hd]
    rw[this];exact hd
   have Fa:P.elem t=ti.aM:=by simp[Program.elem,hd]
   obtain⟨aI,hm⟩:=iS hb;have eD:b<ids.length:=by rw[hs.aK];exact aI
   have hB:=hs.bu b aI eD;rw[hm] at hB;rcases hs.fk hx (by rw[hb];simp) with⟨h1,h2⟩|⟨p,cap,h1,h2,h3,h4⟩
   ·have:ids[b]=.aP:=by rw[List.getElem?_eq_getElem eD] at h1;exact Option.some.inj h1
    rw[this] at hB;have hB:n=0:=hB;subst hB;obtain⟨gj,h,b1,b2,b3⟩:=fg hs h (Nat.le_refl _);rw[cD,dF] at h
    have h0:gj=0:=by
     cases hi with
     | none=>exact b1 rfl
     | some L=>have:=b2 rfl;omega
    subst h0;have bH:=hs.rebind (w':=w) b .aP (.row ty sz 0 row) 4 aI rfl rfl rfl (Nat.le_refl _) (fun _ _ _=>rfl) (fun _ h=>by cases h) (fun p' h=>by cases h) (fun _=>rfl);refine aQ ?_ (hn _ _ _ _ _ _ h (bH.aZ o.dst (v:=.slice none 0 0) (.fH b ?_)))
    ·rw[e,h2,Sem.run_bind,run_sliceAt_slice _ _ _ _ _ _ u6,run_slice_any _ _ _ _ _ u6];have:=dq (P:=P) (w:=w) (a:=a) (Kf:=true) (len:=0) (cap:=0) (lo:=none) b1 (fun _=>rfl) b3 (fun X h=>by cases h);simp only[Option.map_none] at this;simp[this,Fa,sizeOf,typeInfo,iw,bM,sliced]
    ·rw[List.getElem?_set_self eD]
   ·have:ids[b]=.lv p:=by rw[List.getElem?_eq_getElem eD] at h1;exact Option.some.inj h1
    rw[this] at hB;obtain⟨gj,h,b1,b2,b3⟩:=fg hs h (show n<=cap by have:=hB.2.1;omega);rw[cD,dF] at h;obtain⟨e1,e2,vs,g1,g2,g3,g4,g5⟩:=hB
    have hle:gj<=n:=by
     cases hi with
     | none=>have:=b1 rfl;omega
     | some L=>exact b2 rfl
    have bH:=hs.rebind (w':=w) b (.lv (mkId p.ao p.k gj p.sz)) (.row ty sz gj row) 4 aI rfl rfl rfl (Nat.le_refl _) (fun _ _ _=>rfl) (fun _ h=>by cases h)
     (fun p' h x hx=>by cases h;rw[cg hx];exact⟨(hs.fresh p (List.mem_of_getElem? h1)).2,.inr ⟨p,h1,.inl rfl⟩⟩)
     (fun Gn=>⟨e1,rfl,vs,g1,g2,Nat.le_trans (Nat.mul_le_mul_right _ hle) g3,fun i hi=>g4 i (by omega),fun i j hi h h'=>⟨Gn _ _ (g5 i j (by omega) h h').1,(g5 i j (by omega) h h').2⟩⟩)
    refine aQ ?_ (hn _ _ _ _ _ _ h (bH.aZ o.dst (v:=.slice (some ⟨p.ao,0,none⟩) gj cap) (.own b cap (mkId p.ao p.k gj p.sz) ?_ ⟨by show gj<=cap;omega,h2.2⟩ h3)))
    ·rw[e,h4,Sem.run_bind,run_sliceAt_slice _ _ _ _ _ _ u6,run_slice_any _ _ _ _ _ u6,e2];have:=dq (P:=P) (w:=w) (a:=a) (Kf:=true) (len:=n) (cap:=cap) (lo:=none) b1 (fun _=>rfl) b3 (fun X h=>by cases h);simp only[Option.map_none] at this;have e3:(⟨p.ao,0,none⟩:Addr).add 0=⟨p.ao,0,none⟩:=rfl;simp[this,Fa,sizeOf,typeInfo,iw,bM,sliced,e3]
    ·rw[List.getElem?_set_self eD]
  ·exact h.elim
 ·rename_i ti l iQ qH;obtain⟨L,rfl⟩:∃L,lo=some L:=by cases lo with|none=>simp[og] at qH|some L=>exact⟨L,rfl⟩
  obtain⟨i0,d,z0,_,hd,_,_,_,_,_,_,_,_,_,iU,_⟩:=aJ.facts iQ;split at h
  ·rename_i ty sz n row hk hh hb;have Un:hi=none:=by cases hi with|none=>rfl|some=>simp[og] at hh
   subst Un;split at h
   ·rename_i U7;have U7:=Nat.eq_of_beq_eq_true U7;subst U7;obtain⟨ie,ze,gZ,iw,bM,Al,hz,oG,hne⟩:=iU hk;subst gZ
    have u6:P.underlying t=some (.slice (P.elem t)):=by
     have:P.elem t=ti.aM:=by simp[Program.elem,hd]
     rw[this];exact hd
    have Fa:P.elem t=ti.aM:=by simp[Program.elem,hd]
    obtain⟨aI,hm⟩:=iS hb;have eD:b<ids.length:=by rw[hs.aK];exact aI
    have hB:=hs.bu b aI eD;rw[hm] at hB;rw[<-qH] at h;rcases hs.fk hx (by rw[hb];simp) with⟨h1,h2⟩|⟨p,cap,h1,h2,h3,h4⟩
    ·have:ids[b]=.aP:=by rw[List.getElem?_eq_getElem eD] at h1;exact Option.some.inj h1
     rw[this] at hB;have hB:n=0:=hB;subst hB;obtain⟨k,h,c1,c2,c3⟩:=fg hs h (Nat.le_refl _);rw[aN] at h;have h0:k=0:=by have:=c2 rfl;omega
     subst h0;refine aQ ?_ (hn _ _ _ _ _ _ h (hs.aZ o.dst (v:=.slice none 0 0) (.pj b 0 h1)));rw[e,h2,Sem.run_bind,run_sliceAt_slice _ _ _ _ _ _ u6,run_slice_any _ _ _ _ _ u6];have:=dq (P:=P) (w:=w) (a:=a) (Kf:=true) (len:=0) (cap:=0) (hi:=none) (h:=0) (fun _=>rfl) c1 (fun X h=>by cases h) c3;simp only[Option.map_none,Option.map_some] at this;simp[this,Fa,sizeOf,typeInfo,iw,bM,sliced]
    ·have:ids[b]=.lv p:=by rw[List.getElem?_eq_getElem eD] at h1;exact Option.some.inj h1
     rw[this] at hB;obtain⟨k,h,c1,c2,c3⟩:=fg hs h (Nat.le_refl _);rw[aN] at h;have e1:p.sz=ti.br:=hB.1;have e2:p.n=n:=hB.2.1;refine aQ ?_ (hn _ _ _ _ _ _ h (hs.aZ o.dst (v:=.slice (some ⟨p.ao,if cap=k then 0 else k*p.sz,none⟩) (p.n-k) (cap-k)) (.mF b k _ _ p h1 (fun hk=>if_neg (by have:=h2.1;omega)))));rw[e,h4,Sem.run_bind,run_sliceAt_slice _ _ _ _ _ _ u6,run_slice_any _ _ _ _ _ u6,e2];have:=dq (P:=P) (w:=w) (a:=a) (Kf:=true) (len:=n) (cap:=cap) (hi:=none) (h:=n) (fun _=>rfl) c1 (fun X h=>by cases h) c3;simp only[Option.map_none,Option.map_some] at this;have e3:(⟨p.ao,0,none⟩:Addr).add (k*ti.br)=⟨p.ao,k*ti.br,none⟩:=by rw[rH,Nat.zero_add]
     by_cases WL:cap=k
     ·subst WL;simp[this,Fa,sizeOf,typeInfo,iw,bM,sliced,e3,e1]
     ·simp[this,Fa,sizeOf,typeInfo,iw,bM,sliced,e3,e1,WL]
   ·exact h.elim
  ·exact h.elim
 ·exact h.elim

theorem dY(aJ:bo P tt)(hG:G.ok c)(hs:aF c s m a w ids){K:List A->A->List aq->Prop}(h:oh P G tt o s m K)
  (hn:∀s1 v m' a' w' ab,K s1 v m'->aF c (aZ s1 o.dst v) m' a' w' ab->next a' w'):o.wp P a w next Q:=by
 unfold oh at h;split at h
 ·rename_i args ts ho;split at h
  ·rename_i x y t t' hx ht;split at h
   ·rename_i hb;have hb:=Nat.eq_of_beq_eq_true hb;subst hb;have e1:args = #[x,y]:=by apply Array.ext';simpa using hx
    have e2:ts = #[t',t']:=by apply Array.ext';simpa using ht
    rw[e1,e2] at ho;exact BJ aJ hs ho h hn
   ·exact h.elim
  ·exact h.elim
 ·rename_i ho;exact zo aJ hs ho h (fun v m' a' w' ab=>hn s v m' a' w' ab)
 ·rename_i ho;exact tp aJ hs ho h (fun v m' a' w' ab=>hn s v m' a' w' ab)
 ·rename_i ho;split at h
  ·rename_i hX;exact wL aJ hs ho hX h hn
  ·exact nh aJ hG hs h (fun v m' a' w' ab=>hn s v m' a' w' ab)
 ·exact nh aJ hG hs h (fun v m' a' w' ab=>hn s v m' a' w' ab)
end
def Id.Sz(p q:Id):Prop:=q.ao=p.ao/\q.k=p.k/\q.n=p.n/\q.sz=p.sz/\∀n k,p.sY n=some k->q.sY n=some k
def Id.SA(p q:Id):Prop:=q.ao=p.ao/\q.k=p.k/\q.n=p.n/\q.sz=p.sz
theorem Id.Jl(p:Id):p.Sz p:=⟨rfl,rfl,rfl,rfl,fun _ _ h=>h⟩
def iq:dH->dH->Prop
 | .dead,_=>True
 | .aP,q=>q=.aP
 | .av,q=>q=.av
 | .lv p,q=>∃p',q=.lv p'/\p.Sz p'
 | .cz vs,q=>q=.cz vs
/-- As above, of names that no entry leans on. -/
def Jm:dH->dH->Prop
 | .dead,_=>True
 | .aP,q=>q=.aP
 | .av,q=>q=.av
 | .lv p,q=>∃p',q=.lv p'/\p.SA p'
 | .cz vs,q=>q=.cz vs
theorem gD(p:dH):Jm p p:=by
 cases p with
 | dead=>trivial
 | av=>trivial
 | aP=>rfl
 | lv p=>exact⟨p,rfl,rfl,rfl,rfl,rfl⟩
 | cz vs=>rfl
theorem eE(p:dH):iq p p:=by
 cases p with
 | dead=>trivial
 | av=>trivial
 | aP=>rfl
 | lv p=>exact⟨p,rfl,p.Jl⟩
 | cz vs=>rfl

section
variable {c:Ctx} {s:List A} {m:List aq} {a:Act} {w w':World} {ids ab:dp} {P:Program} {im bl:Nat->Prop} {tt:TT} {G:aG}
variable {next:Act->World->Prop} {Q:Exit->Act->World->Prop} {o:Oper}

theorem Rel.lR(hi:∀b,im b->bl b)(hw:∀b,im b->w'.heap[b]?=w.heap[b]?)(hd:∀(b:Nat) p,ids[b]?=some p->p≠.dead->∃q,ab[b]?=some q/\iq p q)
  {x:A} {v:Value} (h:Rel ids im w x v):Rel ab bl w' x v:=by
 induction h with
 | aH h=>exact .aH (h.mono hi hw)
 | ref b off p h =>
  obtain⟨q,h1,p',rfl,h2⟩:=hd _ _ h (by simp);rw[<-h2.1];exact .ref b off p' h1
 | oref b i off p h =>
  obtain⟨q,h1,p',rfl,h2⟩:=hd _ _ h (by simp);rw[<-h2.1,<-h2.2.2.2.1];exact .oref b i off p' h1
 | jN b x n cap h =>
  obtain⟨q,h1,h2⟩:=hd _ _ h (by simp);have h2:q=.av:=h2;subst h2;exact .jN b x n cap h1
 | jM b off x y h =>
  obtain⟨q,h1,h2⟩:=hd _ _ h (by simp);have h2:q=.av:=h2;subst h2;exact .jM b off x y h1
 | fY b i off x y h =>
  obtain⟨q,h1,h2⟩:=hd _ _ h (by simp);have h2:q=.av:=h2;subst h2;exact .fY b i off x y h1
 | fD b x h =>
  obtain⟨q,h1,h2⟩:=hd _ _ h (by simp);have h2:q=.av:=h2;subst h2;exact .fD b x h1
 | fH b h =>
  obtain⟨q,h1,h2⟩:=hd _ _ h (by simp);have h2:q=.aP:=h2;subst h2;exact .fH b h1
 | own b cap p h hn hm =>
  obtain⟨q,h1,p',rfl,h2⟩:=hd _ _ h (by simp);rw[<-h2.1,<-h2.2.2.1];exact .own b cap p' h1 (by rw[h2.2.2.1];exact hn) (by rw[h2.2.1,h2.2.2.2.1];exact hm)
 | omap b p h =>
  obtain⟨q,h1,p',rfl,h2⟩:=hd _ _ h (by simp);rw[<-h2.1];exact .omap b p' h1
 | qc b k p n h hn =>
  obtain⟨q,h1,p',rfl,h2⟩:=hd _ _ h (by simp);exact .qc b k p' n h1 (h2.2.2.2.2 _ _ hn)
 | ph b k n h =>
  obtain⟨q,h1,h2⟩:=hd _ _ h (by simp);have h2:q=.av:=h2;subst h2;exact .ph b k n h1
 | mF b k cap x p h hx =>
  obtain⟨q,h1,p',rfl,h2⟩:=hd _ _ h (by simp);rw[<-h2.1,<-h2.2.2.1];exact .mF b k cap x p' h1 (by rw[h2.2.2.1,h2.2.2.2.1];exact hx)
 | pj b k h =>
  obtain⟨q,h1,h2⟩:=hd _ _ h (by simp);have h2:q=.aP:=h2;subst h2;exact .pj b k h1
 | na b k x n cap h =>
  obtain⟨q,h1,h2⟩:=hd _ _ h (by simp);have h2:q=.av:=h2;subst h2;exact .na b k x n cap h1
 | agg cs vs hl ho hr ih=>exact .agg cs vs hl ho ih
 | tup cs vs hl hr ih=>exact .tup cs vs hl ih
 | fn f cs vs hl hr ih=>exact .fn f cs vs hl ih

theorem lS{b:Nat}(hi:∀b,im b->bl b)(hw:∀b,im b->w'.heap[b]?=w.heap[b]?)(hd:∀(b':Nat) p,b'≠b->ids[b']?=some p->p≠.dead->∃q,ab[b']?=some q/\iq p q)
  (d:Nat) (x:A) (v:Value) (h:Rel ids im w x v):Rel ab bl w' (tW b d x) v:=by
 have h1:Rel (ids.set b .dead) im w (tW b d x) v:=jg (fun _ h=>h) (fun _ _=>rfl) (fun b' p hne h=>by rw[List.getElem?_set_ne (fun e=>hne e.symm)];exact h) d x v h;refine h1.lR hi hw ?_;intro b' p hp oK;by_cases hb:b'=b
 ·subst hb;rw[List.getElem?_set] at hp;split at hp
  ·split at hp
   ·cases hp;exact absurd rfl oK
   ·cases hp
  ·rename_i hne;exact absurd rfl hne
 ·rw[List.getElem?_set_ne (fun e=>hb e.symm)] at hp;exact hd b' p hb hp oK

theorem aV.lR(hi:∀b,im b->bl b)(hw:∀b,im b->w'.heap[b]?=w.heap[b]?)(hd:∀(b:Nat) p,ids[b]?=some p->p≠.dead->∃q,ab[b]?=some q/\iq p q)
  {x:aq} {p:dH} (hp:∀q,p=.lv q->∀k,q.has k->w'.heap[k]?=w.heap[k]?) (h:aV ids im w x p):aV ab bl w' x p:=by
 cases x with
 | box ty cs =>
  cases p with
  | dead=>exact h
  | av=>exact h
  | aP=>exact h
  | cz vs=>exact h
  | lv q =>
   obtain⟨vs,h1,h2,h3,h4⟩:=h;exact⟨vs,by rw[hp _ rfl _ (.inl rfl)];exact h1,h2,h3,fun j h h'=>⟨(h4 j h h').1.lR hi hw hd,(h4 j h h').2⟩⟩
 | dead=>exact h
 | gone=>exact h
 | row ty sz n row=>have h:=aV.mono (ids:=ids) (ab:=ids) hi hw (fun _ _ h _=>h) hp h;cases p<;>exact h
 | nest ty aM sz n ho le row=>have h:=aV.mono (ids:=ids) (ab:=ids) hi hw (fun _ _ h _=>h) hp h;cases p<;>exact h
 | ez g n k v=>have h:=aV.mono (ids:=ids) (ab:=ids) hi hw (fun _ _ h _=>h) hp h;cases p<;>exact h
 | n0 g n k v=>have h:=aV.mono (ids:=ids) (ab:=ids) hi hw (fun _ _ h _=>h) hp h;cases p<;>exact h
 | E2 g n k v se=>have h:=aV.mono (ids:=ids) (ab:=ids) hi hw (fun _ _ h _=>h) hp h;cases p<;>exact h
 | bC ty sz n Φ=>have h:=aV.mono (ids:=ids) (ab:=ids) hi hw (fun _ _ h _=>h) hp h;cases p<;>exact h
 | cF ty g sh n dI cs jb has val =>
  cases p with
  | dead=>exact h
  | av=>exact h
  | aP=>exact h
  | cz vs=>exact h
  | lv q=>exact pk (hp _ rfl) (fun _ _ h=>h.mono hi hw) (fun _ _ h=>h.lR hi hw hd) h
 | ghost cs =>
  cases p with
  | dead=>exact h
  | av=>exact h
  | aP=>exact h
  | lv q=>exact h
  | cz vs=>exact⟨h.1,fun j h1 h2=>(h.2 j h1 h2).lR hi hw hd⟩
theorem aV.Np{b:Nat}(hi:∀b,im b->bl b)(hw:∀b,im b->w'.heap[b]?=w.heap[b]?)(hd:∀(b':Nat) p,b'≠b->ids[b']?=some p->p≠.dead->∃q,ab[b']?=some q/\iq p q)
  (d:Nat) {x:aq} {p:dH} (hp:∀q,p=.lv q->∀k,q.has k->w'.heap[k]?=w.heap[k]?) (h:aV ids im w x p):aV ab bl w' (zl b d x) p:=by
 cases x with
 | box ty cs =>
  cases p with
  | dead=>exact h
  | av=>exact h
  | aP=>exact h
  | cz vs=>exact h
  | lv q =>
   obtain⟨vs,h1,h2,h3,h4⟩:=h;refine⟨vs,by rw[hp _ rfl _ (.inl rfl)];exact h1,h2,by simpa using h3,fun j h h'=>?_⟩;rw[List.getElem_map];exact⟨lS hi hw hd d _ _ (h4 j (by simpa using h) h').1,(h4 j (by simpa using h) h').2⟩
 | dead=>exact h
 | gone=>exact h
 | row ty sz n row=>have h:=aV.mono (ids:=ids) (ab:=ids) hi hw (fun _ _ h _=>h) hp h;cases p<;>exact h
 | nest ty aM sz n ho le row=>have h:=aV.mono (ids:=ids) (ab:=ids) hi hw (fun _ _ h _=>h) hp h;cases p<;>exact h
 | ez g n k v=>have h:=aV.mono (ids:=ids) (ab:=ids) hi hw (fun _ _ h _=>h) hp h;cases p<;>exact h
 | n0 g n k v=>have h:=aV.mono (ids:=ids) (ab:=ids) hi hw (fun _ _ h _=>h) hp h;cases p<;>exact h
 | E2 g n k v se=>have h:=aV.mono (ids:=ids) (ab:=ids) hi hw (fun _ _ h _=>h) hp h;cases p<;>exact h
 | bC ty sz n Φ=>have h:=aV.mono (ids:=ids) (ab:=ids) hi hw (fun _ _ h _=>h) hp h;cases p<;>exact h
 | cF ty g sh n dI cs jb has val =>
  cases p with
  | dead=>exact h
  | av=>exact h
  | aP=>exact h
  | cz vs=>exact h
  | lv q=>exact lL (tW b d) (hp _ rfl) (fun _ _ h=>h.mono hi hw) (fun x v h=>lS hi hw hd d x v h) h
 | ghost cs =>
  cases p with
  | dead=>exact h
  | av=>exact h
  | aP=>exact h
  | lv q=>exact h
  | cz vs =>
   refine⟨by simpa using h.1,fun j h1 h2=>?_⟩;rw[List.getElem_map];exact lS hi hw hd d _ _ (h.2 j (by simpa using h1) h2)

/-- What is read through values stays as it is. -/
theorem aF.cI(hs:aF c s m a w ids)(bM:w.heap.size<=w'.heap.size)
  (eU:∀k,k<w.heap.size->(∀(b:Nat) (p:Id),ids[b]?=some (.lv p)->¬p.has k)->w'.heap[k]?=w.heap[k]?)
  (aU:∀p',dH.lv p'∈ab->∀x,p'.has x->x<w'.heap.size/\(w.heap.size<=x\/∃(b:Nat) (p:Id),ids[b]?=some (.lv p)/\p.has x)) :
  (∀k,au c ids w k->au c ab w' k)/\(∀k,au c ids w k->w'.heap[k]?=w.heap[k]?):=by
 constructor
 ·intro k h;rcases h with h|⟨h1,h2,h3⟩
  ·exact .inl h
  ·refine .inr ⟨h1,Nat.lt_of_lt_of_le h2 bM,fun p hp hx=>?_⟩;rcases (aU p hp k hx).2 with h|⟨b,p0,h4,h5⟩
   ·omega
   ·exact h3 p0 (List.mem_of_getElem? h4) h5
 ·intro k h;refine eU k (cw hs h) (fun b p hp e=>?_);rcases h with h|⟨_,_,h3⟩
  ·exact hs.oM h (hs.ar p (List.mem_of_getElem? hp) k e).1
  ·exact h3 p (List.mem_of_getElem? hp) e
/-- A state that follows on another one. -/
theorem aF.ln(hs:aF c s m a w ids){s':List A}{m':List aq}(Nl:w'.os=w.os)(Sv:w'.tape=w.tape)(Sw:w'.output=w.output)(bM:w.heap.size<=w'.heap.size)
  (eU:∀k,k<w.heap.size->(∀(b:Nat) (p:Id),ids[b]?=some (.lv p)->¬p.has k)->w'.heap[k]?=w.heap[k]?)
  (aU:∀p',dH.lv p'∈ab->∀x,p'.has x->x<w'.heap.size/\(w.heap.size<=x\/∃(b:Nat) (p:Id),ids[b]?=some (.lv p)/\p.has x))
  (U8:∀vs,dH.cz vs∈ab->dH.cz vs∈ids)
  (U9:∀(b b':Nat) p q x,ab[b]?=some (.lv p)->ab[b']?=some (.lv q)->p.has x->q.has x->b=b')
  (Aj:s'.length=s.length) (vB:ab.length=m'.length)
  (tq:∀i (h:i<s'.length) (h':i<a.tmps.size),Rel ab (au c ab w') w' s'[i] a.tmps[i])
  (SB:∀b (h:b<m'.length) (h':b<ab.length),aV ab (au c ab w') w' m'[b] ab[b]) (xG:en w.drawn w'.drawn:=by exact en.refl _):aF c s' m' a w' ab where
 defers:=hs.defers
 len:=by rw[hs.len,Aj]
 bE:=tq
 aK:=vB
 bu:=SB
 ah:=U9
 ar:=by
  intro p hp x hx;refine⟨?_,(aU p hp x hx).1⟩;rcases (aU p hp x hx).2 with h|⟨b,p0,h4,h5⟩
  ·exact .inl (Nat.le_trans hs.frame.size h)
  ·exact(hs.ar p0 (List.mem_of_getElem? h4) x h5).1
 frame:=by
  refine hs.frame.go Nl Sv Sw bM (fun k hk hm=>?_) xG;refine eU k (Nat.lt_of_lt_of_le hk hs.frame.size) (fun b p hp e=>?_);rcases (hs.ar p (List.mem_of_getElem? hp) k e).1 with h|h
  ·omega
  ·exact hm h
 dL:=hs.dL
 cz:=fun vs h=>hs.cz vs (U8 vs h)
end
def gz{α:Type}(f:Nat->α)(i:Nat)(x:α):Nat->α:=fun j=>if j=i then x else f j
/-- The inner row is taken out. -/
def Nq(tt:TT)(t:TypeId)(b i:Nat)(ty aM:TypeId)(sz n:Nat)(hole:Option Nat)(len:Nat->Nat)(row:Nat->Nat->List A)(m:List aq)(K:KT):Prop :=
 match tt.lookup t with
 | none=>False
 | some ti=>match ti.kind,Nat.beq ti.aM aM,Nat.beq ti.br sz,hole with
  | 3,true,true,none=>i<n/\pn m b (.nest ty aM sz n (some i) len row) fun m'=>kZ m' (.row aM sz (len i) (row i)) fun k Mb=>K (.own k) Mb
  | _,_,_,_=>False
/-- It is put back. -/
def Nr(b i b':Nat)(ty aM:TypeId)(sz n:Nat)(hole:Option Nat)(len:Nat->Nat)(row:Nat->Nat->List A)(s:List A)(m:List aq)(K:List A->A->List aq->Prop):Prop :=
 match hole,m.getD b' .dead,Nat.beq b b' with
 | some j,.row um qQ n' dr,false=>match Nat.beq um aM,Nat.beq qQ sz with
  | true,true=>(i=j/\i<n)/\fd.pv 4 (s.map (tW b' 4)) fun s'=>pz (((m.map (zl b' 4)).set b (.nest ty aM sz n none (gz len j n') (gz row j dr))).set b' .dead) fun m'=>K s' .ae m'
  | _,_=>False
 | _,_,_=>False
def lf(P:Program)(G:aG)(tt:TT)(o:Oper)(s:List A)(m:List aq)(K:List A->A->List aq->Prop):Prop :=
 match o.op with
 | .indexAddr t x i=>match ev s x with
  | .own b=>match m.getD b .dead with
   | .nest _ _ _ n _ _ _=>match tt.lookup t,ev s i with
    | some ti,.int _ ix=>match ti.kind,Nat.beq ti.br 1 with
     | 3,true=>(0<=ix/\ix<(n:Int))/\K s (.oref b ix.toNat 0) m
     | _,_=>False
    | _,_=>False
   | _=>oh P G tt o s m K
  | _=>oh P G tt o s m K
 | .load t x=>match ev s x with
  | .oref b i off=>match m.getD b .dead with
   | .nest ty aM sz n hole len row=>match off with
    | 0=>Nq tt t b i ty aM sz n hole len row m (K s)
    | _=>False
   | _=>oh P G tt o s m K
  | _=>oh P G tt o s m K
 | .store t x y=>match ev s x with
  | .oref b i off=>match m.getD b .dead with
   | .nest ty aM sz n hole len row=>match off,ev s y,tt.lookup t with
    | 0,.own b',some ti=>match Nat.beq ti.size 1 with
     | true=>Nr b i b' ty aM sz n hole len row s m K
     | false=>False
    | _,_,_=>False
   | _=>oh P G tt o s m K
  | _=>oh P G tt o s m K
 | _=>oh P G tt o s m K

section
variable {c:Ctx} {s:List A} {m:List aq} {a:Act} {w w':World} {ids ab:dp} {P:Program} {im bl:Nat->Prop} {tt:TT} {G:aG}
variable {next:Act->World->Prop} {Q:Exit->Act->World->Prop} {o:Oper}

theorem getD_some{b:Nat}{x:aq}(hx:x≠.dead)(h:m.getD b .dead=x):∃hb:b<m.length,m[b]=x:=by
 rcases Nat.lt_or_ge b m.length with h'|h'
 ·exact⟨h',by rw[List.getD_eq_getElem?_getD,List.getElem?_eq_getElem h'] at h;exact h⟩
 ·rw[List.getD_eq_getElem?_getD,List.getElem?_eq_none h'] at h;exact absurd h.symm hx
theorem om(hs:aF c s m a w ids){b:Nat}{ty aM:TypeId}{sz n:Nat}{hole:Option Nat}{len:Nat->Nat}{row:Nat->Nat->List A}(hb:m.getD b .dead=.nest ty aM sz n hole len row)(h0:0<n):
  ∃p,ids[b]?=some (.lv p)/\aV ids (au c ids w) w (.nest ty aM sz n hole len row) (.lv p)/\b<m.length/\b<ids.length:=by
 obtain⟨h1,h2⟩:=getD_some (by simp) hb;have h3:b<ids.length:=by rw[hs.aK];exact h1
 have hB:=hs.bu b h1 h3;rw[h2] at hB;cases hp:ids[b] with
 | dead=>rw[hp] at hB;exact hB.elim
 | av=>rw[hp] at hB;exact hB.elim
 | aP=>rw[hp] at hB;have hB:n=0:=hB;omega
 | cz vs=>rw[hp] at hB;exact hB.elim
 | lv p=>rw[hp] at hB;exact⟨p,by rw[List.getElem?_eq_getElem h3,hp],hB,h1,h3⟩

/-- A nest from which an inner row is taken. -/
theorem aF.take(hs:aF c s m a w ids){b i:Nat}{ty aM:TypeId}{sz n:Nat}{len:Nat->Nat}{row:Nat->Nat->List A}(hb:m.getD b .dead=.nest ty aM sz n none len row)(hi:i<n):
  ∃p vs ab v,ids[b]?=some (.lv p)/\w.heap[p.ao]?=some (.cells vs ty (0,0))/\vs[i]?=some v/\p.sz=1 /\
   aF c s (m.set b (.nest ty aM sz n (some i) len row)++[.row aM sz (len i) (row i)]) a w ab/\Rel ab (au c ab w) w (.own m.length) v:=by
 obtain⟨p,bQ,hB,kH,eD⟩:=om hs hb (by omega);obtain⟨g1,g2,g3,vs,h1,h2,h3,kb,h4⟩:=hB;have wM:i<vs.size:=by omega
 obtain⟨k1,k2,k3⟩:=h4 i hi (by simp) wM
 -- the new names
 let p':Id:=⟨p.ao,p.k,p.n,p.sz,fun x=>p.y8 x/\kb i≠some x,p.sY⟩
 have lU:∀x,p'.has x->p.has x:=by
  rintro x (h|h)
  ·exact .inl h
  ·exact .inr h.1
 have hq:∃q:dH,(∀q',q=.lv q'->∀x,q'.has x->kb i=some x)/\(∀im w',(∀x,kb i=some x->w'.heap[x]?=w.heap[x]?)->(∀u v,aw (au c ids w) w u v->aw im w' u v)->∀ab,aV ab im w' (.row aM sz (len i) (row i)) q) /\
   (∀ab im w' k,ab[k]?=some q->Rel ab im w' (.own k) vs[i]):=by
  rcases k1 with⟨e1,e2,e3⟩|⟨q,cap,us,e1,e2,e3,e4,e5,e6,e7,e8⟩
  ·exact⟨.aP,(fun q' h=>by cases h),(fun _ _ _ _ _=>e2),(fun ab im w' k h=>by rw[e1];exact .fH k h)⟩
  ·refine⟨.lv (mkId q us.size (len i) sz),(fun q' h x hx=>by cases h;rw[cg hx];exact e2),?_,?_⟩
   ·intro im w' hk hm ab;refine⟨rfl,rfl,us,by show w'.heap[q]?=_;rw[hk q e2];exact e3,rfl,?_,e7,fun i' j cr h h'=>⟨hm _ _ (e8 i' j cr h h').1,(e8 i' j cr h h').2⟩⟩;show len i*sz<=us.size;rw[e4];exact Nat.mul_le_mul_right _ e5
   ·intro ab im w' k h;rw[e1];exact .own k cap (mkId q us.size (len i) sz) h ⟨e5,e6⟩ e4.symm
 obtain⟨q,At,CG,U'⟩:=hq
 let ab:=ids.set b (.lv p')++[q]
 have L0:ab.length=ids.length+1:=by simp[ab]
 have bD:∀k,k<ids.length->k≠b->ab[k]?=ids[k]?:=by
  intro k hk hne;simp only[ab];rw[List.getElem?_append_left (by simpa using hk),List.getElem?_set_ne (fun e=>hne e.symm)]
 have dG:ab[b]?=some (.lv p'):=by
  simp only[ab];rw[List.getElem?_append_left (by simpa using eD),List.getElem?_set_self eD]
 have jh:ab[ids.length]?=some q:=by
  simp only[ab];rw[List.getElem?_append_right (by simp)];simp
 have aY:∀(k:Nat) (r:Id),ab[k]?=some (.lv r)->(k=b/\r=p')\/(k=ids.length/\q=.lv r)\/(k≠b/\k<ids.length/\ids[k]?=some (.lv r)):=by
  intro k r h;by_cases pB:k=b
  ·subst pB;rw[dG] at h;cases h;exact .inl ⟨rfl,rfl⟩
  ·rcases Nat.lt_trichotomy k ids.length with hk|hk|hk
   ·rw[bD k hk pB] at h;exact .inr (.inr ⟨pB,hk,h⟩)
   ·subst hk;rw[jh] at h;exact .inr (.inl ⟨rfl,Option.some.inj h⟩)
   ·rw[List.getElem?_eq_none (by omega)] at h;cases h
 have aU:∀r,dH.lv r∈ab->∀x,r.has x->x<w.heap.size/\(w.heap.size<=x\/∃(b:Nat) (p:Id),ids[b]?=some (.lv p)/\p.has x):=by
  intro r hr x hx;obtain⟨k,hk⟩:=List.getElem?_of_mem hr;rcases aY k r hk with⟨_,rfl⟩|⟨_,e⟩|⟨_,_,e⟩
  ·exact⟨(hs.ar p (List.mem_of_getElem? bQ) x (lU x hx)).2,.inr ⟨b,p,bQ,lU x hx⟩⟩
  ·have E6:p.has x:=.inr (k2 x (At r e x hx));exact⟨(hs.ar p (List.mem_of_getElem? bQ) x E6).2,.inr ⟨b,p,bQ,E6⟩⟩
  ·exact⟨(hs.ar r (List.mem_of_getElem? e) x hx).2,.inr ⟨k,r,e,hx⟩⟩
 obtain⟨dt,dI⟩:=hs.cI (w':=w) (ab:=ab) (Nat.le_refl _) (fun _ _ _=>rfl) aU
 have hd:∀(b':Nat) r,ids[b']?=some r->r≠.dead->∃q,ab[b']?=some q/\iq r q:=by
  intro b' r hr _
  have aI:b'<ids.length:=by
   rcases Nat.lt_or_ge b' ids.length with h'|h'
   ·exact h'
   ·rw[List.getElem?_eq_none h'] at hr;cases hr
  by_cases rf:b'=b
  ·subst rf;rw[bQ] at hr;cases hr;exact⟨_,dG,p',rfl,rfl,rfl,rfl,rfl,fun _ _ h=>h⟩
  ·exact⟨r,by rw[bD b' aI rf];exact hr,eE r⟩
 have la:∀u v,aw (au c ids w) w u v->aw (au c ab w) w u v:=fun u v h=>h.mono dt dI;refine⟨p,vs,ab,vs[i],bQ,h1,Array.getElem?_eq_getElem wM,g1,?_,U' _ _ _ _ (by rw[<-hs.aK];exact jh)⟩
 have Va:∀vs,q≠.cz vs:=fun vs e=>by
  have:=CG (au c ids w) w (fun _ _=>rfl) (fun _ _ h=>h) [];rw[e] at this;exact this
 refine hs.ln rfl rfl rfl (Nat.le_refl _) (fun _ _ _=>rfl) aU (fun vs h=>by
  simp only[ab] at h;rcases List.mem_append.1 h with h|h
  ·rcases List.mem_or_eq_of_mem_set h with h|h
   ·exact h
   ·cases h
  ·simp at h;exact absurd h.symm (Va vs)) ?_ rfl (by simp[ab,hs.aK]) (fun i h h'=>(hs.bE i h h').lR dt dI hd) ?_
 ·intro k k' r r' x e1 e2 x1 x2;have Yg:∀y,q=.lv r->r.has y->p.y8 y:=fun y e hy=>k2 y (At r e y hy);rcases aY k r e1 with⟨rfl,rfl⟩|⟨rfl,e⟩|⟨ne,_,e⟩<;>rcases aY k' r' e2 with⟨rfl,rfl⟩|⟨rfl,e'⟩|⟨ne',_,e'⟩
  ·rfl
  ·exfalso;have hx:=At r' e' x x2;rcases x1 with h|h
   ·exact g3 (by rw[<-h];exact k2 x hx)
   ·exact h.2 hx
  ·exact absurd (hs.ah _ _ p r' x bQ e' (lU x x1) x2).symm ne'
  ·exfalso;have hx:=At r e x x1;rcases x2 with h|h
   ·exact g3 (by rw[<-h];exact k2 x hx)
   ·exact h.2 hx
  ·rfl
  ·exact absurd (hs.ah _ _ p r' x bQ e' (.inr (k2 x (At r e x x1))) x2).symm ne'
  ·exact absurd (hs.ah _ _ r p x e bQ x1 (lU x x2)) ne
  ·exact absurd (hs.ah _ _ r p x e bQ x1 (.inr (k2 x (At r' e' x x2)))) ne
  ·exact hs.ah k k' r r' x e e' x1 x2
 ·intro k hk gn;simp only[List.length_append,List.length_set,List.length_singleton] at hk;have gp:ab[k]?=some ab[k]:=List.getElem?_eq_getElem gn;rcases Nat.lt_or_ge k m.length with oJ|oJ
  ·rw[List.getElem_append_left (by simpa using oJ),List.getElem_set];split
   ·rename_i he;subst he;rw[dG] at gp;rw[<-Option.some.inj gp];refine⟨g1,g2,(fun h=>g3 h.1),vs,h1,h2,h3,kb,?_⟩;intro j hj Jn Mc;obtain⟨j1,j2,j3⟩:=h4 j hj (by simp) Mc;have Au:j≠i:=fun e=>Jn (by rw[e]);refine⟨j1.mono dt dI (fun _ _=>rfl),fun x hx=>⟨j2 x hx,fun e=>?_⟩,fun j' bW _ e1 e2=>j3 j' bW (by simp) e1 e2⟩;exact Au (k3 j hj (by simp) (by rw[hx,e]) (by rw[e];simp))
   ·rename_i he;have oo:k<ids.length:=by rw[hs.aK];exact oJ
    rw[bD k oo (fun e=>he e.symm),List.getElem?_eq_getElem oo] at gp;rw[<-Option.some.inj gp];exact(hs.bu k oJ oo).lR dt dI hd (fun _ _ _ _=>rfl)
  ·have Kg:ab[k]?=some q:=by rw[show k=ids.length by rw[hs.aK];omega];exact jh
   rw[Kg] at gp;rw[<-Option.some.inj gp,List.getElem_append_right (by simpa using oJ)];simp only[List.length_set,show k-m.length=0 by omega,List.getElem_cons_zero];exact CG _ _ (fun _ _=>rfl) la _

/-- An inner row is put back. -/
theorem aF.Md(hs:aF c s m a w ids){b b' i:Nat}{ty aM:TypeId}{sz n n':Nat}{len:Nat->Nat}{row:Nat->Nat->List A}{dr:Nat->List A}(hb:m.getD b .dead=.nest ty aM sz n (some i) len row)
  (gj:m.getD b' .dead=.row aM sz n' dr) (hne:b≠b') (hi:i<n) {v:Value} (hv:Rel ids (au c ids w) w (.own b') v) :
  ∃p vs ab,ids[b]?=some (.lv p)/\w.heap[p.ao]?=some (.cells vs ty (0,0))/\i<vs.size/\p.sz=1 /\
   aF c (s.map (tW b' 4)) (((m.map (zl b' 4)).set b (.nest ty aM sz n none (gz len i n') (gz row i dr))).set b' .dead) a (w.setRow p.ao (vs.setIfInBounds i v)) ab:=by
 obtain⟨p,bQ,hB,kH,eD⟩:=om hs hb (by omega);obtain⟨g1,g2,g3,vs,h1,h2,h3,kb,h4⟩:=hB;have wM:i<vs.size:=by omega
 obtain⟨zp,Jo⟩:=getD_some (by simp) gj;have nj:b'<ids.length:=by rw[hs.aK];exact zp
 let w':=w.setRow p.ao (vs.setIfInBounds i v)
 have bM:w'.heap.size=w.heap.size:=by simp[w',World.setRow]
 -- the inner DE name
 have hx:∃x:Option Nat,(∀y,x=some y->∃q,ids[b']?=some (.lv q)/\q.ao=y) /\
   (∀im w',(∀y,x=some y->w'.heap[y]?=w.heap[y]?)->(∀u v,aw (au c ids w) w u v->aw im w' u v)->mO im w' aM sz n' dr v x):=by
  rcases mA hs hv gj with⟨e1,e2,e3⟩|⟨q,cap,e1,e2,e3,e4,e5,e6⟩
  ·exact⟨none,(fun y h=>by cases h),fun _ _ _ _=>.inl ⟨e2,e1,rfl⟩⟩
  ·have FT:=hs.bu b' zp nj;rw[List.getElem?_eq_getElem nj] at e1;rw[Jo,Option.some.inj e1] at FT;obtain⟨q1,q2,us,q3,q4,q5,q6,q7⟩:=FT;refine⟨some q.ao,(fun y h=>by cases h;exact⟨q,by rw[List.getElem?_eq_getElem nj];exact e1,rfl⟩),fun im w' hk hm=>.inr ⟨q.ao,cap,us,e6,rfl,by rw[hk _ rfl];exact q3,by rw[q4,e3],e2.1,e2.2,q6,fun i' j cr h h'=>⟨hm _ _ (q7 i' j cr h h').1,(q7 i' j cr h h').2⟩⟩⟩
 obtain⟨x,u7,SC⟩:=hx
 let p':Id:=⟨p.ao,p.k,p.n,p.sz,fun y=>p.y8 y\/x=some y,p.sY⟩
 have lU:∀y,p'.has y->p.has y\/x=some y:=by
  rintro y (h|h|h)
  ·exact .inl (.inl h)
  ·exact .inl (.inr h)
  ·exact .inr h
 let ab:=(ids.set b (.lv p')).set b' .dead
 have L0:ab.length=ids.length:=by simp[ab]
 have bD:∀k,k≠b->k≠b'->ab[k]?=ids[k]?:=by
  intro k h1 h2;simp only[ab];rw[List.getElem?_set_ne (fun e=>h2 e.symm),List.getElem?_set_ne (fun e=>h1 e.symm)]
 have dG:ab[b]?=some (.lv p'):=by
  simp only[ab];rw[List.getElem?_set_ne (fun e=>hne e.symm),List.getElem?_set_self eD]
 have ig:ab[b']?=some .dead:=by
  simp only[ab];rw[List.getElem?_set_self (by simpa using nj)]
 have aY:∀(k:Nat) (r:Id),ab[k]?=some (.lv r)->(k=b/\r=p')\/(k≠b/\k≠b'/\ids[k]?=some (.lv r)):=by
  intro k r h;by_cases pB:k=b
  ·subst pB;rw[dG] at h;cases h;exact .inl ⟨rfl,rfl⟩
  ·by_cases tr:k=b'
   ·subst tr;rw[ig] at h;cases h
   ·rw[bD k pB tr] at h;exact .inr ⟨pB,tr,h⟩
 have aU:∀r,dH.lv r∈ab->∀y,r.has y->y<w'.heap.size/\(w.heap.size<=y\/∃(b:Nat) (p:Id),ids[b]?=some (.lv p)/\p.has y):=by
  intro r hr y hy;rw[bM];obtain⟨k,hk⟩:=List.getElem?_of_mem hr;rcases aY k r hk with⟨_,rfl⟩|⟨_,_,e⟩
  ·rcases lU y hy with h|h
   ·exact⟨(hs.ar p (List.mem_of_getElem? bQ) y h).2,.inr ⟨b,p,bQ,h⟩⟩
   ·obtain⟨q,q1,q2⟩:=u7 y h;have:q.has y:=.inl q2.symm;exact⟨(hs.ar q (List.mem_of_getElem? q1) y this).2,.inr ⟨b',q,q1,this⟩⟩
  ·exact⟨(hs.ar r (List.mem_of_getElem? e) y hy).2,.inr ⟨k,r,e,hy⟩⟩
 have eU:∀k,k<w.heap.size->(∀(b:Nat) (p:Id),ids[b]?=some (.lv p)->¬p.has k)->w'.heap[k]?=w.heap[k]?:=by
  intro k _ hk;exact setRow_other w p.ao k _ (fun e=>hk b p bQ (.inl e))
 obtain⟨dt,dI⟩:=hs.cI (w':=w') (ab:=ab) (by rw[bM];exact Nat.le_refl _) eU aU
 have hd:∀(k:Nat) r,k≠b'->ids[k]?=some r->r≠.dead->∃q,ab[k]?=some q/\iq r q:=by
  intro k r hk hr _;by_cases rf:k=b
  ·subst rf;rw[bQ] at hr;cases hr;exact⟨_,dG,p',rfl,rfl,rfl,rfl,rfl,fun _ _ h=>h⟩
  ·exact⟨r,by rw[bD k rf hk];exact hr,eE r⟩
 have la:∀u v,aw (au c ids w) w u v->aw (au c ab w') w' u v:=fun u v h=>h.mono dt dI
 have SD:∀(k:Nat) (r:Id) y,ids[k]?=some (.lv r)->k≠b->r.has y->w'.heap[y]?=w.heap[y]?:=by
  intro k r y hr hk hy;refine setRow_other w p.ao y _ (fun e=>hk ?_);exact hs.ah k b r p y hr bQ hy (.inl e)
 refine⟨p,vs,ab,bQ,h1,wM,g1,?_⟩
 refine hs.ln rfl rfl rfl (by show w.heap.size<=w'.heap.size;rw[bM];exact Nat.le_refl _) eU aU (fun vs h=>by
  simp only[ab] at h;rcases List.mem_or_eq_of_mem_set h with h|h
  ·rcases List.mem_or_eq_of_mem_set h with h|h
   ·exact h
   ·cases h
  ·cases h) ?_ (by simp) (by simp[ab,hs.aK]) ?_ ?_
 ·intro k k' r r' y e1 e2 x1 x2;rcases aY k r e1 with⟨rfl,rfl⟩|⟨ne,Jp,e⟩<;>rcases aY k' r' e2 with⟨rfl,rfl⟩|⟨ne',Jq,e'⟩
  ·rfl
  ·rcases lU y x1 with h|h
   ·exact absurd (hs.ah _ _ p r' y bQ e' h x2).symm ne'
   ·obtain⟨q,q1,q2⟩:=u7 y h;exact absurd (hs.ah _ _ q r' y q1 e' (.inl q2.symm) x2).symm Jq
  ·rcases lU y x2 with h|h
   ·exact absurd (hs.ah _ _ r p y e bQ x1 h) ne
   ·obtain⟨q,q1,q2⟩:=u7 y h;exact absurd (hs.ah _ _ r q y e q1 x1 (.inl q2.symm)) Jp
  ·exact hs.ah k k' r r' y e e' x1 x2
 ·intro k h h';rw[List.getElem_map];exact lS dt dI hd 4 _ _ (hs.bE k (by simpa using h) h')
 ·intro k hk gn;have gp:ab[k]?=some ab[k]:=List.getElem?_eq_getElem gn;simp only[List.length_set,List.length_map] at hk;rw[List.getElem_set];split
  ·rename_i he;subst he;rw[ig] at gp;rw[<-Option.some.inj gp];exact rfl
  ·rename_i he;rw[List.getElem_set];split
   ·rename_i gu;subst gu;rw[dG] at gp;rw[<-Option.some.inj gp]
    have HT:∀j (h:j<(vs.setIfInBounds i v).size) (h':j<vs.size),(vs.setIfInBounds i v)[j]=if i=j then v else vs[j]:=by
     intro j h h';rw[Array.getElem_setIfInBounds]
    have PQ:∀y,x=some y->w'.heap[y]?=w.heap[y]?:=by
     intro y hy;obtain⟨q,q1,q2⟩:=u7 y hy;exact SD b' q y q1 (fun e=>hne e.symm) (.inl q2.symm)
    have Vb:∀y,p.y8 y->w'.heap[y]?=w.heap[y]?:=by
     intro y hy;exact setRow_other w p.ao y _ (fun e=>g3 (by rw[<-e];exact hy))
    refine⟨g1,g2,?_,vs.setIfInBounds i v,setRow_heap w p.ao vs _ ty _ h1,by simp[h2];rfl,h3,gz kb i x,?_⟩
    ·rintro(h|h)
     ·exact g3 h
     ·obtain⟨q,q1,q2⟩:=u7 _ h;exact hne (hs.ah b b' p q p.ao bQ q1 (.inl rfl) (.inl q2.symm))
    ·intro j hj _ Mc;have Jr:j<vs.size:=by simpa using Mc
     rw[HT j Mc Jr];by_cases Au:j=i
     ·subst Au;rw[if_pos rfl];simp only[gz,if_pos];refine⟨SC _ _ PQ la,(fun y hy=>.inr hy),?_⟩;intro j' bW _ e1 e2;by_cases nQ:j'=j
      ·exact nQ
      ·exfalso;rw[if_neg nQ] at e1;cases zq:x with
       | none=>exact e2 zq
       | some y =>
        have PR:j'<vs.size:=by omega
        obtain⟨_,k2,_⟩:=h4 j' bW (by simp;exact fun e=>nQ e.symm) PR;obtain⟨q,q1,q2⟩:=u7 y zq;exact hne (hs.ah b b' p q y bQ q1 (.inr (k2 y (by rw[e1,zq]))) (.inl q2.symm))
     ·rw[if_neg (fun e=>Au e.symm)];simp only[gz,if_neg Au];obtain⟨k1,k2,k3⟩:=h4 j hj (by simp;exact fun e=>Au e.symm) Jr;refine⟨k1.mono dt dI (fun y hy=>Vb y (k2 y hy)),(fun y hy=>.inl (k2 y hy)),?_⟩;intro j' bW _ e1 e2;by_cases nQ:j'=i
      ·exfalso;subst nQ;rw[if_pos rfl] at e1;cases zq:x with
       | none=>rw[zq] at e1;exact e2 e1.symm
       | some y =>
        obtain⟨q,q1,q2⟩:=u7 y zq;exact hne (hs.ah b b' p q y bQ q1 (.inr (k2 y (by rw[<-e1,zq]))) (.inl q2.symm))
      ·rw[if_neg nQ] at e1;exact k3 j' bW (by simp;exact fun e=>nQ e.symm) e1 e2
   ·rename_i gu;have oJ:k<m.length:=hk;have oo:k<ids.length:=by rw[hs.aK];exact oJ
    rw[bD k (fun e=>gu e.symm) (fun e=>he e.symm),List.getElem?_eq_getElem oo] at gp;rw[<-Option.some.inj gp,List.getElem_map];refine(hs.bu k oJ oo).Np dt dI hd 4 ?_;intro q hq y hy;exact SD k q y (by rw[List.getElem?_eq_getElem oo,hq]) (fun e=>gu e.symm) hy
end
section
variable {c:Ctx} {s:List A} {m:List aq} {a:Act} {w w':World} {ids ab:dp} {P:Program} {im bl:Nat->Prop} {tt:TT} {G:aG}
variable {next:Act->World->Prop} {Q:Exit->Act->World->Prop} {o:Oper}

theorem zt(vs:Array Value)(i:Nat)(v:Value)(h:i<vs.size):(vs.toList.take i++[v]++vs.toList.drop (i+[v].length)).toArray=vs.setIfInBounds i v:=by
 apply Array.ext';simp only[List.length_singleton,Array.toList_setIfInBounds];rw[List.set_eq_take_append_cons_drop,if_pos (by simpa using h)];simp

theorem cG(aJ:bo P tt)(hG:G.ok c)(hs:aF c s m a w ids){K:List A->A->List aq->Prop}(h:lf P G tt o s m K)
  (hn:∀s1 v m' a' w' ab,K s1 v m'->aF c (aZ s1 o.dst v) m' a' w' ab->next a' w'):o.wp P a w next Q:=by
 unfold lf at h;split at h
 ·rename_i t X Y ho;split at h
  ·rename_i b hX;split at h
   ·rename_i ty aM sz n hole len row hb;split at h
    ·rename_i ti kk ix iQ hY;split at h
     ·rename_i hk he;obtain⟨TK,h⟩:=h;obtain⟨i,d,z,hi,hd,_,_,_,_,_,_,_,_,nz,iU,_⟩:=aJ.facts iQ;obtain⟨ie,ze,BG,iw,ng,_⟩:=iU hk;subst BG;have hx:=hs.ev X;have hy:=hs.ev Y;rw[hX] at hx;rw[hY] at hy;obtain⟨p,bQ,hB,_,_⟩:=om hs hb (by omega);obtain⟨g1,g2,g3,vs,h1,h2,h3,kb,h4⟩:=hB;have e:execOp a.eval o=(do let z <-Instr.indexAt t (a.eval X) (a.eval Y);pure (.value z)):=by unfold execOp;rw[ho]
      have SE:ti.br=1:=Nat.eq_of_beq_eq_true he;rcases hs.fk hx (by rw[hb];simp) with⟨q1,_⟩|⟨p',cap,q1,q2,q3,q4⟩
      ·rw[bQ] at q1;cases q1
      ·rw[bQ] at q1;cases q1;refine aQ (v:=.pointer (some ⟨p.ao,0+ix.toNat*1,none⟩)) (w':=w) ?_ (hn s _ m _ _ ids h (hs.aZ o.dst ?_))
       ·rw[e,q4,hy.bS,g2];simp[Instr.indexAt,asIntOf,underlying,hd,TK.1,TK.2,sizeOf,typeInfo,iw,ng,SE,tf]
       ·have:=Rel.oref (ids:=ids) (im:=au c ids w) (w:=w) b ix.toNat 0 p bQ;rw[g1] at this;simpa using this
     ·exact h.elim
    ·exact h.elim
   ·exact dY aJ hG hs h hn
  ·exact dY aJ hG hs h hn
 ·rename_i t X ho;split at h
  ·rename_i b i off hX;split at h
   ·rename_i ty aM sz n hole len row hb;split at h
    ·unfold Nq at h;split at h
     ·exact h.elim
     ·rename_i ti iQ;split at h
      ·rename_i hk xC gu;obtain⟨pA,h⟩:=h;rw[eC,eQ] at h;obtain⟨i0,d,z,hi,hd,_,_,_,_,_,FR,_,_,nz,iU,_⟩:=aJ.facts iQ;obtain⟨ie,ze,BG,iw,ng,_⟩:=iU hk;subst BG;obtain⟨p,vs,ab,v,q1,q2,q3,q4,q5,q6⟩:=hs.take hb pA;have hx:=hs.ev X;rw[hX] at hx;obtain⟨p',r1,r2⟩:=hs.kB hx (by rw[hb];simp);rw[q1] at r1;cases r1
       have hc:w.cell? ⟨p.ao,i*p.sz+0,none⟩=some v:=by
        rw[q4,cell_of_row w p.ao _ vs ty (0,0) q2];simpa using q3
       have bR:=ic (P:=P) (w:=w) hd (by rfl) p.ao (i*p.sz+0) v hc;refine aQ (v:=v) (w':=w) ?_ (hn s _ _ _ _ ab h (q5.aZ o.dst ?_))
       ·have e1:execOp a.eval o=(do let z <-loadVar t ⟨p.ao,i*p.sz+0,none⟩;pure (.value z)):=by
         unfold execOp;rw[ho];simp only[r2];rfl
        rw[e1];simp at bR;simp[bR]
       ·simpa using q6
      ·exact h.elim
    ·exact h.elim
   ·exact dY aJ hG hs h hn
  ·exact dY aJ hG hs h hn
 ·rename_i t X Y ho;split at h
  ·rename_i b i off hX;split at h
   ·rename_i ty aM sz n hole len row hb;split at h
    ·rename_i b' ti hY iQ;split at h
     ·rename_i qR;have qR:ti.size=1:=Nat.eq_of_beq_eq_true qR;unfold Nr at h;split at h
      ·rename_i j um qQ n' dr gj rf;split at h
       ·rename_i xC gu;have xC:=Nat.eq_of_beq_eq_true xC;have gu:=Nat.eq_of_beq_eq_true gu;subst xC;subst gu;obtain⟨⟨kU,pA⟩,h⟩:=h;subst kU;rw[cD,dF] at h;have hne:b≠b':=fun e=>by subst e;rw[Nat.beq_refl] at rf;cases rf
        have hx:=hs.ev X;have hy:=hs.ev Y;rw[hX] at hx;rw[hY] at hy;obtain⟨i0,d,z,hi,hd,_,PS,_⟩:=aJ.facts iQ;obtain⟨p,vs,ab,q1,q2,q3,q4,q5⟩:=hs.Md hb gj hne pA hy;obtain⟨p',r1,r2⟩:=hs.kB hx (by rw[hb];simp);rw[q1] at r1;cases r1;obtain⟨o1,o2⟩:=oe (by rfl) hy;have qL:=fO (P:=P) (w:=w) hi p.ao (i*p.sz+0) ty vs (a.eval Y) [a.eval Y] o2 (by rw[PS,qR];rfl) (by intro u hu;rw[List.mem_singleton.1 hu];exact o1) q2 (by rw[q4];simp;omega);rw[q4] at qL;simp only[Nat.mul_one,Nat.add_zero] at qL;rw[zt vs i _ q3] at qL;refine gB (w':=w.setRow p.ao (vs.setIfInBounds i (a.eval Y))) ?_ (hn _ _ _ _ _ ab h (q5.jS o.dst _))
        have e1:execOp a.eval o=(do storeVar t ⟨p.ao,i*p.sz+0,none⟩ (a.eval Y);pure .skip):=by
         unfold execOp;rw[ho];simp only[r2];rfl
        rw[e1,q4];simp[qL]
       ·exact h.elim
      ·exact h.elim
     ·exact h.elim
    ·exact h.elim
   ·exact dY aJ hG hs h hn
  ·exact dY aJ hG hs h hn
 ·exact dY aJ hG hs h hn
end
end Go.Proofs.YtijddijloelacaaGreat.Am

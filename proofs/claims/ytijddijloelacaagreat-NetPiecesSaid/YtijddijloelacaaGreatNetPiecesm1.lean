/-
  THE ENGINE, part 1: an abstract machine of symbolic values, each step proved sound.
-/
import Derived.Calls
import Derived.Tactics
import Derived.Below
import Derived.Laws.Sem
import Derived.WalkKit
import Derived.Laws.StructEq
import Derived.ChangeKeysEq
import Derived.Laws.CopyRow
import Derived.Laws.Cells
import Derived.Laws.Slices
import Derived.Laws.AppendOwn
import Derived.Laws.OwnMore
import Derived.Laws.MakeOwn
set_option linter.unusedSimpArgs false
set_option linter.unusedSectionVars false
set_option linter.unusedVariables false
namespace Go.Proofs.YtijddijloelacaaGreat.Am
open Go.RowKit (Below)
inductive KC where
 | int (n:Int)
 | bool (b:Bool)
 | str (s:List UInt8)
 deriving DecidableEq
inductive KS where
 | int (k:IntKind)
 | bool
 | str
def UC:KS->KC->Value
 | .int k,.int n=>.int k n
 | .bool,.bool b=>.bool b
 | .str,.str s=>.string ⟨s.toArray⟩
 | _,_=>.tuple #[]
def iD:List KS->List KC->Prop
 | [],[]=>True
 | .int _::ss,.int _::ks=>iD ss ks
 | .bool::ss,.bool _::ks=>iD ss ks
 | .str::ss,.str _::ks=>iD ss ks
 | _,_=>False
def ES:List KS->List KC->List Value
 | s::ss,k::ks=>UC s k::ES ss ks
 | _,_=>[]
def kV(agg:Bool)(ss:List KS)(ks:List KC):Value :=
 match agg with
 | true=>.agg (ES ss ks).toArray
 | false=>(ES ss ks).getD 0 undef

inductive A where
 | int (k:IntKind) (n:Int)
 | bool (b:Bool)
 | sb (b:Bool)
 | str (s:List UInt8)
 | gH
 | ref (b off:Nat)
 | oref (b i off:Nat)
 | bref (cs:List A) (off:Nat)
 | aV
 | sl (n sz:Nat) (row:Nat->List A)
 | own (b:Nat)
 | agg (cs:List A)
 | tup (vs:List A)
 | fn (f:FuncId) (cap:List A)
 | bz
 | fU
 | mv (agg:Bool) (sh:List KS) (has:List KC->Bool) (val:List KC->A)
 | omap (b:Nat)
 | qZ (b:Nat) (k:List KC)
 | nw (b k:Nat)
 | af
instance:Inhabited A:=⟨.af⟩
inductive aq where
 | box (ty:TypeId) (cs:List A)
 | row (ty:TypeId) (sz n:Nat) (row:Nat->List A)
 | nest (ty aN:TypeId) (sz n:Nat) (hole:Option Nat) (len:Nat->Nat) (row:Nat->Nat->List A)
 | eP (agg:Bool) (sh:List KS) (has:List KC->Bool) (val:List KC->A)
 | o7 (agg:Bool) (sh:List KS) (has:List KC->Bool) (val:List KC->A)
 | GB (agg:Bool) (sh:List KS) (has:List KC->Bool) (val:List KC->A) (seen:List (List KC))
 | cM (ty:TypeId) (agg:Bool) (sh:List KS) (n hi:Nat) (cs:List A) (jA:Nat->Nat) (has:Nat->List KC->Bool) (val:Nat->List KC->A)
 | bF (ty:TypeId) (sz n:Nat) (Φ:(Nat->List A)->Prop)
 | ghost (cs:List A)
 | gone
 | dead
instance:Inhabited aq:=⟨.dead⟩

def gz(v:Value):Prop:=v.oneCell'=true

inductive aw (im:Nat->Prop) (w:World):A->Value->Prop
 | int (k:IntKind) (n:Int):aw im w (.int k n) (.int k n)
 | bool (b:Bool):aw im w (.bool b) (.bool b)
 | sb (b:Bool):aw im w (.sb b) (.bool b)
 | str (s:List UInt8):aw im w (.str s) (.string ⟨s.toArray⟩)
 | gH:aw im w .gH (.pointer none)
 | bref (ao base off:Nat) (cs:List A) (vs:Nat->Value) (hb:im ao)
   (hc:∀j,j<cs.length->w.cell? ⟨ao,base+j,none⟩=some (vs j))
   (ho:∀j,j<cs.length->gz (vs j))
   (hr:∀j (h:j<cs.length),aw im w cs[j] (vs j)):aw im w (.bref cs off) (.pointer (some ⟨ao,base+off,none⟩))
 | aV:aw im w .aV (.slice none 0 0)
 | sn (sz:Nat) (row:Nat->List A):aw im w (.sl 0 sz row) (.slice none 0 0)
 | sle (sz:Nat) (row:Nat->List A) (ad:Addr) (cap:Nat):aw im w (.sl 0 sz row) (.slice (some ad) 0 cap)
 | sl (n sz:Nat) (row:Nat->List A) (ao base cap:Nat) (vs:Nat->Nat->Value) (hb:im ao) (kQ:n<=cap)
   (hl:∀i,i<n->(row i).length=sz)
   (hc:∀i j,i<n->j<sz->w.cell? ⟨ao,base+i*sz+j,none⟩=some (vs i j))
   (ho:∀i j,i<n->j<sz->gz (vs i j))
   (hr:∀i j,i<n->∀(h:j<(row i).length),aw im w (row i)[j] (vs i j)) :
   aw im w (.sl n sz row) (.slice (some ⟨ao,base,none⟩) n cap)
 | agg (cs:List A) (vs:List Value) (hl:vs.length=cs.length) (ho:∀v∈vs,gz v)
   (hr:∀j (h:j<cs.length) (h':j<vs.length),aw im w cs[j] vs[j]):aw im w (.agg cs) (.agg vs.toArray)
 | tup (cs:List A) (vs:List Value) (hl:vs.length=cs.length)
   (hr:∀j (h:j<cs.length) (h':j<vs.length),aw im w cs[j] vs[j]):aw im w (.tup cs) (.tuple vs.toArray)
 | fn (f:FuncId) (cs:List A) (vs:List Value) (hl:vs.length=cs.length)
   (hr:∀j (h:j<cs.length) (h':j<vs.length),aw im w cs[j] vs[j]):aw im w (.fn f cs) (.func (.func f) #[] vs.toArray)
 | bz:aw im w .bz .nilFunc
 | fU:aw im w .fU (.map none)
 | mv (agg:Bool) (sh:List KS) (has:List KC->Bool) (val:List KC->A) (r:Nat) (es:Array MapEntry) (clock:Nat) (f:Nat->List KC) (hb:im r) (hh:w.heap[r]?=some (.map es clock))
   (hk:∀i (h:i<es.size),iD sh (f i)/\es[i].key=kV agg sh (f i)/\has (f i)=true) (hd:∀i j,i<es.size->j<es.size->f i=f j->i=j) (hc:∀k,iD sh k->has k=true->∃i,i<es.size/\f i=k)
   (hv:∀i (h:i<es.size),aw im w (val (f i)) es[i].val)
   (Fy:∀i (h:i<es.size),es[i].born<clock) (DF:∀i j (h:i<es.size) (h':j<es.size),es[i].born=es[j].born->i=j):aw im w (.mv agg sh has val) (.map (some r))
 | af (v:Value):aw im w .af v

structure Id where
 ao:Nat
 k:Nat
 n:Nat
 sz:Nat
 Ay:Nat->Prop:=fun _=>False
 uc:Nat->Option (List KC):=fun _=>none
def Id.has(p:Id)(x:Nat):Prop:=x=p.ao\/p.Ay x
inductive dT where
 | dead
 | av
 | aQ
 | lv (p:Id)
 | cE (vs:List Value)
abbrev dE:=List dT

inductive Rel (ids:dE) (im:Nat->Prop) (w:World):A->Value->Prop
 | aI {a:A} {v:Value} (h:aw im w a v):Rel ids im w a v
 | ref (b off:Nat) (p:Id) (h:ids[b]?=some (.lv p)):Rel ids im w (.ref b off) (.pointer (some ⟨p.ao,off,none⟩))
 | oref (b i off:Nat) (p:Id) (h:ids[b]?=some (.lv p)):Rel ids im w (.oref b i off) (.pointer (some ⟨p.ao,i*p.sz+off,none⟩))
 | fX (b:Nat) (h:ids[b]?=some .aQ):Rel ids im w (.own b) (.slice none 0 0)
 | own (b cap:Nat) (p:Id) (h:ids[b]?=some (.lv p)) (hn:p.n<=cap/\cap<=maxLen) (hm:cap*p.sz=p.k) :
   Rel ids im w (.own b) (.slice (some ⟨p.ao,0,none⟩) p.n cap)
 | ki (b off x y:Nat) (h:ids[b]?=some .av):Rel ids im w (.ref b off) (.pointer (some ⟨x,y,none⟩))
 | gA (b i off x y:Nat) (h:ids[b]?=some .av):Rel ids im w (.oref b i off) (.pointer (some ⟨x,y,none⟩))
 | fS (b x:Nat) (h:ids[b]?=some .av):Rel ids im w (.omap b) (.map (some x))
 | kj (b:Nat) (x:Option Addr) (n cap:Nat) (h:ids[b]?=some .av):Rel ids im w (.own b) (.slice x n cap)
 | omap (b:Nat) (p:Id) (h:ids[b]?=some (.lv p)):Rel ids im w (.omap b) (.map (some p.ao))
 | qZ (b:Nat) (k:List KC) (p:Id) (n:Nat) (h:ids[b]?=some (.lv p)) (hn:p.uc n=some k):Rel ids im w (.qZ b k) (.int .i64 n)
 | qh (b:Nat) (k:List KC) (n:Int) (h:ids[b]?=some .av):Rel ids im w (.qZ b k) (.int .i64 n)
 | nw (b k cap x:Nat) (p:Id) (h:ids[b]?=some (.lv p)) (hx:k<p.n->x=k*p.sz):Rel ids im w (.nw b k) (.slice (some ⟨p.ao,x,none⟩) (p.n-k) cap)
 | qi (b k:Nat) (h:ids[b]?=some .aQ):Rel ids im w (.nw b k) (.slice none 0 0)
 | nT (b k:Nat) (x:Option Addr) (n cap:Nat) (h:ids[b]?=some .av):Rel ids im w (.nw b k) (.slice x n cap)
 | agg (cs:List A) (vs:List Value) (hl:vs.length=cs.length) (ho:∀v∈vs,gz v)
   (hr:∀j (h:j<cs.length) (h':j<vs.length),Rel ids im w cs[j] vs[j]):Rel ids im w (.agg cs) (.agg vs.toArray)
 | tup (cs:List A) (vs:List Value) (hl:vs.length=cs.length)
   (hr:∀j (h:j<cs.length) (h':j<vs.length),Rel ids im w cs[j] vs[j]):Rel ids im w (.tup cs) (.tuple vs.toArray)
 | fn (f:FuncId) (cs:List A) (vs:List Value) (hl:vs.length=cs.length)
   (hr:∀j (h:j<cs.length) (h':j<vs.length),Rel ids im w cs[j] vs[j]):Rel ids im w (.fn f cs) (.func (.func f) #[] vs.toArray)

section
variable {im bo:Nat->Prop} {w w':World} {ids ab:dE}

theorem pK{b:Nat}(h:w'.heap[b]?=w.heap[b]?)(o:Nat):w'.cell? ⟨b,o,none⟩=w.cell? ⟨b,o,none⟩:=by
 unfold World.cell?;simp only[h]

theorem aw.mono(hi:∀b,im b->bo b)(hw:∀b,im b->w'.heap[b]?=w.heap[b]?){a:A}{v:Value}(h:aw im w a v):aw bo w' a v:=by
 induction h with
 | int k n=>exact .int k n
 | bool b=>exact .bool b
 | sb b=>exact .sb b
 | str s=>exact .str s
 | gH=>exact .gH
 | bref ao base off cs vs hb hc ho hr ih=>exact .bref ao base off cs vs (hi _ hb) (fun j hj=>by rw[pK (hw _ hb)];exact hc j hj) ho ih
 | aV=>exact .aV
 | sn sz row=>exact .sn sz row
 | sle sz row ad cap=>exact .sle sz row ad cap
 | sl n sz row ao base cap vs hb kQ hl hc ho hr ih=>exact .sl n sz row ao base cap vs (hi _ hb) kQ hl (fun i j h1 h2=>by rw[pK (hw _ hb)];exact hc i j h1 h2) ho ih
 | agg cs vs hl ho hr ih=>exact .agg cs vs hl ho ih
 | tup cs vs hl hr ih=>exact .tup cs vs hl ih
 | fn f cs vs hl hr ih=>exact .fn f cs vs hl ih
 | bz=>exact .bz
 | fU=>exact .fU
 | mv agg sh has val r es clock f hb hh hk hd hc hv Fy DF ihv=>exact .mv agg sh has val r es clock f (hi _ hb) (by rw[hw _ hb];exact hh) hk hd hc ihv Fy DF
 | af v=>exact .af v

theorem Rel.mono(hi:∀b,im b->bo b)(hw:∀b,im b->w'.heap[b]?=w.heap[b]?)(hd:∀(b:Nat) p,ids[b]?=some p->p≠.dead->ab[b]?=some p)
  {a:A} {v:Value} (h:Rel ids im w a v):Rel ab bo w' a v:=by
 induction h with
 | aI h=>exact .aI (h.mono hi hw)
 | ref b off p h=>exact .ref b off p (hd _ _ h (by simp))
 | oref b i off p h=>exact .oref b i off p (hd _ _ h (by simp))
 | fX b h=>exact .fX b (hd _ _ h (by simp))
 | own b cap p h hn hm=>exact .own b cap p (hd _ _ h (by simp)) hn hm
 | kj b x n cap h=>exact .kj b x n cap (hd _ _ h (by simp))
 | ki b off x y h=>exact .ki b off x y (hd _ _ h (by simp))
 | gA b i off x y h=>exact .gA b i off x y (hd _ _ h (by simp))
 | fS b x h=>exact .fS b x (hd _ _ h (by simp))
 | omap b p h=>exact .omap b p (hd _ _ h (by simp))
 | qZ b k p n h hn=>exact .qZ b k p n (hd _ _ h (by simp)) hn
 | qh b k n h=>exact .qh b k n (hd _ _ h (by simp))
 | nw b k cap x p h hx=>exact .nw b k cap x p (hd _ _ h (by simp)) hx
 | qi b k h=>exact .qi b k (hd _ _ h (by simp))
 | nT b k x n cap h=>exact .nT b k x n cap (hd _ _ h (by simp))
 | agg cs vs hl ho hr ih=>exact .agg cs vs hl ho ih
 | tup cs vs hl hr ih=>exact .tup cs vs hl ih
 | fn f cs vs hl hr ih=>exact .fn f cs vs hl ih

theorem Rel.bY{k:IntKind}{n:Int}{v:Value}(h:Rel ids im w (.int k n) v):v=.int k n:=by
 cases h with|aI h=>cases h;rfl
theorem Rel.dL{b:Bool}{v:Value}(h:Rel ids im w (.bool b) v):v=.bool b:=by
 cases h with|aI h=>cases h;rfl
theorem Rel.iI{b:Bool}{v:Value}(h:Rel ids im w (.sb b) v):v=.bool b:=by
 cases h with|aI h=>cases h;rfl
theorem Rel.hU{s:List UInt8}{v:Value}(h:Rel ids im w (.str s) v):v=.string ⟨s.toArray⟩:=by
 cases h with|aI h=>cases h;rfl
theorem Rel.kp{v:Value}(h:Rel ids im w .gH v):v=.pointer none:=by
 cases h with|aI h=>cases h;rfl
theorem Rel.dr{v:Value}(h:Rel ids im w .aV v):v=.slice none 0 0:=by
 cases h with|aI h=>cases h;rfl
theorem Rel.ic{b off:Nat}{v:Value}(h:Rel ids im w (.ref b off) v):(∃p,ids[b]?=some (.lv p)/\v=.pointer (some ⟨p.ao,off,none⟩))\/(ids[b]?=some .av/\∃x y,v=.pointer (some ⟨x,y,none⟩)):=by
 cases h with
 | aI h=>cases h
 | ref _ _ p h=>exact .inl ⟨p,h,rfl⟩
 | ki _ _ x y h=>exact .inr ⟨h,x,y,rfl⟩
theorem Rel.iy{b i off:Nat}{v:Value}(h:Rel ids im w (.oref b i off) v):(∃p,ids[b]?=some (.lv p)/\v=.pointer (some ⟨p.ao,i*p.sz+off,none⟩))\/(ids[b]?=some .av/\∃x y,v=.pointer (some ⟨x,y,none⟩)):=by
 cases h with
 | aI h=>cases h
 | oref _ _ _ p h=>exact .inl ⟨p,h,rfl⟩
 | gA _ _ _ x y h=>exact .inr ⟨h,x,y,rfl⟩
theorem Rel.jB{b:Nat}{v:Value}(h:Rel ids im w (.own b) v):
  (ids[b]?=some .aQ/\v=.slice none 0 0)\/(∃p cap,ids[b]?=some (.lv p)/\(p.n<=cap/\cap<=maxLen)/\cap*p.sz=p.k/\v=.slice (some ⟨p.ao,0,none⟩) p.n cap) \/
   (ids[b]?=some .av/\∃x n cap,v=.slice x n cap):=by
 cases h with
 | aI h=>cases h
 | fX _ h=>exact .inl ⟨h,rfl⟩
 | own _ cap p h hn hm=>exact .inr (.inl ⟨p,cap,h,hn,hm,rfl⟩)
 | kj _ x n cap h=>exact .inr (.inr ⟨h,x,n,cap,rfl⟩)
theorem Rel.jh{b:Nat}{v:Value}(h:Rel ids im w (.omap b) v):(∃p,ids[b]?=some (.lv p)/\v=.map (some p.ao))\/(ids[b]?=some .av/\∃x,v=.map (some x)):=by
 cases h with
 | aI h=>cases h
 | omap _ p h=>exact .inl ⟨p,h,rfl⟩
 | fS _ x h=>exact .inr ⟨h,x,rfl⟩
theorem Rel.NF{b k:Nat}{v:Value}(h:Rel ids im w (.nw b k) v):
  (ids[b]?=some .aQ/\v=.slice none 0 0)\/(∃p cap x,ids[b]?=some (.lv p)/\(k<p.n->x=k*p.sz)/\v=.slice (some ⟨p.ao,x,none⟩) (p.n-k) cap)\/(ids[b]?=some .av/\∃x n cap,v=.slice x n cap):=by
 cases h with
 | aI h=>cases h
 | nw _ _ cap x p h hx=>exact .inr (.inl ⟨p,cap,x,h,hx,rfl⟩)
 | qi _ _ h=>exact .inl ⟨h,rfl⟩
 | nT _ _ x n cap h=>exact .inr (.inr ⟨h,x,n,cap,rfl⟩)
theorem Rel.kq{v:Value}(h:Rel ids im w .fU v):v=.map none:=by
 cases h with|aI h=>cases h;rfl
theorem Rel.ig{cs:List A}{v:Value}(h:Rel ids im w (.agg cs) v):
  ∃vs:List Value,v=.agg vs.toArray/\vs.length=cs.length/\(∀u∈vs,gz u)/\(∀j (h:j<cs.length) (h':j<vs.length),Rel ids im w cs[j] vs[j]):=by
 cases h with
 | aI h=>cases h with|agg _ vs hl ho hr=>exact⟨vs,rfl,hl,ho,fun j h h'=>.aI (hr j h h')⟩
 | agg _ vs hl ho hr=>exact⟨vs,rfl,hl,ho,hr⟩
theorem Rel.jC{cs:List A}{v:Value}(h:Rel ids im w (.tup cs) v):
  ∃vs:List Value,v=.tuple vs.toArray/\vs.length=cs.length/\(∀j (h:j<cs.length) (h':j<vs.length),Rel ids im w cs[j] vs[j]):=by
 cases h with
 | aI h=>cases h with|tup _ vs hl hr=>exact⟨vs,rfl,hl,fun j h h'=>.aI (hr j h h')⟩
 | tup _ vs hl hr=>exact⟨vs,rfl,hl,hr⟩
theorem Rel.gi{f:FuncId}{cs:List A}{v:Value}(h:Rel ids im w (.fn f cs) v):
  ∃vs:List Value,v=.func (.func f) #[] vs.toArray/\vs.length=cs.length/\(∀j (h:j<cs.length) (h':j<vs.length),Rel ids im w cs[j] vs[j]):=by
 cases h with
 | aI h=>cases h with|fn _ _ vs hl hr=>exact⟨vs,rfl,hl,fun j h h'=>.aI (hr j h h')⟩
 | fn _ _ vs hl hr=>exact⟨vs,rfl,hl,hr⟩
end

structure Ctx where
 w0:World
 SP:Nat->Prop
 mu:Nat->Prop:=fun _=>False
 gh:List Value:=[]
/-- A block that the call may write: a new one, or one that it was handed. -/
def Ctx.new(c:Ctx)(b:Nat):Prop:=c.w0.heap.size<=b\/c.mu b
/-- Draws: where a sort is called they only grow; else (ns) nothing is said of them. -/
structure cc where
 ns:Prop
variable [Inhabited cc]
def eM(a b:Nat):Prop:=(default:cc).ns\/a<=b
theorem eM.refl(a:Nat):eM a a:=.inr (Nat.le_refl a)
theorem eM.succ(a:Nat):eM a (a+1):=.inr (Nat.le_succ a)
theorem eM.of{a b:Nat}(h:a<=b):eM a b:=.inr h
theorem eM.trans{a b c:Nat}(h:eM a b)(k:eM b c):eM a c:=by
 rcases h with h|h
 ·exact .inl h
 ·exact k.imp id (Nat.le_trans h)
/-- A world that goes on: what lies below n stays, and draws only grow. -/
structure Bw (n:Nat) (w w':World):Prop where
 os:w'.os=w.os
 tape:w'.tape=w.tape
 output:w'.output=w.output
 size:w.heap.size<=w'.heap.size
 block:∀k,k<n->w'.heap[k]?=w.heap[k]?
 drawn:eM w.drawn w'.drawn
theorem Bw.below{n:Nat}{w w':World}(h:Bw n w w'):Below n w w':=⟨h.os,h.tape,h.output,h.size,h.block⟩
theorem Bw.refl(n:Nat)(w:World):Bw n w w:=⟨rfl,rfl,rfl,Nat.le_refl _,fun _ _=>rfl,eM.refl _⟩
theorem Bw.mono{n m:Nat}{w w':World}(h:Bw n w w')(hm:m<=n):Bw m w w':=⟨h.os,h.tape,h.output,h.size,fun k hk=>h.block k (Nat.lt_of_lt_of_le hk hm),h.drawn⟩
structure Fr (c:Ctx) (w:World):Prop where
 os:w.os=c.w0.os
 tape:w.tape=c.w0.tape
 output:w.output=c.w0.output
 size:c.w0.heap.size<=w.heap.size
 block:∀k,k<c.w0.heap.size->¬c.mu k->w.heap[k]?=c.w0.heap[k]?
 drawn:eM c.w0.drawn w.drawn
theorem Fr.go{c:Ctx}{w w':World}(h:Fr c w)(h1:w'.os=w.os)(h2:w'.tape=w.tape)(h3:w'.output=w.output)(h4:w.heap.size<=w'.heap.size)
  (h5:∀k,k<c.w0.heap.size->¬c.mu k->w'.heap[k]?=w.heap[k]?) (h6:eM w.drawn w'.drawn:=by exact eM.refl _):Fr c w' :=
 ⟨h1.trans h.os,h2.trans h.tape,h3.trans h.output,Nat.le_trans h.size h4,fun k hk hm=>(h5 k hk hm).trans (h.block k hk hm),h.drawn.trans h6⟩
theorem Fr.trans{c:Ctx}{w w':World}(h:Fr c w)(k:Bw c.w0.heap.size w w'):Fr c w':=h.go k.os k.tape k.output k.size (fun i hi _=>k.block i hi) k.drawn
theorem Fr.refl(w:World)(im:Nat->Prop)(mu:Nat->Prop)(gh:List Value):Fr ⟨w,im,mu,gh⟩ w:=⟨rfl,rfl,rfl,Nat.le_refl _,fun _ _ _=>rfl,eM.refl _⟩
theorem Fr.below{c:Ctx}{w:World}(h:Fr c w)(hm:∀b,¬c.mu b):Bw c.w0.heap.size c.w0 w:=⟨h.os,h.tape,h.output,h.size,fun k hk=>h.block k hk (hm k),h.drawn⟩

def au(c:Ctx)(ids:dE)(w:World):Nat->Prop:=fun b =>
 c.SP b\/(c.new b/\b<w.heap.size/\∀p,dT.lv p∈ids->¬p.has b)

/-- An inner row of a nest. -/
def nI(im:Nat->Prop)(w:World)(aN:TypeId)(sz n:Nat)(row:Nat->List A)(v:Value)(x:Option Nat):Prop :=
 (v=.slice none 0 0/\n=0/\x=none) \/
 ∃(q cap:Nat) (vs:Array Value),v=.slice (some ⟨q,0,none⟩) n cap/\x=some q/\w.heap[q]?=some (.cells vs aN (0,0))/\vs.size=cap*sz/\n<=cap/\cap<=maxLen /\
  (∀i,i<n->(row i).length=sz) /\
  ∀i j,i<n->∀(h:j<(row i).length) (h':i*sz+j<vs.size),aw im w (row i)[j] vs[i*sz+j]/\gz vs[i*sz+j]

/-- What lies at r is a map of these entries. -/
def ET(im:Nat->Prop)(w:World)(agg:Bool)(sh:List KS)(has:List KC->Bool)(val:List KC->A)(r:Nat):Prop :=
 ∃(es:Array MapEntry) (clock:Nat) (f:Nat->List KC),w.heap[r]?=some (.map es clock) /\
   (∀i (h:i<es.size),iD sh (f i)/\es[i].key=kV agg sh (f i)/\has (f i)=true)/\(∀i j,i<es.size->j<es.size->f i=f j->i=j)/\(∀k,iD sh k->has k=true->∃i,i<es.size/\f i=k) /\
   (∀i (h:i<es.size),aw im w (val (f i)) es[i].val)/\(∀i (h:i<es.size),es[i].born<clock)/\∀i j (h:i<es.size) (h':j<es.size),es[i].born=es[j].born->i=j
/-- A cell of a slice of maps. -/
def UD(im:Nat->Prop)(w:World)(Ay:Nat->Prop)(agg:Bool)(sh:List KS)(n hi l:Nat)(jA:Nat->Nat)(has:Nat->List KC->Bool)(val:Nat->List KC->A)(kb:Nat->Nat)(i:Nat)(v:Value):Prop :=
 (∃x,v=.map x)/\(l=0\/i≠hi->(jA i=0->v=.map none) /\
  (jA i=1->v=.map (some (kb i))/\Ay (kb i)/\ET im w agg sh (has i) (val i) (kb i)/\∀j,j<n->(l=0\/j≠hi)->jA j=1->kb j=kb i->j=i))
def aX(ids:dE)(im:Nat->Prop)(w:World):aq->dT->Prop
 | .dead,p=>p=.dead
 | .gone,p=>p=.av
 | .box ty cs,.lv p=>∃vs:Array Value,w.heap[p.ao]?=some (.cells vs ty (0,0))/\vs.size=p.k/\cs.length=p.k /\
   ∀j (h:j<cs.length) (h':j<vs.size),Rel ids im w cs[j] vs[j]/\gz vs[j]
 | .box _ _,_=>False
 | .row ty sz n row,.lv p=>p.sz=sz/\p.n=n/\∃vs:Array Value,w.heap[p.ao]?=some (.cells vs ty (0,0))/\vs.size=p.k/\n*sz<=p.k /\
   (∀i,i<n->(row i).length=sz) /\
   ∀i j,i<n->∀(h:j<(row i).length) (h':i*sz+j<vs.size),aw im w (row i)[j] vs[i*sz+j]/\gz vs[i*sz+j]
 | .row _ _ n _,.aQ=>n=0
 | .row _ _ _ _,.dead=>False
 | .row _ _ _ _,.av=>False
 | .row _ _ _ _,.cE _=>False
 | .nest ty aN sz n hole len row,.lv p=>p.sz=1/\p.n=n/\¬p.Ay p.ao/\∃vs:Array Value,w.heap[p.ao]?=some (.cells vs ty (0,0))/\vs.size=p.k/\n<=p.k /\
   ∃kb:Nat->Option Nat,∀i,i<n->hole≠some i->∀(h:i<vs.size),nI im w aN sz (len i) (row i) vs[i] (kb i) /\
    (∀x,kb i=some x->p.Ay x)/\∀j,j<n->hole≠some j->kb j=kb i->kb i≠none->j=i
 | .nest _ _ _ n _ _ _,.aQ=>n=0
 | .nest _ _ _ _ _ _ _,.dead=>False
 | .nest _ _ _ _ _ _ _,.av=>False
 | .nest _ _ _ _ _ _ _,.cE _=>False
 | .eP agg sh has val,.lv p=>∃(es:Array MapEntry) (clock:Nat) (f:Nat->List KC),w.heap[p.ao]?=some (.map es clock) /\
   (∀i (h:i<es.size),iD sh (f i)/\es[i].key=kV agg sh (f i)/\has (f i)=true)/\(∀i j,i<es.size->j<es.size->f i=f j->i=j)/\(∀k,iD sh k->has k=true->∃i,i<es.size/\f i=k) /\
   (∀i (h:i<es.size),aw im w (val (f i)) es[i].val)/\(∀i (h:i<es.size),es[i].born<clock)/\∀i j (h:i<es.size) (h':j<es.size),es[i].born=es[j].born->i=j
 | .eP _ _ _ _,_=>False
 | .o7 agg sh has val,.lv p=>∃(es:Array MapEntry) (clock:Nat) (f:Nat->List KC),w.heap[p.ao]?=some (.map es clock) /\
   (∀i (h:i<es.size),iD sh (f i)/\es[i].key=kV agg sh (f i)/\has (f i)=true)/\(∀i j,i<es.size->j<es.size->f i=f j->i=j)/\(∀k,iD sh k->has k=true->∃i,i<es.size/\f i=k) /\
   (∀i (h:i<es.size),aw im w (val (f i)) es[i].val)/\(∀i (h:i<es.size),p.uc es[i].born=some (f i))/\(∀n,clock<=n->p.uc n=none)/\∀n k,p.uc n=some k->∃i,∃(h:i<es.size),es[i].born=n/\f i=k
 | .o7 _ _ _ _,_=>False
 | .GB agg sh has val seen,.lv p=>∃(r:Nat) (es:Array MapEntry) (clock:Nat) (f:Nat->List KC) (sb:Array Nat),w.heap[p.ao]?=some (.mapIter (some r) clock sb clock)/\im r/\w.heap[r]?=some (.map es clock) /\
   (∀i (h:i<es.size),iD sh (f i)/\es[i].key=kV agg sh (f i)/\has (f i)=true)/\(∀i j,i<es.size->j<es.size->f i=f j->i=j)/\(∀k,iD sh k->has k=true->∃i,i<es.size/\f i=k) /\
   (∀i (h:i<es.size),aw im w (val (f i)) es[i].val)/\(∀i (h:i<es.size),es[i].born<clock)/\(∀i j (h:i<es.size) (h':j<es.size),es[i].born=es[j].born->i=j) /\
   (∀i (h:i<es.size),es[i].born∈sb↔f i∈seen)/\∀k,seen.getLast?=some k->∃i,∃(h:i<es.size),∃sb':Array Nat,f i=k/\sb=sb'.push es[i].born
 | .GB _ _ _ _ _,_=>False
 | .cM ty agg sh n hi cs jA has val,.lv p=>p.sz=1/\p.n=n/\¬p.Ay p.ao/\∃vs:Array Value,w.heap[p.ao]?=some (.cells vs ty (0,0))/\vs.size=p.k/\n<=p.k /\
   (∀j (h:j<cs.length) (h':hi<vs.size),Rel ids im w cs[j] vs[hi])/\∃kb:Nat->Nat,∀i,i<n->∀(h:i<vs.size),UD im w p.Ay agg sh n hi cs.length jA has val kb i vs[i]
 | .cM _ _ _ n _ _ _ _ _,.aQ=>n=0
 | .cM _ _ _ _ _ _ _ _ _,.dead=>False
 | .cM _ _ _ _ _ _ _ _ _,.av=>False
 | .cM _ _ _ _ _ _ _ _ _,.cE _=>False
 | .bF ty sz n Φ,.lv p=>∃row,Φ row/\p.sz=sz/\p.n=n/\∃vs:Array Value,w.heap[p.ao]?=some (.cells vs ty (0,0))/\vs.size=p.k/\n*sz<=p.k /\
   (∀i,i<n->(row i).length=sz) /\
   ∀i j,i<n->∀(h:j<(row i).length) (h':i*sz+j<vs.size),aw im w (row i)[j] vs[i*sz+j]/\gz vs[i*sz+j]
 | .bF _ _ n Φ,.aQ=>n=0/\∃row,Φ row
 | .bF _ _ _ _,.dead=>False
 | .bF _ _ _ _,.av=>False
 | .bF _ _ _ _,.cE _=>False
 | .ghost cs,.cE vs=>vs.length=cs.length/\∀j (h:j<cs.length) (h':j<vs.length),Rel ids im w cs[j] vs[j]
 | .ghost _,_=>False

structure aF (c:Ctx) (s:List A) (m:List aq) (a:Act) (w:World) (ids:dE):Prop where
 defers:a.defers=[]
 len:a.tmps.size=s.length
 bI:∀i (h:i<s.length) (h':i<a.tmps.size),Rel ids (au c ids w) w s[i] a.tmps[i]
 aL:ids.length=m.length
 bC:∀b (h:b<m.length) (h':b<ids.length),aX ids (au c ids w) w m[b] ids[b]
 aj:∀(b b':Nat) p q x,ids[b]?=some (.lv p)->ids[b']?=some (.lv q)->p.has x->q.has x->b=b'
 ar:∀p,dT.lv p∈ids->∀x,p.has x->c.new x/\x<w.heap.size
 frame:Fr c w
 dZ:∀b,c.SP b->b<c.w0.heap.size/\¬c.mu b
 cE:∀vs,dT.cE vs∈ids->vs=c.gh
section
variable {c:Ctx} {s:List A} {m:List aq} {a:Act} {w:World} {ids:dE}
theorem aF.fresh(hs:aF c s m a w ids):∀p,dT.lv p∈ids->c.new p.ao/\p.ao<w.heap.size :=
 fun p h=>hs.ar p h _ (.inl rfl)
theorem aF.dn(hs:aF c s m a w ids){b:Nat}(h:ids[b]?=some .av):m.getD b .dead=.gone:=by
 have hb:b<ids.length:=by
  rcases Nat.lt_or_ge b ids.length with h'|h'
  ·exact h'
  ·rw[List.getElem?_eq_none h'] at h;cases h
 have hm:b<m.length:=by rw[<-hs.aL];exact hb
 have hB:=hs.bC b hm hb;rw[List.getElem?_eq_getElem hb] at h;rw[Option.some.inj h] at hB;have e:m.getD b .dead=m[b]:=by rw[List.getD_eq_getElem?_getD,List.getElem?_eq_getElem hm];rfl
 rw[e];cases hx:m[b]<;>rw[hx] at hB<;>first|rfl|exact hB.elim|cases hB
theorem aF.xA(hs:aF c s m a w ids){b off:Nat}{v:Value}{im:Nat->Prop}(h:Rel ids im w (.ref b off) v)(hb:m.getD b .dead≠.gone):∃p,ids[b]?=some (.lv p)/\v=.pointer (some ⟨p.ao,off,none⟩):=by
 rcases h.ic with h|⟨h,_⟩
 ·exact h
 ·exact absurd (hs.dn h) hb
theorem aF.ll(hs:aF c s m a w ids){b i off:Nat}{v:Value}{im:Nat->Prop}(h:Rel ids im w (.oref b i off) v)(hb:m.getD b .dead≠.gone):∃p,ids[b]?=some (.lv p)/\v=.pointer (some ⟨p.ao,i*p.sz+off,none⟩):=by
 rcases h.iy with h|⟨h,_⟩
 ·exact h
 ·exact absurd (hs.dn h) hb
theorem aF.EU(hs:aF c s m a w ids){b:Nat}{v:Value}{im:Nat->Prop}(h:Rel ids im w (.omap b) v)(hb:m.getD b .dead≠.gone):∃p,ids[b]?=some (.lv p)/\v=.map (some p.ao):=by
 rcases h.jh with h|⟨h,_⟩
 ·exact h
 ·exact absurd (hs.dn h) hb
/-- A slice of ours, whose block is there. -/
theorem aF.fL(hs:aF c s m a w ids){b:Nat}{v:Value}{im:Nat->Prop}(h:Rel ids im w (.own b) v)(hb:m.getD b .dead≠.gone):
  (ids[b]?=some .aQ/\v=.slice none 0 0)\/∃p cap,ids[b]?=some (.lv p)/\(p.n<=cap/\cap<=maxLen)/\cap*p.sz=p.k/\v=.slice (some ⟨p.ao,0,none⟩) p.n cap:=by
 rcases h.jB with h|h|⟨h,_⟩
 ·exact .inl h
 ·exact .inr h
 ·exact absurd (hs.dn h) hb
theorem aF.Rw(hs:aF c s m a w ids){b k:Nat}{v:Value}{im:Nat->Prop}(h:Rel ids im w (.nw b k) v)(hb:m.getD b .dead≠.gone):
  (ids[b]?=some .aQ/\v=.slice none 0 0)\/∃p cap x,ids[b]?=some (.lv p)/\(k<p.n->x=k*p.sz)/\v=.slice (some ⟨p.ao,x,none⟩) (p.n-k) cap:=by
 rcases h.NF with h|h|⟨h,_⟩
 ·exact .inl h
 ·exact .inr h
 ·exact absurd (hs.dn h) hb
theorem aF.pJ(hs:aF c s m a w ids){b:Nat}(h:c.SP b)(h':c.new b):False:=by
 have:=hs.dZ b h;rcases h' with h'|h'
 ·omega
 ·exact this.2 h'
abbrev mkId(ao k n sz:Nat):Id:=⟨ao,k,n,sz,fun _=>False,fun _=>none⟩
theorem cw{ao k n sz x:Nat}(h:(mkId ao k n sz).has x):x=ao:=by
 rcases h with h|h
 ·exact h
 ·exact h.elim
end
end Go.Proofs.YtijddijloelacaaGreat.Am
namespace Go.Proofs.YtijddijloelacaaGreat.Am
variable [Inhabited cc]
def eqFs(P:Program)(g:TypeId->Option (List Nat)):Nat->List Field->Option (List Nat)
 | _,[]=>some []
 | acc,f::fs=>match g f.type,P.info? f.type with
  | some sh, some i => if f.name ≠ "_" ∧ f.offset = acc ∧ i.size = sh.length ∧ 0 < sh.length then match eqFs P g (acc + sh.length) fs with
    | some r=>some (sh++r)
    | none=>none
   else none
  | _,_=>none
/-- The kinds of the cells of a type that '==' compares cell by cell: 5 an integer, 6 a bool, 4 a string. -/
def aY(P:Program):Nat->TypeId->Option (List Nat)
 | 0,_=>none
 | d+1,t=>match P.underlying t with
  | some (.int _)=>some [5]
  | some .bool=>some [6]
  | some .string=>some [4]
  | some (.struct fs)=>if P.stoodInHeld t then none else eqFs P (aY P d) 0 fs.toList
  | some (.array n e)=>match aY P d e,P.info? e with
   | some sh,some i=>if i.size=sh.length/\0<sh.length then some (List.replicate n sh).flatten else none
   | _,_=>none
  | _=>none

def Xv(k:Nat)(x y:Value)(b:Bool):Prop :=
 (k=5/\∃kk a c,x=.int kk a/\y=.int kk c/\b=(a==c))\/(k=6/\∃a c,x=.bool a/\y=.bool c/\b=(a==c)) \/
 (k=4/\∃a c:ByteArray,x=.string a/\y=.string c/\b=(a.toList==c.toList))
def tK:List Nat->List Value->List Value->Bool->Prop
 | [],[],[],r=>r=true
 | k::ks,x::xs,y::ys,r=>∃b r',Xv k x y b/\tK ks xs ys r'/\r=(b&&r')
 | _,_,_,_=>False
theorem nd:∀ {ks:List Nat} {xs ys:List Value} {r:Bool},tK ks xs ys r->xs.length=ks.length/\ys.length=ks.length
 | [],[],[],_,_=>⟨rfl,rfl⟩
 | k::ks,x::xs,y::ys,r,⟨b,r',_,h,_⟩=>by have:=nd h;simp[this.1,this.2]
 | [],[],_::_,_,h=>h.elim
 | [],_::_,_,_,h=>h.elim
 | _::_,[],_,_,h=>h.elim
 | _::_,_::_,[],_,h=>h.elim
theorem ji:∀ {ks ls:List Nat} {xs ys:List Value} {r:Bool},tK (ks++ls) xs ys r ->
  ∃r1 r2,tK ks (xs.take ks.length) (ys.take ks.length) r1/\tK ls (xs.drop ks.length) (ys.drop ks.length) r2/\r=(r1&&r2)
 | [],ls,xs,ys,r,h=>⟨true,r,by simp[tK],by simpa using h,by simp⟩
 | k::ks,ls,xs,ys,r,h=>by
  match xs,ys,h with
  | x::xs,y::ys,h =>
   obtain⟨b,r',h1,h2,rfl⟩:=h;obtain⟨r1,r2,g1,g2,rfl⟩:=ji h2;exact⟨b&&r1,r2,⟨b,r1,h1,by simpa using g1,rfl⟩,by simpa using g2,by simp[Bool.and_assoc]⟩
  | [],_,h=>exact h.elim
  | _::_,[],h=>exact h.elim

/-- The value of cells, by the type. -/
def vg(P:Program)(t:TypeId)(xs:List Value):Value :=
 match P.underlying t with
 | some (.struct _)=>.agg xs.toArray
 | some (.array _ _)=>.agg xs.toArray
 | _=>xs.getD 0 undef

section
variable {P:Program} {w:World}
theorem kr{t:TypeId}{i:TypeInfo}(hi:P.info? t=some i){d:TypeDesc}(hd:P.underlying t=some d)(xs:List Value)(off:Nat)(h:off+i.size<=xs.length)(h0:0<i.size):
  (part t xs.toArray off).run P w=.ok (vg P t ((xs.drop off).take i.size)) w:=by
 have aD:off<xs.length:=by omega
 have e0:((xs.drop off).take i.size).getD 0 undef=xs[off]:=by
  rw[List.getD_eq_getElem?_getD,List.getElem?_take,if_pos h0,List.getElem?_drop];simp[aD]
 unfold part vg isAgg;cases d<;>simp[underlying,hd,sizeOf,typeInfo,hi,aD]<;>first|(rw[<-e0];simp[List.getD_eq_getElem?_getD])|skip

theorem jD:∀(d:Nat) (t:TypeId) (sh:List Nat),aY P d t=some sh->∃dd,P.underlying t=some dd
 | 0,_,_,h=>by simp[aY] at h
 | d+1,t,sh,h=>by
  unfold aY at h;cases hd:P.underlying t with
  | none=>rw[hd] at h;cases h
  | some dd=>exact⟨dd,rfl⟩
theorem nf{k:Nat}{xs ys:List Value}{r:Bool}(h:tK [k] xs ys r):∃x y,xs=[x]/\ys=[y]/\Xv k x y r:=by
 have hl:=nd h
 match xs,ys,hl,h with
 | [x],[y],_,⟨b,r',h1,h2,h3⟩ =>
  have h2:r'=true:=h2;subst h2;exact⟨x,y,rfl,rfl,by rw[h3];simpa using h1⟩
theorem EV{xs ys:List Value}{r:Bool}(h:tK [] xs ys r):r=true:=by
 match xs,ys,h with
 | [],[],h=>exact h

theorem fR:∀(d:Nat) (t:TypeId) (sh:List Nat) (xs ys:List Value) (r:Bool) (dd:Nat),aY P d t=some sh->tK sh xs ys r ->
  (Op.equalIn (d+dd) t (vg P t xs) (vg P t ys)).run P w=.ok r w
 | 0,_,_,_,_,_,_,h,_=>by simp[aY] at h
 | d+1,t,sh,xs,ys,r,dd,h,hk=>by
  have e:d+1+dd=(d+dd)+1:=by omega
  rw[e];unfold aY at h;unfold vg;split at h
  ·rename_i k hd;cases h;obtain⟨x,y,rfl,rfl,h1⟩:=nf hk
   ·rcases h1 with⟨_,kk,a,c,rfl,rfl,rfl⟩|⟨h,_⟩|⟨h,_⟩
    ·rw[hd];simp[run_equalIn_int w _ t kk k a c hd]
    ·cases h
    ·cases h
  ·rename_i hd;cases h;obtain⟨x,y,rfl,rfl,h1⟩:=nf hk
   ·rcases h1 with⟨h,_⟩|⟨_,a,c,rfl,rfl,rfl⟩|⟨h,_⟩
    ·cases h
    ·rw[hd];simp[run_equalIn_bool w _ t a c hd]
    ·cases h
  ·rename_i hd;cases h;obtain⟨x,y,rfl,rfl,h1⟩:=nf hk
   ·rcases h1 with⟨h,_⟩|⟨h,_⟩|⟨_,a,c,rfl,rfl,rfl⟩
    ·cases h
    ·cases h
    ·rw[hd];simp[run_equalIn_string w _ t a c hd]
  ·rename_i fs hd;split at h
   ·cases h
   ·rename_i pQ;rw[hd];have hf:P.fieldsOf t=fs:=by unfold Program.fieldsOf;rw[hd]
    rw[run_equalIn_struct w (d+dd) t _ _ (by rw[hf];exact hd) (by simpa using pQ),hf]
    have key:∀(fl:List Field) (acc:Nat) (sh:List Nat) (r:Bool),eqFs P (aY P d) acc fl=some sh->tK sh (xs.drop acc) (ys.drop acc) r ->
      (Op.eqFields (d+dd) xs.toArray ys.toArray fl).run P w=.ok r w:=by
     intro fl
     induction fl with
     | nil =>
      intro acc sh r h1 h2;simp only[eqFs,Option.some.injEq] at h1;subst h1;rw[EV h2];rfl
     | cons f fl ih =>
      intro acc sh r h1 h2;unfold eqFs at h1;split at h1
      ·rename_i s1 i hs hi;split at h1
       ·rename_i hc;obtain⟨BD,sj,Xw,hz⟩:=hc;split at h1
        ·rename_i r0 LB;cases h1;obtain⟨r1,r2,g1,g2,rfl⟩:=ji h2;obtain⟨fd,NG⟩:=jD d f.type s1 hs;have hl:=nd h2;simp at hl;have p1:=kr (w:=w) hi NG xs acc (by omega) (by omega);have p2:=kr (w:=w) hi NG ys acc (by omega) (by omega);rw[Xw] at p1 p2;have q:=fR d f.type s1 _ _ r1 dd hs g1;rw[List.drop_drop,List.drop_drop] at g2;have Rx:=ih (acc+s1.length) r0 r2 LB g2;subst sj;unfold Op.eqFields;rw[if_pos BD];simp only[Sem.run_bind,p1,p2,q,Result.andThen_ok];cases r1<;>simp[Rx]
        ·cases h1
       ·cases h1
      ·cases h1
    exact key fs.toList 0 sh r h (by simpa using hk)
  ·rename_i n e hd;split at h
   ·rename_i s1 i hs hi;split at h
    ·rename_i hc;cases h;rw[hd];obtain⟨ed,LH⟩:=jD d e s1 hs;rw[run_equalIn_array w (d+dd) xs.toArray ys.toArray hd hi];have CS:P.cellsOf e=s1.length:=by unfold Program.cellsOf;rw[hi];simp[hc.1]
     rw[CS]
     have key:∀(k b:Nat) (r:Bool),tK (List.replicate k s1).flatten (xs.drop (b*s1.length)) (ys.drop (b*s1.length)) r ->
       (Op.eqItems (d+dd) e s1.length xs.toArray ys.toArray (List.range' b k)).run P w=.ok r w:=by
      intro k
      induction k with
      | zero =>
       intro b r h2;have h2:tK [] (xs.drop (b*s1.length)) (ys.drop (b*s1.length)) r:=by simpa using h2
       rw[EV h2];rfl
      | succ k ih =>
       intro b r h2;rw[List.replicate_succ,List.flatten_cons] at h2;have hl:=nd h2;simp only[List.length_drop,List.length_append] at hl;obtain⟨r1,r2,g1,g2,rfl⟩:=ji h2;have p1:=kr (w:=w) hi LH xs (b*s1.length) (by omega) (by omega);have p2:=kr (w:=w) hi LH ys (b*s1.length) (by omega) (by omega);rw[hc.1] at p1 p2;have q:=fR d e s1 _ _ r1 dd hs g1;rw[List.drop_drop,List.drop_drop,<-Nat.succ_mul] at g2;have Rx:=ih (b+1) r2 g2;rw[List.range'_succ];unfold Op.eqItems;simp only[Sem.run_bind,p1,p2,q,Result.andThen_ok];cases r1<;>simp[Rx]
     have:=key n 0 r (by simpa using hk)
     rwa [<-List.range_eq_range'] at this
    ·cases h
   ·cases h
  ·cases h

mutual
theorem fD:∀(d:Nat) (t:TypeId) (sh:List Nat) (e:Nat),aY P d t=some sh->P.eqGuardType (d+e) t=false
 | 0,_,_,_,h=>by simp[aY] at h
 | d+1,t,sh,e,h=>by
  have e1:d+1+e=(d+e)+1:=by omega
  rw[e1];unfold aY at h;unfold Program.eqGuardType;split at h
  ·rename_i hd;rw[hd]
  ·rename_i hd;rw[hd]
  ·rename_i hd;rw[hd]
  ·rename_i fs hd;rw[hd];split at h
   ·cases h
   ·have:=ud d 0 fs.toList sh e h;simp only[Array.any_eq_false];intro i hi;have:=this fs[i] (by simp);simp[this]
  ·rename_i n el hd;rw[hd];split at h
   ·rename_i s1 i hs hi;exact fD d el s1 e hs
   ·cases h
  ·cases h
theorem ud:∀(d acc:Nat) (fs:List Field) (sh:List Nat) (e:Nat),eqFs P (aY P d) acc fs=some sh->∀f∈fs,P.eqGuardType (d+e) f.type=false
 | _,_,[],_,_,_=>by intro f hf;cases hf
 | d,acc,g::fs,sh,e,h=>by
  unfold eqFs at h;split at h
  ·rename_i s1 i hs hi;split at h
   ·split at h
    ·rename_i r hr;intro f hf;rcases List.mem_cons.1 hf with rfl|hf
     ·exact fD d _ s1 e hs
     ·exact ud d _ fs r e hr f hf
    ·cases h
   ·cases h
  ·cases h
end

theorem q9{op:BinOp}(VL:op=.eql\/op=.neq){t:TypeId}{d:Nat}{sh:List Nat}(Ew:aY P d t=some sh)(Xx:d<=100)(Xy:d<=P.depth){xs ys:List Value}{r:Bool}(hk:tK sh xs ys r)
  (NH:vg P t xs=.agg xs.toArray) (UE:vg P t ys=.agg ys.toArray) (X Y:Operand) :
  (do eqGuard op t X Y (.agg xs.toArray) (.agg ys.toArray);binOp op t (.agg xs.toArray) (.agg ys.toArray):Sem Value).run P w=.ok (.bool (if op=.eql then r else !r)) w:=by
 have e1:(eqGuard op t X Y (.agg xs.toArray) (.agg ys.toArray)).run P w=.ok () w:=by
  have hg:P.eqGuardType P.depth t=false:=by
   have:=fD (P:=P) d t sh (P.depth-d) Ew
   rwa [show d+(P.depth-d)=P.depth by omega] at this
  unfold eqGuard;rcases VL with rfl|rfl<;>simp[hg]
 have e2:(Op.equalIn 10000 t (.agg xs.toArray) (.agg ys.toArray)).run P w=.ok r w:=by
  have:=fR (P:=P) (w:=w) d t sh xs ys r (10000-d) Ew hk;rw[NH,UE,show d+(10000-d)=10000 by omega] at this;exact this
 simp only[Sem.run_bind,e1,Result.andThen_ok];rcases VL with rfl|rfl
 ·rw[run_eql_struct];simp[e2]
 ·rw[run_neq_struct];simp[e2]
end
end Go.Proofs.YtijddijloelacaaGreat.Am
namespace Go.Proofs.YtijddijloelacaaGreat.Am
variable [Inhabited cc]
open Go.RowKit (Below)
structure TI where
 agg:Bool
 size:Nat
 nU:List (Nat×Nat)
 aN:TypeId
 bB:Nat
 eD:Nat
 ln:Nat
 zero:List A
 kind:Nat
 ik:IntKind
 eqs:Option (List Nat)
 o8:List Nat
abbrev TT:=List (Nat×TI)

def ofConst:Value->A
 | .bool b=>.bool b
 | .int k n=>.int k n
 | .string s=>.str s.data.toList
 | .pointer none=>.gH
 | .slice none 0 0=>.aV
 | .nilFunc=>.bz
 | .map none=>.fU
 | _=>.af
theorem eE(im:Nat->Prop)(w:World)(v:Value):aw im w (ofConst v) v:=by
 unfold ofConst;split<;>first|exact .af _|skip
 ·exact .bool _
 ·exact .int _ _
 ·rename_i s;have:=aw.str (im:=im) (w:=w) s.data.toList;simpa using this
 ·exact .gH
 ·exact .aV
 ·exact .bz
 ·exact .fU

def ee:TypeDesc->Bool
 | .struct _=>true
 | .array _ _=>true
 | _=>false
def xB:Value->Bool
 | .agg _=>true
 | _=>false
def Az(P:Program)(t:TypeId):Option TI :=
 match P.info? t,P.underlying t with
 | some i,some d =>
  match i.zero with
  | some z =>
   if (xB z==ee d)&&(z.cells.toList.all (·.oneCell')&&z.cells.size==i.size) then
    match d with
    | .struct fs=>if fs.toList.all (fun f=>((P.info? f.type).map (·.size)).getD 0 != 0) then
      some { agg:=true,size:=i.size,nU:=fs.toList.map fun f=>(f.offset,((P.info? f.type).map (·.size)).getD 0),aN:=0,bB:=0,eD:=0,ln:=0,zero:=z.cells.toList.map ofConst,kind:=1,ik:=.i64,eqs:=aY P 6 t,o8:=fs.toList.map (·.type) } else none
    | .array n e=>match P.info? e with
     | some ie=>some { agg:=true,size:=i.size,nU:=[],aN:=e,bB:=ie.size,eD:=ie.bytes,ln:=n,zero:=z.cells.toList.map ofConst,kind:=2,ik:=.i64,eqs:=aY P 6 t,o8:=[] }
     | none=>none
    | .slice e=>match P.info? e with
     | some ie=>match ie.zero with
      | some ze=>if ze.cells.size==ie.size&&ie.size != 0 then some { agg:=false,size:=i.size,nU:=[],aN:=e,bB:=ie.size,eD:=ie.bytes,ln:=0,zero:=z.cells.toList.map ofConst,kind:=3,ik:=.i64,eqs:=aY P 6 t,o8:=[] } else none
      | none=>none
     | none=>none
    | .string=>some { agg:=false,size:=i.size,nU:=[],aN:=0,bB:=0,eD:=0,ln:=0,zero:=z.cells.toList.map ofConst,kind:=4,ik:=.i64,eqs:=aY P 6 t,o8:=[] }
    | .int k=>some { agg:=false,size:=i.size,nU:=[],aN:=0,bB:=0,eD:=0,ln:=0,zero:=z.cells.toList.map ofConst,kind:=5,ik:=k,eqs:=aY P 6 t,o8:=[] }
    | .bool=>some { agg:=false,size:=i.size,nU:=[],aN:=0,bB:=0,eD:=0,ln:=0,zero:=z.cells.toList.map ofConst,kind:=6,ik:=.i64,eqs:=aY P 6 t,o8:=[] }
    | .map k e=>some { agg:=false,size:=i.size,nU:=[],aN:=e,bB:=0,eD:=0,ln:=k,zero:=z.cells.toList.map ofConst,kind:=7,ik:=.i64,eqs:=aY P 6 t,o8:=[] }
    | .tuple _=>none
    | .named _ _=>none
    | .pointer _=>some { agg:=false,size:=i.size,nU:=[],aN:=0,bB:=0,eD:=0,ln:=0,zero:=z.cells.toList.map ofConst,kind:=8,ik:=.i64,eqs:=aY P 6 t,o8:=[] }
    | .func _ _ _=>some { agg:=false,size:=i.size,nU:=[],aN:=0,bB:=0,eD:=0,ln:=0,zero:=z.cells.toList.map ofConst,kind:=9,ik:=.i64,eqs:=aY P 6 t,o8:=[] }
    | _=>some { agg:=false,size:=i.size,nU:=[],aN:=0,bB:=0,eD:=0,ln:=0,zero:=z.cells.toList.map ofConst,kind:=0,ik:=.i64,eqs:=aY P 6 t,o8:=[] }
   else none
  | none=>none
 | _,_=>none

def bp(P:Program)(tt:TT):Prop:=∀t ti,tt.lookup t=some ti->Az P t=some ti
theorem bp.of_map{P:Program}{tt:TT}(h:tt.map (fun p=>Az P p.1)=tt.map fun p=>some p.2):bp P tt:=by
 induction tt with
 | nil=>intro t ti h;cases h
 | cons p tt ih =>
  obtain⟨u,ui⟩:=p;simp only[List.map_cons,List.cons.injEq] at h;intro t ti hl;simp only[List.lookup_cons] at hl;split at hl
  ·rename_i he;cases hl;rw[eq_of_beq he];exact h.1
  ·exact ih h.2 t ti hl

def ev(s:List A):Operand->A
 | .tmp t=>s.getD t .af
 | .const v=>ofConst v
 | .func f=>.fn f []
 | .global _=>.af

section
variable {c:Ctx} {s:List A} {m:List aq} {a:Act} {w:World} {ids:dE} {P:Program}

theorem aF.ev(hs:aF c s m a w ids)(x:Operand):Rel ids (au c ids w) w (ev s x) (a.eval x):=by
 cases x with
 | tmp t =>
  show Rel ids _ w (s.getD t .af) (a.tmps.getD t undef);by_cases h:t<s.length
  ·have h':t<a.tmps.size:=by rw[hs.len];exact h
   have:=hs.bI t h h';simpa[List.getD_eq_getElem?_getD,h,Array.getD_eq_getD_getElem?,h'] using this
  ·simp[List.getD_eq_getElem?_getD,List.getElem?_eq_none (Nat.le_of_not_lt h)];exact .aI (.af _)
 | const v=>exact .aI (eE _ _ v)
 | global g=>exact .aI (.af _)
 | func f=>exact .aI (.fn f [] [] rfl (fun j h=>absurd h (Nat.not_lt_zero _)))

theorem aF.put(hs:aF c s m a w ids)(d:Nat){x:A}{v:Value}(hv:Rel ids (au c ids w) w x v):aF c (s.set d x) m (a.put (some d) v) w ids where
 defers:=hs.defers
 len:=by simp[Act.put,hs.len]
 bI:=by
  intro i h h';simp only[List.length_set] at h;have h2:i<a.tmps.size:=by rw[hs.len];exact h
  simp only[Act.put] at h' ⊢;rw[List.getElem_set,Array.getElem_setIfInBounds (by simpa using h2)];split
  ·exact hv
  ·exact hs.bI i h h2
 aL:=hs.aL
 bC:=hs.bC
 aj:=hs.aj
 ar:=hs.ar
 frame:=hs.frame
 dZ:=hs.dZ
 cE:=hs.cE

def bf(s:List A):Option Nat->A->List A
 | some d,x=>s.set d x
 | none,_=>s
theorem aF.bf(hs:aF c s m a w ids)(d:Option Nat){x:A}{v:Value}(hv:Rel ids (au c ids w) w x v):aF c (bf s d x) m (a.put d v) w ids:=by
 cases d with
 | none=>exact hs
 | some d=>exact hs.put d hv
theorem aR{o:Oper}{next:Act->World->Prop}{Q:Exit->Act->World->Prop}{v:Value}{w':World}
  (h:(execOp a.eval o).run P w=.ok (.value v) w') (hn:next (a.put o.dst v) w'):o.wp P a w next Q:=by
 unfold Oper.wp;rw[h];exact hn
theorem gS{o:Oper}{next:Act->World->Prop}{Q:Exit->Act->World->Prop}{w':World}
  (h:(execOp a.eval o).run P w=.ok .skip w') (hn:next (a.put o.dst undef) w'):o.wp P a w next Q:=by
 unfold Oper.wp;rw[h];exact hn
end
section
variable {c:Ctx} {s:List A} {m:List aq} {a:Act} {w w':World} {ids ab:dE} {P:Program} {im bo:Nat->Prop}

theorem nI.mono(hi:∀b,im b->bo b)(hw:∀b,im b->w'.heap[b]?=w.heap[b]?){aN:TypeId}{sz n:Nat}{row:Nat->List A}{v:Value}{x:Option Nat}
  (hx:∀k,x=some k->w'.heap[k]?=w.heap[k]?) (h:nI im w aN sz n row v x):nI bo w' aN sz n row v x:=by
 rcases h with h|⟨q,cap,vs,h1,h2,h3,h4,h5,h6,h7,h8⟩
 ·exact .inl h
 ·exact .inr ⟨q,cap,vs,h1,h2,by rw[hx q h2];exact h3,h4,h5,h6,h7,fun i j bV h h'=>⟨(h8 i j bV h h').1.mono hi hw,(h8 i j bV h h').2⟩⟩

theorem ET.up(hI:∀x v,aw im w x v->aw bo w' x v){agg:Bool}{sh:List KS}{has:List KC->Bool}{val:List KC->A}{r:Nat}(hr:w'.heap[r]?=w.heap[r]?)(h:ET im w agg sh has val r):ET bo w' agg sh has val r:=by
 obtain⟨es,clock,f,h1,h2,h3,h4,h5,h6⟩:=h;exact⟨es,clock,f,by rw[hr];exact h1,h2,h3,h4,fun i h=>hI _ _ (h5 i h),h6⟩
theorem mG(f:A->A){ty:TypeId}{agg:Bool}{sh:List KS}{n hi:Nat}{cs:List A}{jA:Nat->Nat}{has:Nat->List KC->Bool}{val:Nat->List KC->A}{p:Id}
  (hh:∀k,p.has k->w'.heap[k]?=w.heap[k]?) (hI:∀x v,aw im w x v->aw bo w' x v) (hf:∀x v,Rel ids im w x v->Rel ab bo w' (f x) v)
  (h:aX ids im w (.cM ty agg sh n hi cs jA has val) (.lv p)):aX ab bo w' (.cM ty agg sh n hi (cs.map f) jA has val) (.lv p):=by
 obtain⟨g1,g2,g3,vs,h1,h2,h3,h4,kb,h5⟩:=h;refine⟨g1,g2,g3,vs,by rw[hh _ (.inl rfl)];exact h1,h2,h3,fun j h h'=>?_,kb,fun i bV hv=>?_⟩
 ·rw[List.getElem_map];exact hf _ _ (h4 j (by simpa using h) h')
 ·obtain⟨k0,k1⟩:=h5 i bV hv;rw[List.length_map];refine⟨k0,fun hl=>⟨(k1 hl).1,fun e=>?_⟩⟩;obtain⟨q1,q2,q3,q4⟩:=(k1 hl).2 e;exact⟨q1,q2,q3.up hI (hh _ (.inr q2)),q4⟩
theorem qj{ty:TypeId}{agg:Bool}{sh:List KS}{n hi:Nat}{cs:List A}{jA:Nat->Nat}{has:Nat->List KC->Bool}{val:Nat->List KC->A}{p:Id}
  (hh:∀k,p.has k->w'.heap[k]?=w.heap[k]?) (hI:∀x v,aw im w x v->aw bo w' x v) (hf:∀x v,Rel ids im w x v->Rel ab bo w' x v)
  (h:aX ids im w (.cM ty agg sh n hi cs jA has val) (.lv p)):aX ab bo w' (.cM ty agg sh n hi cs jA has val) (.lv p):=by
 have:=mG id hh hI hf h;rw[List.map_id] at this;exact this
theorem aX.mono(hi:∀b,im b->bo b)(hw:∀b,im b->w'.heap[b]?=w.heap[b]?)(hd:∀(b:Nat) p,ids[b]?=some p->p≠.dead->ab[b]?=some p)
  {x:aq} {p:dT} (hp:∀q,p=.lv q->∀k,q.has k->w'.heap[k]?=w.heap[k]?) (h:aX ids im w x p):aX ab bo w' x p:=by
 cases x with
 | dead=>exact h
 | gone=>exact h
 | box ty cs =>
  cases p with
  | dead=>exact h
  | av=>exact h
  | aQ=>exact h
  | cE vs=>exact h
  | lv q =>
   obtain⟨vs,h1,h2,h3,h4⟩:=h;exact⟨vs,by rw[hp _ rfl _ (.inl rfl)];exact h1,h2,h3,fun j h h'=>⟨(h4 j h h').1.mono hi hw hd,(h4 j h h').2⟩⟩
 | row ty sz n row =>
  cases p with
  | dead=>exact h
  | av=>exact h
  | aQ=>exact h
  | cE vs=>exact h
  | lv q =>
   obtain⟨g1,g2,vs,h1,h2,h3,h4,h5⟩:=h;exact⟨g1,g2,vs,by rw[hp _ rfl _ (.inl rfl)];exact h1,h2,h3,h4,fun i j bV h h'=>⟨(h5 i j bV h h').1.mono hi hw,(h5 i j bV h h').2⟩⟩
 | nest ty aN sz n hole len row =>
  cases p with
  | dead=>exact h
  | av=>exact h
  | aQ=>exact h
  | cE vs=>exact h
  | lv q =>
   obtain⟨g1,g2,g3,vs,h1,h2,h3,kb,h4⟩:=h;refine⟨g1,g2,g3,vs,by rw[hp _ rfl _ (.inl rfl)];exact h1,h2,h3,kb,fun i bV hh h=>?_⟩;obtain⟨k1,k2,k3⟩:=h4 i bV hh h;exact⟨k1.mono hi hw (fun x hx=>hp _ rfl _ (.inr (k2 x hx))),k2,k3⟩
 | eP agg sh has val =>
  cases p with
  | dead=>exact h
  | av=>exact h
  | aQ=>exact h
  | cE vs=>exact h
  | lv q =>
   obtain⟨es,clock,f,h1,h2,h3,h4,h5,h6⟩:=h;exact⟨es,clock,f,by rw[hp _ rfl _ (.inl rfl)];exact h1,h2,h3,h4,fun i h=>(h5 i h).mono hi hw,h6⟩
 | o7 agg sh has val =>
  cases p with
  | dead=>exact h
  | av=>exact h
  | aQ=>exact h
  | cE vs=>exact h
  | lv q =>
   obtain⟨es,clock,f,h1,h2,h3,h4,h5,h6⟩:=h;exact⟨es,clock,f,by rw[hp _ rfl _ (.inl rfl)];exact h1,h2,h3,h4,fun i h=>(h5 i h).mono hi hw,h6⟩
 | GB agg sh has val seen =>
  cases p with
  | dead=>exact h
  | av=>exact h
  | aQ=>exact h
  | cE vs=>exact h
  | lv q =>
   obtain⟨r,es,clock,f,sb,h1,h2,h3,h4,h5,h6,h7,h8⟩:=h;exact⟨r,es,clock,f,sb,by rw[hp _ rfl _ (.inl rfl)];exact h1,hi _ h2,by rw[hw _ h2];exact h3,h4,h5,h6,fun i h=>(h7 i h).mono hi hw,h8⟩
 | cM ty agg sh n dB cs jA has val =>
  cases p with
  | dead=>exact h
  | av=>exact h
  | aQ=>exact h
  | cE vs=>exact h
  | lv q=>exact qj (hp _ rfl) (fun _ _ h=>h.mono hi hw) (fun _ _ h=>h.mono hi hw hd) h
 | bF ty sz n Φ =>
  cases p with
  | dead=>exact h
  | av=>exact h
  | aQ=>exact h
  | cE vs=>exact h
  | lv q =>
   obtain⟨row,h0,g1,g2,vs,h1,h2,h3,h4,h5⟩:=h;exact⟨row,h0,g1,g2,vs,by rw[hp _ rfl _ (.inl rfl)];exact h1,h2,h3,h4,fun i j bV h h'=>⟨(h5 i j bV h h').1.mono hi hw,(h5 i j bV h h').2⟩⟩
 | ghost cs =>
  cases p with
  | dead=>exact h
  | av=>exact h
  | aQ=>exact h
  | lv q=>exact h
  | cE vs=>exact⟨h.1,fun j h1 h2=>(h.2 j h1 h2).mono hi hw hd⟩

theorem cB(hs:aF c s m a w ids){b:Nat}(h:au c ids w b):b<w.heap.size:=by
 rcases h with h|⟨_,h,_⟩
 ·exact Nat.lt_of_lt_of_le (hs.dZ b h).1 hs.frame.size
 ·exact h

theorem aF.grow(hs:aF c s m a w ids)(hw:Bw w.heap.size w w')(bs:List aq)(js:dE)(hl:js.length=bs.length)
  (hb:∀i (h:i<bs.length) (h':i<js.length),aX (ids++js) (au c (ids++js) w') w' bs[i] js[i])
  (hf:∀p,dT.lv p∈js->∀x,p.has x->w.heap.size<=x/\x<w'.heap.size)
  (hg:∀vs,dT.cE vs∉js)
  (hd:∀(i j:Nat) p q x,js[i]?=some (.lv p)->js[j]?=some (.lv q)->p.has x->q.has x->i=j):aF c s (m++bs) a w' (ids++js):=by
 have hi:∀b,au c ids w b->au c (ids++js) w' b:=by
  intro b h;rcases h with h|⟨h1,h2,h3⟩
  ·exact .inl h
  ·refine .inr ⟨h1,Nat.lt_of_lt_of_le h2 hw.size,fun p hp=>?_⟩;rcases List.mem_append.1 hp with hp|hp
   ·exact h3 p hp
   ·intro hx;have:=(hf p hp b hx).1;omega
 have hh:∀b,au c ids w b->w'.heap[b]?=w.heap[b]?:=fun b h=>hw.block b (cB hs h)
 have hx:∀(b:Nat) p,ids[b]?=some p->p≠.dead->(ids++js)[b]?=some p:=by
  intro b p h _
  have:b<ids.length:=by
   rcases Nat.lt_or_ge b ids.length with h'|h'
   ·exact h'
   ·rw[List.getElem?_eq_none h'] at h;cases h
  rw[List.getElem?_append_left this];exact h
 refine⟨hs.defers,hs.len,fun i h h'=>(hs.bI i h h').mono hi hh hx,by simp[hs.aL,hl],?_,?_,?_,?_,hs.dZ,?_⟩
 ·intro b h h';by_cases aD:b<m.length
  ·have h1:b<ids.length:=by rw[hs.aL];exact aD
   rw[List.getElem_append_left aD,List.getElem_append_left h1];refine(hs.bC b aD h1).mono hi hh hx ?_;intro q hq k hk;exact hw.block _ (hs.ar q (by rw[<-hq];exact List.getElem_mem _) k hk).2
  ·have h1:ids.length<=b:=by rw[hs.aL];omega
   rw[List.getElem_append_right (by omega),List.getElem_append_right h1];have:=hb (b-m.length) (by simp at h;omega) (by simp at h';rw[hs.aL] at h';omega);have he:b-ids.length=b-m.length:=by rw[hs.aL]
   simpa only[he] using this
 ·intro i j p q x h1 h2 h3 EW;rcases Nat.lt_or_ge i ids.length with bV|bV<;>rcases Nat.lt_or_ge j ids.length with cj|cj
  ·rw[List.getElem?_append_left bV] at h1;rw[List.getElem?_append_left cj] at h2;exact hs.aj i j p q x h1 h2 h3 EW
  ·rw[List.getElem?_append_left bV] at h1;rw[List.getElem?_append_right cj] at h2;have a1:=(hs.ar p (List.mem_of_getElem? h1) x h3).2;have a2:=(hf q (List.mem_of_getElem? h2) x EW).1;omega
  ·rw[List.getElem?_append_right bV] at h1;rw[List.getElem?_append_left cj] at h2;have a1:=(hs.ar q (List.mem_of_getElem? h2) x EW).2;have a2:=(hf p (List.mem_of_getElem? h1) x h3).1;omega
  ·rw[List.getElem?_append_right bV] at h1;rw[List.getElem?_append_right cj] at h2;have:=hd _ _ p q x h1 h2 h3 EW;omega
 ·intro p hp x hx;rcases List.mem_append.1 hp with hp|hp
  ·have:=hs.ar p hp x hx;exact⟨this.1,Nat.lt_of_lt_of_le this.2 hw.size⟩
  ·have:=hf p hp x hx;exact⟨.inl (Nat.le_trans hs.frame.size this.1),this.2⟩
 ·exact hs.frame.trans (hw.mono hs.frame.size)
 ·intro vs h;rcases List.mem_append.1 h with h|h
  ·exact hs.cE vs h
  ·exact absurd h (hg vs)

/-- A world that only counts draws, and nothing of ours. -/
theorem aF.same(hs:aF c s m a w ids)(hw:Bw w.heap.size w w'):aF c s m a w' ids:=by
 have:=hs.grow hw [] [] rfl (fun i h=>absurd h (Nat.not_lt_zero _)) (fun p h=>by cases h) (fun vs h=>by cases h) (fun i j p q x h=>by simp at h);simpa using this

theorem jE(w:World)(o:Obj):Bw w.heap.size w (w.alloc o):=by
 have h:=(Below.refl w.heap.size w).alloc (Nat.le_refl _) o;exact⟨h.os,h.tape,h.output,h.size,h.block,eM.refl _⟩
/-- A new block of cells. -/
theorem aF.alloc(hs:aF c s m a w ids)(x:aq)(vs:Array Value)(ty:TypeId)(n sz:Nat)
  (hx:∀ab bo w',(∀b,au c ids w b->bo b)->(∀b,au c ids w b->w'.heap[b]?=w.heap[b]?)->(∀(b:Nat) p,ids[b]?=some p->p≠.dead->ab[b]?=some p) ->
   w'.heap[w.heap.size]?=some (.cells vs ty (0,0))->aX ab bo w' x (.lv (mkId w.heap.size vs.size n sz))) :
  aF c s (m++[x]) a (w.alloc (.cells vs ty)) (ids++[.lv (mkId w.heap.size vs.size n sz)]):=by
 have hb:=jE w (.cells vs ty);refine hs.grow hb [x] [.lv (mkId w.heap.size vs.size n sz)] rfl ?_ ?_ (fun vs h=>by simp at h) ?_
 ·intro i h h';have:i=0:=by simp at h;omega
  subst this;refine hx _ _ _ ?_ ?_ ?_ ?_
  ·intro b h;have aD:=cB hs h;rcases h with h|⟨h1,h2,h3⟩
   ·exact .inl h
   ·refine .inr ⟨h1,Nat.lt_of_lt_of_le h2 hb.size,fun p hp=>?_⟩;rcases List.mem_append.1 hp with hp|hp
    ·exact h3 p hp
    ·simp at hp;subst hp;intro hx;have:=cw hx;omega
  ·exact fun b h=>hb.block b (cB hs h)
  ·intro b p h _
   have:b<ids.length:=by
    rcases Nat.lt_or_ge b ids.length with h'|h'
    ·exact h'
    ·rw[List.getElem?_eq_none h'] at h;cases h
   rw[List.getElem?_append_left this];exact h
  ·show(w.heap.push _)[w.heap.size]?=_;simp
 ·intro p hp x hx;simp at hp;subst hp;have:=cw hx;subst this;show w.heap.size<=w.heap.size/\w.heap.size<(w.heap.push _).size;simp
 ·intro i j p q x h1 h2 h3 EW
  have e1:i=0:=by
   rcases Nat.eq_zero_or_pos i with h|h
   ·exact h
   ·rw[List.getElem?_eq_none (by simp;omega)] at h1;cases h1
  have e2:j=0:=by
   rcases Nat.eq_zero_or_pos j with h|h
   ·exact h
   ·rw[List.getElem?_eq_none (by simp;omega)] at h2;cases h2
  omega
end
section
variable {c:Ctx} {s:List A} {m:List aq} {a:Act} {w w':World} {ids ab:dE} {P:Program} {im bo:Nat->Prop}

/-- A block of ours is written. -/
theorem aF.setRow(hs:aF c s m a w ids)(b:Nat)(p:Id)(bZ:ids[b]?=some (.lv p))(x:aq)(Kr vs:Array Value)(ty:TypeId)
  (hold:w.heap[p.ao]?=some (.cells Kr ty (0,0)))
  (hx:(w.setRow p.ao vs).heap[p.ao]?=some (.cells vs ty (0,0))->(∀a v,Rel ids (au c ids w) w a v->Rel ids (au c ids (w.setRow p.ao vs)) (w.setRow p.ao vs) a v) ->
   (∀a v,aw (au c ids w) w a v->aw (au c ids (w.setRow p.ao vs)) (w.setRow p.ao vs) a v) ->
   aX ids (au c ids (w.setRow p.ao vs)) (w.setRow p.ao vs) x (.lv p)) :
  aF c s (m.set b x) a (w.setRow p.ao vs) ids:=by
 have bL:(w.setRow p.ao vs).heap.size=w.heap.size:=by simp[World.setRow]
 have jK:dT.lv p∈ids:=List.mem_of_getElem? bZ;have GC:=hs.fresh _ jK
 have Xz:∀b',au c ids w b'->b'≠p.ao:=by
  intro b' h;rcases h with h|⟨_,_,h3⟩
  ·rintro rfl;exact hs.pJ h GC.1
  ·exact fun e=>h3 _ jK (.inl e)
 have nC:∀b',au c ids w b'->au c ids (w.setRow p.ao vs) b':=by
  intro b' h;rcases h with h|⟨h1,h2,h3⟩
  ·exact .inl h
  ·exact .inr ⟨h1,by rw[bL];exact h2,h3⟩
 have hh:∀b',au c ids w b'->(w.setRow p.ao vs).heap[b']?=w.heap[b']?:=fun b' h=>setRow_other w p.ao b' vs (Xz b' h)
 have hrel:∀a v,Rel ids (au c ids w) w a v->Rel ids (au c ids (w.setRow p.ao vs)) (w.setRow p.ao vs) a v :=
  fun a v h=>h.mono nC hh (fun _ _ h _=>h)
 refine⟨hs.defers,hs.len,fun i h h'=>hrel _ _ (hs.bI i h h'),by simp[hs.aL],?_,hs.aj,?_,?_,hs.dZ,hs.cE⟩
 ·intro i h h';simp only[List.length_set] at h;rw[List.getElem_set];split
  ·rename_i he;subst he
   have:ids[b]=.lv p:=by
    rw[List.getElem?_eq_getElem h'] at bZ;exact Option.some.inj bZ
   rw[this];exact hx (setRow_heap w p.ao Kr vs ty _ hold) hrel (fun a v h=>h.mono nC hh)
  ·rename_i he;refine(hs.bC i h h').mono nC hh (fun _ _ h _=>h) ?_;intro q hq k hk;refine setRow_other w p.ao _ vs ?_;intro e;exact he (hs.aj b i p q k bZ (by rw[List.getElem?_eq_getElem h',hq]) (.inl e) hk)
 ·intro p' hp x hx;rw[bL];exact hs.ar p' hp x hx
 ·refine hs.frame.go rfl rfl rfl (by rw[bL];exact Nat.le_refl _) (fun k hk hm=>setRow_other w p.ao k vs ?_);rintro rfl;rcases GC.1 with h|h
  ·omega
  ·exact hm h

theorem aF.eF(hs:aF c s m a w ids){b:Nat}{p:Id}(bZ:ids[b]?=some (.lv p)):∃x,m[b]?=some x/\aX ids (au c ids w) w x (.lv p):=by
 have h:b<ids.length:=by
  rcases Nat.lt_or_ge b ids.length with h'|h'
  ·exact h'
  ·rw[List.getElem?_eq_none h'] at bZ;cases bZ
 have h2:b<m.length:=by rw[<-hs.aL];exact h
 refine⟨m[b],List.getElem?_eq_getElem h2,?_⟩;have:=hs.bC b h2 h;rw[List.getElem?_eq_getElem h] at bZ;rw[<-Option.some.inj bZ];exact this
end
def fv(a:A)(K:A->Prop):Prop :=
 match a with
 | .int k n=>K (.int k n)
 | .bool b=>K (.bool b)
 | .sb b=>K (.sb b)
 | .str s=>K (.str s)
 | .gH=>K .gH
 | .ref b o=>K (.ref b o)
 | .oref b i o=>K (.oref b i o)
 | .bref c o=>K (.bref c o)
 | .aV=>K .aV
 | .sl n z r=>K (.sl n z r)
 | .own b=>K (.own b)
 | .agg c=>K (.agg c)
 | .tup c=>K (.tup c)
 | .fn f c=>K (.fn f c)
 | .bz=>K .bz
 | .fU=>K .fU
 | .mv g n k v=>K (.mv g n k v)
 | .omap b=>K (.omap b)
 | .qZ b k=>K (.qZ b k)
 | .nw b k=>K (.nw b k)
 | .af=>K .af
theorem dp(a:A)(K:A->Prop):fv a K=K a:=by cases a<;>rfl
def fl:List A->(List A->Prop)->Prop
 | [],K=>K []
 | a::as,K=>fv a fun a'=>fl as fun jl=>K (a'::jl)
theorem ck:∀(l:List A) (K:List A->Prop),fl l K=K l
 | [],_=>rfl
 | a::as,K=>by simp only[fl,dp,ck as]
def xC:List A->Nat->A->(List A->Prop)->Prop
 | [],_,_,K=>K []
 | _::xs,0,v,K=>K (v::xs)
 | x::xs,i+1,v,K=>xC xs i v fun ys=>K (x::ys)
theorem gB:∀(l:List A) (i:Nat) (v:A) (K:List A->Prop),xC l i v K=K (l.set i v)
 | [],_,_,_=>rfl
 | _::_,0,_,_=>rfl
 | x::xs,i+1,v,K=>by simp only[xC,gB xs,List.set_cons_succ]
def qk:List aq->Nat->aq->(List aq->Prop)->Prop
 | [],_,_,K=>K []
 | _::xs,0,v,K=>K (v::xs)
 | x::xs,i+1,v,K=>qk xs i v fun ys=>K (x::ys)
theorem eQ:∀(l:List aq) (i:Nat) (v:aq) (K:List aq->Prop),qk l i v K=K (l.set i v)
 | [],_,_,_=>rfl
 | _::_,0,_,_=>rfl
 | x::xs,i+1,v,K=>by simp only[qk,eQ xs,List.set_cons_succ]
def GD:List aq->aq->(List aq->Prop)->Prop
 | [],v,K=>K [v]
 | x::xs,v,K=>GD xs v fun ys=>K (x::ys)
theorem sQ:∀(l:List aq) (v:aq) (K:List aq->Prop),GD l v K=K (l++[v])
 | [],_,_=>rfl
 | x::xs,v,K=>by simp only[GD,sQ xs,List.cons_append]
def dz(n:Nat)(K:Nat->Prop):Prop :=
 match n with
 | 0=>K 0|1=>K 1|2=>K 2|3=>K 3|4=>K 4|5=>K 5|6=>K 6|7=>K 7|8=>K 8|9=>K 9
 | 10=>K 10|11=>K 11|12=>K 12|13=>K 13|14=>K 14|15=>K 15|16=>K 16|17=>K 17|18=>K 18|19=>K 19
 | n+20=>K (n+20)
theorem aO(n:Nat)(K:Nat->Prop):dz n K=K n:=by
 unfold dz;split<;>rfl
def lL(m:List aq)(x:aq)(K:Nat->List aq->Prop):Prop:=dz m.length fun n=>GD m x fun m'=>K n m'
theorem fG(m:List aq)(x:aq)(K:Nat->List aq->Prop):lL m x K=K m.length (m++[x]):=by
 simp only[lL,aO,sQ]
def iv:Nat->List A->List A
 | 0,_=>[]
 | _,[]=>[]
 | n+1,x::xs=>x::iv n xs
theorem ku:∀(n:Nat) (l:List A),iv n l=l.take n
 | 0,l=>by simp[iv]
 | n+1,[]=>by simp[iv]
 | n+1,x::xs=>by simp[iv,ku n xs]

/-- One cell: neither parts nor a value of which nothing is known. -/
def one:A->Bool
 | .agg _=>false
 | .tup _=>false
 | .af=>false
 | _=>true
/-- The cells of a value. -/
def lq:A->Option (List A)
 | .agg cs=>some cs
 | .tup _=>none
 | .af=>none
 | v=>some [v]

def cL:Nat->A->Bool
 | 0,_=>true
 | d+1,x=>match x with
  | .ref _ _=>true
  | .oref _ _ _=>true
  | .own _=>true
  | .omap _=>true
  | .qZ _ _=>true
  | .nw _ _=>true
  | .agg cs=>cs.any (cL d)
  | .tup cs=>cs.any (cL d)
  | .fn _ cs=>cs.any (cL d)
  | _=>false

abbrev KT:=A->List aq->Prop

def Ks(agg:Bool)(size:Nat)(cs:List A)(off:Nat)(K:A->Prop):Prop :=
 match agg with
 | true=>match Nat.ble (off+size) cs.length with
  | true=>fl (iv size (cs.drop off)) fun c=>K (.agg c)
  | false=>False
 | false=>match Nat.blt off cs.length with
  | true=>fv (cs.getD off .af) K
  | false=>False
def re(cs:List A)(off:Nat)(vs:List A):List A:=cs.take off++vs++cs.drop (off+vs.length)
def gy(row:Nat->List A)(i:Nat)(cs:List A):Nat->List A:=fun j=>if j=i then cs else row j
def LI(size:Nat)(cs:List A)(off:Nat)(v:A)(K:List A->Prop):Prop :=
 match lq v with
 | some vs=>match Nat.beq vs.length size,Nat.ble (off+size) cs.length with
  | true,true=>fl (re cs off vs) K
  | _,_=>False
 | none=>False

def lM(tt:TT)(t:TypeId)(p:A)(m:List aq)(K:KT):Prop :=
 match tt.lookup t with
 | none=>False
 | some ti=>match p with
  | .ref b off=>match m.getD b .dead with
   | .box _ cs=>Ks ti.agg ti.size cs off fun v=>K v m
   | _=>False
  | .oref b i off=>match m.getD b .dead with
   | .row _ _ n row=>i<n/\fl (row i) fun cs=>Ks ti.agg ti.size cs off fun v=>K v m
   | _=>False
  | .bref cs off=>Ks ti.agg ti.size cs off fun v=>K v m
  | _=>False
def ue(tt:TT)(t:TypeId)(p v:A)(m:List aq)(K:KT):Prop :=
 match tt.lookup t with
 | none=>False
 | some ti=>match p with
  | .ref b off=>match m.getD b .dead with
   | .box ty cs=>LI ti.size cs off v fun db=>qk m b (.box ty db) fun m'=>K .af m'
   | _=>False
  | .oref b i off=>match m.getD b .dead with
   | .row ty sz n row=>match cL 4 v with
    | false=>i<n/\fl (row i) fun cs=>LI ti.size cs off v fun db=>qk m b (.row ty sz n (gy row i db)) fun m'=>K .af m'
    | true=>False
   | _=>False
  | _=>False
def gT(tt:TT)(t:TypeId)(p:A)(f:Nat)(m:List aq)(K:KT):Prop :=
 match tt.lookup t with
 | none=>False
 | some ti=>match ti.kind with
  | 1=>match ti.nU[f]? with
   | none=>False
   | some (fo,_)=>match p with
    | .ref b off=>dz (off+fo) fun o=>K (.ref b o) m
    | .oref b i off=>dz (off+fo) fun o=>K (.oref b i o) m
    | .bref cs off=>dz (off+fo) fun o=>K (.bref cs o) m
    | _=>False
  | _=>False
def eG(tt:TT)(t:TypeId)(p ix:A)(m:List aq)(K:KT):Prop :=
 match tt.lookup t with
 | none=>False
 | some ti=>match ti.kind,ix with
  | 3,.int _ i=>match p with
   | .sl n sz row=>match Nat.beq sz ti.bB with
    | true=>(0<=i/\i<(n:Int))/\fl (row i.toNat) fun cs=>K (.bref cs 0) m
    | false=>False
   | .own b=>match m.getD b .dead with
    | .row _ sz n _=>match Nat.beq sz ti.bB with
     | true=>(0<=i/\i<(n:Int))/\K (.oref b i.toNat 0) m
     | false=>False
    | _=>False
   | _=>False
  | 2,.int _ i=>match p with
   | .ref b off=>(0<=i/\i<(ti.ln:Int))/\dz (off+i.toNat*ti.bB) fun o=>K (.ref b o) m
   | .bref cs off=>(0<=i/\i<(ti.ln:Int))/\dz (off+i.toNat*ti.bB) fun o=>K (.bref cs o) m
   | _=>False
  | _,_=>False
def placeOf(ti:TI)(i:Nat):Option (Nat×Nat) :=
 match ti.kind with
 | 1=>ti.nU[i]?
 | _=>some (i*ti.bB,ti.bB)
def nV(ti:TI):List (Nat×A)->List A->(List A->Prop)->Prop
 | [],cs,K=>K cs
 | (i,v)::ps,cs,K=>match placeOf ti i,lq v with
  | some (off,size),some vs=>match Nat.beq vs.length size,Nat.ble (off+size) cs.length with
   | true,true=>fl (re cs off vs) fun db=>nV ti ps db K
   | _,_=>False
  | _,_=>False
def ql(tt:TT)(t:TypeId)(parts:List (Nat×A))(m:List aq)(K:KT):Prop :=
 match tt.lookup t with
 | none=>False
 | some ti=>match ti.kind with
  | 1=>nV ti parts ti.zero fun cs=>K (.agg cs) m
  | 2=>nV ti parts ti.zero fun cs=>K (.agg cs) m
  | _=>False
def Ry(t:TypeId)(v:A)(m:List aq)(K:KT):Prop :=
 match lq v with
 | some cs=>lL m (.box t cs) fun b m'=>K (.ref b 0) m'
 | none=>False
def CT(tt:TT)(t:TypeId)(m:List aq)(K:KT):Prop :=
 match tt.lookup t with
 | some ti=>lL m (.box t ti.zero) fun b m'=>K (.ref b 0) m'
 | none=>False
/-- A number that is wrapped, unless it is known to fit. -/
@[irreducible] def WR (k:IntKind) (n:Int) (K:A->Prop):Prop:=(k.wrap n=n/\K (.int k n))\/K (.int k (k.wrap n))
theorem mH{k:IntKind}{n:Int}{K:A->Prop}(h:WR k n K):K (.int k (k.wrap n)):=by
 unfold WR at h;rcases h with⟨h1,h2⟩|h
 ·rw[h1];exact h2
 ·exact h
theorem cU{k:IntKind}{n:Int}{K:A->Prop}(h1:k.wrap n=n)(h2:K (.int k n)):WR k n K:=by unfold WR;exact .inl ⟨h1,h2⟩
theorem cr{k:IntKind}{n:Int}{K:A->Prop}(h:K (.int k (k.wrap n))):WR k n K:=by unfold WR;exact .inr h
theorem cV{n:Int}(h : -9223372036854775808<=n/\n<=9223372036854775807):IntKind.i64.wrap n=n:=by rw[IntKind.wrap_i64];omega
theorem cW{n:Int}(h:0<=n/\n<=18446744073709551615):IntKind.u64.wrap n=n:=by rw[IntKind.wrap_u64];omega
theorem fg{n:Int}(h:0<=n/\n<=255):IntKind.u8.wrap n=n:=by rw[IntKind.wrap_u8];omega
def o9(op:BinOp)(k:IntKind)(a b:Int)(K:A->Prop):Prop :=
 match op with
 | .add=>WR k (a+b) K
 | .sub=>WR k (a-b) K
 | .mul=>WR k (a*b) K
 | .quo=>b≠0/\WR k (a.tdiv b) K
 | .rem=>b≠0/\K (.int k (a.tmod b))
 | .and=>K (.int k (k.wrap (BitVec.ofInt k.bits a &&& BitVec.ofInt k.bits b).toNat))
 | .or=>K (.int k (k.wrap (BitVec.ofInt k.bits a ||| BitVec.ofInt k.bits b).toNat))
 | .xor=>K (.int k (k.wrap (BitVec.ofInt k.bits a ^^^ BitVec.ofInt k.bits b).toNat))
 | .andNot=>K (.int k (k.wrap (BitVec.ofInt k.bits a &&& ~~~BitVec.ofInt k.bits b).toNat))
 | .eql=>K (.sb (a==b))
 | .neq=>K (.sb (a != b))
 | .lss=>K (.sb (decide (a<b)))
 | .leq=>K (.sb (decide (a<=b)))
 | .gtr=>K (.sb (decide (b<a)))
 | .geq=>K (.sb (decide (b<=a)))
 | _=>False
def pd(op:BinOp)(a b:List UInt8)(K:A->Prop):Prop :=
 match op with
 | .add=>a.length+b.length<=9223372036854775807/\K (.str (a++b))
 | .eql=>K (.sb (a==b))
 | .neq=>K (.sb !(a==b))
 | .lss=>K (.sb (Op.bytesLess a b))
 | .leq=>K (.sb (Op.bytesLess a b||a==b))
 | .gtr=>K (.sb !(Op.bytesLess a b||a==b))
 | .geq=>K (.sb !(Op.bytesLess a b))
 | _=>False
def uf(op:BinOp)(k:IntKind)(a b:Int)(K:A->Prop):Prop :=
 match op with
 | .shl=>0<=b/\WR k (a*2 ^ (min b.toNat k.bits)) K
 | .shr=>0<=b/\K (.int k (a.fdiv (2 ^ (min b.toNat k.bits))))
 | _=>False
def NI:BinOp->Bool
 | .shl=>true
 | .shr=>true
 | _=>false
def mI:IntKind->IntKind->Bool
 | .i8,.i8=>true|.i16,.i16=>true|.i32,.i32=>true|.i64,.i64=>true
 | .u8,.u8=>true|.u16,.u16=>true|.u32,.u32=>true|.u64,.u64=>true
 | _,_=>false
theorem jm{a b:IntKind}:mI a b=true↔a=b:=by cases a<;>cases b<;>simp[mI]
def Pe:A->Option Bool
 | .bool b=>some b
 | .sb b=>some b
 | _=>none
def yB:List Nat->List A->List A->(Bool->Prop)->Prop
 | [],[],[],K=>K true
 | k::ks,x::xs,y::ys,K=>match k with
  | 5=>match x,y with
   | .int p a,.int q b=>match mI p q with
    | true=>yB ks xs ys fun r=>K (a==b&&r)
    | false=>False
   | _,_=>False
  | 6=>match Pe x,Pe y with
   | some a,some b=>yB ks xs ys fun r=>K (a==b&&r)
   | _,_=>False
  | 4=>match x,y with
   | .str a,.str b=>yB ks xs ys fun r=>K (a==b&&r)
   | _,_=>False
  | _=>False
 | _,_,_,_=>False
/-- Is a pointer, or a map, nil? The type's kind, and the answer. -/
def Rz:A->A->Option (Nat×Bool)
 | .gH,.gH=>some (8,true)
 | .ref _ _,.gH=>some (8,false)
 | .oref _ _ _,.gH=>some (8,false)
 | .bref _ _,.gH=>some (8,false)
 | .fU,.fU=>some (7,true)
 | .omap _,.fU=>some (7,false)
 | .mv _ _ _ _,.fU=>some (7,false)
 | .bz,.bz=>some (9,true)
 | .fn _ _,.bz=>some (9,false)
 | _,_=>none
def Kt(tt:TT)(t:TypeId)(op:BinOp)(x y:A)(K:A->Prop):Prop :=
 match x,y with
 | .int k a,.int k' b=>match NI op with
  | true=>uf op k a b K
  | false=>match mI k k' with
   | true=>o9 op k a b K
   | false=>False
 | .str a,.str b=>pd op a b K
 | .agg cs,.agg db=>match tt.lookup t with
  | some ti=>match ti.agg,ti.eqs,op with
   | true,some sh,.eql=>yB sh cs db fun r=>K (.sb r)
   | true,some sh,.neq=>yB sh cs db fun r=>K (.sb !r)
   | _,_,_=>False
  | none=>False
 | x,y=>match Rz x y with
  | some (k,b)=>match tt.lookup t with
   | some ti=>match Nat.beq ti.kind k,op with
    | true,.eql=>K (.bool b)
    | true,.neq=>K (.bool !b)
    | _,_=>False
   | none=>False
  | none=>match Pe x,Pe y,tt.lookup t with
   | some a,some b,some ti=>match ti.kind,op with
    | 6,.eql=>K (.sb (a==b))
    | 6,.neq=>K (.sb !(a==b))
    | _,_=>False
   | _,_,_=>False
def UF(op:UnOp)(x:A)(K:A->Prop):Prop :=
 match op,x with
 | .not,.bool b=>K (.bool !b)
 | .not,.sb b=>K (.sb !b)
 | .neg,.int k n=>WR k (-n) K
 | _,_=>False
def VM(x y:A)(K:A->Prop):Prop :=
 match x,y with
 | .int k a,.int _ b=>K (.int k (if b<a then b else a))
 | _,_=>False
def VN(x y:A)(K:A->Prop):Prop :=
 match x,y with
 | .int k a,.int _ b=>K (.int k (if a<b then b else a))
 | _,_=>False
def AA(tt:TT)(t:TypeId)(x:A)(m:List aq)(K:A->Prop):Prop :=
 match tt.lookup t with
 | none=>False
 | some ti=>match ti.kind,x with
  | 3,.sl n _ _=>K (.int .i64 n)
  | 3,.own b=>match m.getD b .dead with
   | .row _ _ n _=>K (.int .i64 n)
   | _=>False
  | 3,.aV=>K (.int .i64 0)
  | 4,.str s=>K (.int .i64 s.length)
  | _,_=>False
def mJ(x:A)(ix:Nat)(K:A->Prop):Prop :=
 match x with
 | .tup vs=>match Nat.blt ix vs.length with
  | true=>fv (vs.getD ix .af) K
  | false=>False
 | _=>False
def Ku(x:A)(K:A->Prop):Prop :=
 match x with
 | .ref b o=>K (.ref b o)
 | .oref b i o=>K (.oref b i o)
 | .bref cs o=>K (.bref cs o)
 | .fn f cs=>K (.fn f cs)
 | _=>False
def Zk(k:IntKind)(K:IntKind->Prop):Prop :=
 match k with
 | .i8=>K .i8|.i16=>K .i16|.i32=>K .i32|.i64=>K .i64
 | .u8=>K .u8|.u16=>K .u16|.u32=>K .u32|.u64=>K .u64
theorem Kv(k:IntKind)(K:IntKind->Prop):Zk k K=K k:=by cases k<;>rfl
def vX(tt:TT)(src dst:TypeId)(x:A)(K:A->Prop):Prop :=
 match tt.lookup src,tt.lookup dst with
 | some _,some ti=>match ti.kind,x with
  | 5,.int _ n=>Zk ti.ik fun k=>WR k n K
  | 4,.str s=>K (.str s)
  | _,_=>False
 | _,_=>False
def ug(tt:TT)(t:TypeId)(x ix:A)(K:A->Prop):Prop :=
 match tt.lookup t,ix with
 | some ti,.int _ i=>match ti.kind,x with
  | 4,.str s=>(0<=i/\i<(s.length:Int))/\K (.int .u8 ((s.getD i.toNat 0).toNat:Int))
  | 2,.agg cs=>match tt.lookup ti.aN with
   | some te=>(0<=i/\i<(ti.ln:Int))/\Ks te.agg te.size cs (i.toNat*ti.bB) K
   | none=>False
  | _,_=>False
 | _,_=>False
def uh(tt:TT)(t:TypeId)(x:A)(f:Nat)(K:A->Prop):Prop :=
 match tt.lookup t with
 | none=>False
 | some ti=>match ti.kind,ti.nU[f]?,ti.o8[f]?,x with
  | 1,some (fo,_),some ft,.agg cs=>match tt.lookup ft with
   | some te=>Ks te.agg te.size cs fo K
   | none=>False
  | _,_,_,_=>False
def AB(x y z:A)(K:A->Prop):Prop :=
 match x with
 | .bool true=>fv y K
 | .bool false=>fv z K
 | .sb b=>(b=true->fv y K)/\(b=false->fv z K)
 | _=>False
section
variable {c:Ctx} {s:List A} {m:List aq} {a:Act} {w w':World} {ids ab:dE} {P:Program} {im bo:Nat->Prop} {tt:TT}
variable {next:Act->World->Prop} {Q:Exit->Act->World->Prop}

theorem CU{op:BinOp}{k:IntKind}{x y:Int}{t t':TypeId}{X Y:Operand}{o:Oper}{ρ:Operand->Value}(ho:o.op=.binOp op t X Y t')(hx:ρ X=.int k x)(hy:ρ Y=.int k y){K:A->Prop}
  (h:o9 op k x y K):∃r v,(execOp ρ o).run P w=.ok (.value v) w/\K r/\Rel ids im w r v:=by
 have e1:(execOp ρ o)=(do let z <-(do eqGuard op t X Y (.int k x) (.int k y);binOp op t (.int k x) (.int k y));pure (.value z)):=by
  unfold execOp;rw[ho];simp only[hx,hy]
 have e2:(eqGuard op t X Y (.int k x) (.int k y)).run P w=.ok () w:=by
  unfold eqGuard;cases op<;>rfl
 rw[e1];cases op<;>simp only[o9] at h<;>first|exact h.elim|skip
 case quo =>
  refine⟨_,.int k (k.wrap (x.tdiv y)),?_,mH h.2,.aI (.int _ _)⟩;simp[e2,binOp,Op.intDiv,h.1]
 case rem =>
  refine⟨_,.int k (x.tmod y),?_,h.2,.aI (.int _ _)⟩;simp[e2,binOp,Op.intDiv,h.1]
 case eql=>exact⟨_,.bool (x==y),by simp[e2,binOp,Op.intCmp],h,.aI (.sb _)⟩
 case neq=>exact⟨_,.bool (x != y),by simp[e2,binOp,Op.intCmp],h,.aI (.sb _)⟩
 case lss=>exact⟨_,.bool (decide (x<y)),by simp[e2,binOp,Op.intCmp],h,.aI (.sb _)⟩
 case leq=>exact⟨_,.bool (decide (x<=y)),by simp[e2,binOp,Op.intCmp],h,.aI (.sb _)⟩
 case gtr=>exact⟨_,.bool (decide (y<x)),by simp[e2,binOp,Op.intCmp],h,.aI (.sb _)⟩
 case geq=>exact⟨_,.bool (decide (y<=x)),by simp[e2,binOp,Op.intCmp],h,.aI (.sb _)⟩
 case add=>exact⟨_,.int k (k.wrap (x+y)),by simp[e2,binOp,Op.intArith],mH h,.aI (.int _ _)⟩
 case sub=>exact⟨_,.int k (k.wrap (x-y)),by simp[e2,binOp,Op.intArith],mH h,.aI (.int _ _)⟩
 case mul=>exact⟨_,.int k (k.wrap (x*y)),by simp[e2,binOp,Op.intArith],mH h,.aI (.int _ _)⟩
 case and=>exact⟨_,.int k (k.wrap (BitVec.ofInt k.bits x &&& BitVec.ofInt k.bits y).toNat),by simp[e2,binOp,Op.intBits],h,.aI (.int _ _)⟩
 case or=>exact⟨_,.int k (k.wrap (BitVec.ofInt k.bits x ||| BitVec.ofInt k.bits y).toNat),by simp[e2,binOp,Op.intBits],h,.aI (.int _ _)⟩
 case xor=>exact⟨_,.int k (k.wrap (BitVec.ofInt k.bits x ^^^ BitVec.ofInt k.bits y).toNat),by simp[e2,binOp,Op.intBits],h,.aI (.int _ _)⟩
 case andNot=>exact⟨_,.int k (k.wrap (BitVec.ofInt k.bits x &&& ~~~BitVec.ofInt k.bits y).toNat),by simp[e2,binOp,Op.intBits],h,.aI (.int _ _)⟩

theorem cZ(l:List UInt8):(ByteArray.mk l.toArray).toList=l:=by simp
theorem CV{op:BinOp}{x y:List UInt8}{t t':TypeId}{X Y:Operand}{o:Oper}{ρ:Operand->Value}(ho:o.op=.binOp op t X Y t')(hx:ρ X=.string ⟨x.toArray⟩)(hy:ρ Y=.string ⟨y.toArray⟩){K:A->Prop}
  (h:pd op x y K):∃r v,(execOp ρ o).run P w=.ok (.value v) w/\K r/\Rel ids im w r v:=by
 have e1:(execOp ρ o)=(do let z <-(do eqGuard op t X Y (.string ⟨x.toArray⟩) (.string ⟨y.toArray⟩);binOp op t (.string ⟨x.toArray⟩) (.string ⟨y.toArray⟩));pure (.value z)):=by
  unfold execOp;rw[ho];simp only[hx,hy]
 have e2:(eqGuard op t X Y (.string ⟨x.toArray⟩) (.string ⟨y.toArray⟩)).run P w=.ok () w:=by
  unfold eqGuard;cases op<;>rfl
 have e3:(binOp op t (.string ⟨x.toArray⟩) (.string ⟨y.toArray⟩))=Op.stringOp op ⟨x.toArray⟩ ⟨y.toArray⟩:=by
  cases op<;>rfl
 rw[e1,e3];cases op<;>simp only[pd] at h<;>first|exact h.elim|skip
 case add =>
  refine⟨_,.string ⟨(x++y).toArray⟩,?_,h.2,.aI (.str _)⟩
  have e4:¬(IntKind.i64.max<((x.length+y.length:Nat):Int)):=by
   have:IntKind.i64.max=9223372036854775807:=by decide
   rw[this];have:=h.1;omega
  have e6:(Op.stringOp .add ⟨x.toArray⟩ ⟨y.toArray⟩)=pure (.string ⟨(x++y).toArray⟩):=by
   unfold Op.stringOp;rw[if_neg (by simpa[ByteArray.size] using e4)]
   congr 2
  rw[e6];simp[e2]
 case eql=>exact⟨_,.bool (x==y),by simp only[Op.stringOp,cZ];simp[e2],h,.aI (.sb _)⟩
 case neq=>exact⟨_,.bool !(x==y),by simp only[Op.stringOp,cZ];simp[e2],h,.aI (.sb _)⟩
 case lss=>exact⟨_,.bool (Op.bytesLess x y),by simp only[Op.stringOp,cZ];simp[e2],h,.aI (.sb _)⟩
 case leq=>exact⟨_,.bool (Op.bytesLess x y||x==y),by simp only[Op.stringOp,cZ];simp[e2],h,.aI (.sb _)⟩
 case gtr=>exact⟨_,.bool !(Op.bytesLess x y||x==y),by simp only[Op.stringOp,cZ];simp[e2],h,.aI (.sb _)⟩
 case geq=>exact⟨_,.bool !(Op.bytesLess x y),by simp only[Op.stringOp,cZ];simp[e2],h,.aI (.sb _)⟩

theorem GF{op:BinOp}{k k':IntKind}{x y:Int}{t t':TypeId}{X Y:Operand}{o:Oper}{ρ:Operand->Value}(ho:o.op=.binOp op t X Y t')(hx:ρ X=.int k x)(hy:ρ Y=.int k' y){K:A->Prop}
  (h:uf op k x y K):∃r v,(execOp ρ o).run P w=.ok (.value v) w/\K r/\Rel ids im w r v:=by
 have e1:(execOp ρ o)=(do let z <-(do eqGuard op t X Y (.int k x) (.int k' y);binOp op t (.int k x) (.int k' y));pure (.value z)):=by
  unfold execOp;rw[ho];simp only[hx,hy]
 have e2:(eqGuard op t X Y (.int k x) (.int k' y)).run P w=.ok () w:=by
  unfold eqGuard;cases op<;>rfl
 rw[e1];cases op<;>simp only[uf] at h<;>first|exact h.elim|skip
 case shl=>exact⟨_,.int k (k.wrap (x*2 ^ (min y.toNat k.bits))),by simp[e2,binOp,Op.shift,Int.not_lt.2 h.1],mH h.2,.aI (.int _ _)⟩
 case shr=>exact⟨_,.int k (x.fdiv (2 ^ (min y.toNat k.bits))),by simp[e2,binOp,Op.shift,Int.not_lt.2 h.1],h.2,.aI (.int _ _)⟩

theorem RA{op:UnOp}{x:A}{t:TypeId}{X:Operand}{o:Oper}{ρ:Operand->Value}(ho:o.op=.unOp op t X)(hx:Rel ids im w x (ρ X)){K:A->Prop}
  (h:UF op x K):∃r v,(execOp ρ o).run P w=.ok (.value v) w/\K r/\Rel ids im w r v:=by
 have e1:(execOp ρ o)=(do let z <-Op.unary op (ρ X);pure (.value z)):=by unfold execOp;rw[ho]
 rw[e1];unfold UF at h;split at h
 ·rw[hx.dL];rename_i b;exact⟨_,.bool !b,by simp[Op.unary],h,.aI (.bool _)⟩
 ·rw[hx.iI];rename_i b;exact⟨_,.bool !b,by simp[Op.unary],h,.aI (.sb _)⟩
 ·rw[hx.bY];rename_i k n;exact⟨_,.int k (k.wrap (0-n)),by simp[Op.unary,Op.intArith],by have:=mH h;simpa using this,.aI (.int _ _)⟩
 ·exact h.elim

theorem bp.facts(aJ:bp P tt){t:TypeId}{ti:TI}(h:tt.lookup t=some ti):
  ∃i d z,P.info? t=some i/\P.underlying t=some d/\i.zero=some z/\i.size=ti.size/\(∀v∈z.cells.toList,v.oneCell'=true)/\z.cells.size=i.size /\
   ti.zero=z.cells.toList.map ofConst/\ti.agg=ee d /\
   (ti.kind=1->∃fs,d=.struct fs/\ti.nU=fs.toList.map fun f=>(f.offset,((P.info? f.type).map (·.size)).getD 0)) /\
   (ti.kind=1->∃fs,d=.struct fs/\fs.toList.all (fun f=>((P.info? f.type).map (·.size)).getD 0 != 0)=true) /\
   (ti.kind=2->∃ie,d=.array ti.ln ti.aN/\P.info? ti.aN=some ie/\ie.size=ti.bB) /\
   (ti.kind=3->∃ie ze,d=.slice ti.aN/\P.info? ti.aN=some ie/\ie.size=ti.bB/\ie.bytes=ti.eD/\ie.zero=some ze/\ze.cells.size=ti.bB/\ti.bB≠0) /\
   (ti.kind=5->d=.int ti.ik)/\(ti.kind=4->d=.string)/\ti.eqs=aY P 6 t/\(ti.kind=6->d=.bool):=by
 have:=aJ t ti h;unfold Az at this;split at this
 ·rename_i i d hi hd;split at this
  ·rename_i z hz;split at this
   ·rename_i hc;simp only[Bool.and_eq_true,List.all_eq_true,beq_iff_eq] at hc
    replace hc:=hc.2
    refine⟨i,d,z,hi,hd,hz,?_⟩;cases d
    case struct fs =>
     simp only at this;split at this
     ·rename_i gn;cases this;refine⟨rfl,hc.1,hc.2,rfl,rfl,fun _=>⟨fs,rfl,rfl⟩,fun _=>⟨fs,rfl,gn⟩,?_,?_,?_,?_,rfl,?_⟩<;>(intro hk;simp at hk)
     ·cases this
    case array n e =>
     simp only at this;split at this
     ·rename_i ie iT;cases this;refine⟨rfl,hc.1,hc.2,rfl,rfl,?_,?_,fun _=>⟨ie,rfl,iT,rfl⟩,?_,?_,?_,rfl,?_⟩<;>(intro hk;simp at hk)
     ·cases this
    case slice e =>
     simp only at this;split at this
     ·rename_i ie iT;split at this
      ·rename_i ze hze;split at this
       ·rename_i PO;cases this;simp only[Bool.and_eq_true,beq_iff_eq,bne_iff_ne] at PO;refine⟨rfl,hc.1,hc.2,rfl,rfl,?_,?_,?_,fun _=>⟨ie,ze,rfl,iT,rfl,rfl,hze,PO.1,PO.2⟩,?_,?_,rfl,?_⟩<;>(intro hk;simp at hk)
       ·cases this
      ·cases this
     ·cases this
    case tuple=>cases this
    case named=>cases this
    case int k =>
     cases this;refine⟨rfl,hc.1,hc.2,rfl,rfl,?_,?_,?_,?_,fun _=>rfl,?_,rfl,?_⟩<;>(intro hk;simp at hk)
    case string =>
     cases this;refine⟨rfl,hc.1,hc.2,rfl,rfl,?_,?_,?_,?_,?_,fun _=>rfl,rfl,?_⟩<;>(intro hk;simp at hk)
    case bool =>
     cases this;refine⟨rfl,hc.1,hc.2,rfl,rfl,?_,?_,?_,?_,?_,?_,rfl,fun _=>rfl⟩<;>(intro hk;simp at hk)
    all_goals
     cases this;refine⟨rfl,hc.1,hc.2,rfl,rfl,?_,?_,?_,?_,?_,?_,rfl,?_⟩<;>(intro hk;simp at hk)
   ·cases this
  ·cases this
 ·cases this

theorem bp.o8(aJ:bp P tt){t:TypeId}{ti:TI}(h:tt.lookup t=some ti)(hk:ti.kind=1):∃fs,P.underlying t=some (.struct fs)/\ti.o8=fs.toList.map (·.type)/\ti.nU=fs.toList.map fun f=>(f.offset,((P.info? f.type).map (·.size)).getD 0):=by
 have:=aJ t ti h;unfold Az at this;split at this
 ·rename_i i d hi hd;split at this
  ·rename_i z hz;split at this
   ·rename_i Hg;cases d
    case struct fs =>
     simp only at this;split at this
     ·cases this;exact⟨fs,hd,rfl,rfl⟩
     ·cases this
    case array n e =>
     simp only at this;split at this
     ·cases this;simp at hk
     ·cases this
    case slice e =>
     simp only at this;split at this
     ·split at this
      ·split at this
       ·cases this;simp at hk
       ·cases this
      ·cases this
     ·cases this
    case tuple=>cases this
    case named=>cases this
    all_goals (cases this;simp at hk)
   ·cases this
  ·cases this
 ·cases this
theorem bp.XA(aJ:bp P tt){t:TypeId}{ti:TI}(h:tt.lookup t=some ti):∃i d z,P.info? t=some i/\P.underlying t=some d/\i.zero=some z/\xB z=ee d:=by
 have:=aJ t ti h;unfold Az at this;split at this
 ·rename_i i d hi hd;split at this
  ·rename_i z hz;split at this
   ·rename_i hc;simp only[Bool.and_eq_true,beq_iff_eq] at hc;exact⟨i,d,z,hi,hd,hz,hc.1⟩
   ·cases this
  ·cases this
 ·cases this
/-- The zero of a type. -/
theorem bp.NJ(aJ:bp P tt){t:TypeId}{ti:TI}(h:tt.lookup t=some ti)(im:Nat->Prop)(w:World):
  ∃zv,(zeroValue t).run P w=.ok zv w/\(ti.agg=true->aw im w (.agg ti.zero) zv)/\(ti.agg=false->∃z,ti.zero=[z]/\aw im w z zv):=by
 obtain⟨i,d,z,hi,hd,hz,_,fV,_,hzero,NH,_⟩:=aJ.facts h;obtain⟨i',d',z',bV,gk,Bu,Hn⟩:=aJ.XA h;rw[hi] at bV;cases bV;rw[hd] at gk;cases gk;rw[hz] at Bu;cases Bu;refine⟨z,by simp[zeroValue,typeInfo,hi,hz],?_,?_⟩
 ·intro ha;rw[NH] at ha;rw[ha] at Hn;obtain⟨cs,rfl⟩:∃cs,z=.agg cs:=by cases z<;>first|exact⟨_,rfl⟩|simp[xB] at Hn
  have:=aw.agg (im:=im) (w:=w) (cs.toList.map ofConst) cs.toList (by simp) (fun v hv=>fV v hv) (fun j h h'=>by rw[List.getElem_map];exact eE _ _ _);rw[hzero];show aw im w (.agg (List.map ofConst cs.toList)) _;simpa using this
 ·intro ha;rw[NH] at ha;rw[ha] at Hn;have hc:z.cells = #[z]:=by cases z<;>first|rfl|simp[xB] at Hn
  exact⟨ofConst z,by rw[hzero,hc];simp,eE _ _ _⟩
theorem bp.xD(aJ:bp P tt){t:TypeId}{ti:TI}(h:tt.lookup t=some ti)(hk:ti.kind=7):P.underlying t=some (.map ti.ln ti.aN):=by
 have:=aJ t ti h;unfold Az at this;split at this
 ·rename_i i d hi hd;split at this
  ·split at this
   ·cases d
    case map k e=>cases this;exact hd
    case struct fs =>
     simp only at this;split at this
     ·cases this;simp at hk
     ·cases this
    case array n e =>
     simp only at this;split at this
     ·cases this;simp at hk
     ·cases this
    case slice e =>
     simp only at this;split at this
     ·split at this
      ·split at this
       ·cases this;simp at hk
       ·cases this
      ·cases this
     ·cases this
    case tuple=>cases this
    case named=>cases this
    all_goals
     cases this;simp at hk
   ·cases this
  ·cases this
 ·cases this
theorem bp.NK(aJ:bp P tt){t:TypeId}{ti:TI}(h:tt.lookup t=some ti)(hk:ti.kind=8):∃e,P.underlying t=some (.pointer e):=by
 have:=aJ t ti h;unfold Az at this;split at this
 ·rename_i i d hi hd;split at this
  ·split at this
   ·cases d
    case pointer=>exact⟨_,hd⟩
    case struct fs =>
     simp only at this;split at this
     ·cases this;simp at hk
     ·cases this
    case array n e =>
     simp only at this;split at this
     ·cases this;simp at hk
     ·cases this
    case slice e =>
     simp only at this;split at this
     ·split at this
      ·split at this
       ·cases this;simp at hk
       ·cases this
      ·cases this
     ·cases this
    case tuple=>cases this
    case named=>cases this
    all_goals
     cases this;simp at hk
   ·cases this
  ·cases this
 ·cases this
theorem bp.RB(aJ:bp P tt){t:TypeId}{ti:TI}(h:tt.lookup t=some ti)(hk:ti.kind=9):∃a b c,P.underlying t=some (.func a b c):=by
 have:=aJ t ti h;unfold Az at this;split at this
 ·rename_i i d hi hd;split at this
  ·split at this
   ·cases d
    case func=>exact⟨_,_,_,hd⟩
    case struct fs =>
     simp only at this;split at this
     ·cases this;simp at hk
     ·cases this
    case array n e =>
     simp only at this;split at this
     ·cases this;simp at hk
     ·cases this
    case slice e =>
     simp only at this;split at this
     ·split at this
      ·split at this
       ·cases this;simp at hk
       ·cases this
      ·cases this
     ·cases this
    case tuple=>cases this
    case named=>cases this
    all_goals
     cases this;simp at hk
   ·cases this
  ·cases this
 ·cases this
theorem AD(aJ:bp P tt){x y:A}{v u:Value}{k:Nat}{b:Bool}(h:Rz x y=some (k,b))(hx:Rel ids im w x v)(hy:Rel ids im w y u){t:TypeId}{ti:TI}(ht:tt.lookup t=some ti)(hk:ti.kind=k):
  ((Op.equal t v u).run P w=.ok b w/\binOp .eql t v u=(do pure (.bool (<-Op.equal t v u)))/\binOp .neq t v u=(do pure (.bool (!(<-Op.equal t v u))))/\∀op X Y,(eqGuard op t X Y v u).run P w=.ok () w):=by
 have hP:k=8->∃e,P.underlying t=some (.pointer e):=fun e=>aJ.NK ht (by rw[hk];exact e);have hM:k=7->P.underlying t=some (.map ti.ln ti.aN):=fun e=>aJ.xD ht (by rw[hk];exact e)
 have ptr:∀(p:Option Addr),k=8->v=.pointer p->u=.pointer none->b=p.isNone->((Op.equal t v u).run P w=.ok b w/\binOp .eql t v u=(do pure (.bool (<-Op.equal t v u)))/\binOp .neq t v u=(do pure (.bool (!(<-Op.equal t v u))))/\∀op X Y,(eqGuard op t X Y v u).run P w=.ok () w):=by
  rintro p e rfl rfl hb;obtain⟨el,hu⟩:=hP e;refine⟨?_,rfl,rfl,fun op X Y=>?_⟩
  ·unfold Op.equal Op.maxDepth Op.equalIn;rw[Sem.run_bind,run_underlying hu];cases p<;>simp[hb]
  ·unfold eqGuard;cases op<;>rfl
 have mp:∀(p:Option Nat),k=7->v=.map p->u=.map none->b=p.isNone->((Op.equal t v u).run P w=.ok b w/\binOp .eql t v u=(do pure (.bool (<-Op.equal t v u)))/\binOp .neq t v u=(do pure (.bool (!(<-Op.equal t v u))))/\∀op X Y,(eqGuard op t X Y v u).run P w=.ok () w):=by
  rintro p e rfl rfl hb;have hu:=hM e;refine⟨?_,rfl,rfl,fun op X Y=>?_⟩
  ·unfold Op.equal Op.maxDepth Op.equalIn;rw[Sem.run_bind,run_underlying hu];cases p<;>simp[hb]
  ·unfold eqGuard;cases op<;>rfl
 have Zl:k=9->(v=.nilFunc/\b=true\/(∃f as cs,v=.func f as cs)/\b=false)->u=.nilFunc->((Op.equal t v u).run P w=.ok b w/\binOp .eql t v u=(do pure (.bool (<-Op.equal t v u)))/\binOp .neq t v u=(do pure (.bool (!(<-Op.equal t v u))))/\∀op X Y,(eqGuard op t X Y v u).run P w=.ok () w):=by
  intro e hv XB;obtain⟨f1,f2,f3,hu⟩:=aJ.RB ht (by rw[hk];exact e);subst XB;rcases hv with⟨rfl,rfl⟩|⟨⟨f,as,cs,rfl⟩,rfl⟩
  ·refine⟨?_,rfl,rfl,fun op X Y=>by unfold eqGuard;cases op<;>rfl⟩;unfold Op.equal Op.maxDepth Op.equalIn;rw[Sem.run_bind,run_underlying hu];rfl
  ·refine⟨?_,rfl,rfl,fun op X Y=>by unfold eqGuard;cases op<;>rfl⟩;unfold Op.equal Op.maxDepth Op.equalIn;rw[Sem.run_bind,run_underlying hu];rfl
 have Zm:Rel ids im w .bz u->u=.nilFunc:=fun h=>by cases h with|aI h=>cases h;rfl
 unfold Rz at h;split at h<;>cases h
 ·exact ptr none rfl hx.kp hy.kp rfl
 ·rcases hx.ic with⟨p,_,e⟩|⟨_,x,y,e⟩<;>exact ptr _ rfl e hy.kp rfl
 ·rcases hx.iy with⟨p,_,e⟩|⟨_,x,y,e⟩<;>exact ptr _ rfl e hy.kp rfl
 ·cases hx with|aI hx=>cases hx;exact ptr _ rfl rfl hy.kp rfl
 ·exact mp none rfl hx.kq hy.kq rfl
 ·rcases hx.jh with⟨p,_,e⟩|⟨_,x,e⟩<;>exact mp _ rfl e hy.kq rfl
 ·cases hx with|aI hx=>cases hx;exact mp _ rfl rfl hy.kq rfl
 ·cases hx with|aI hx=>cases hx;exact Zl rfl (.inl ⟨rfl,rfl⟩) (Zm hy)
 ·obtain⟨us,rfl,_⟩:=hx.gi;exact Zl rfl (.inr ⟨⟨_,_,_,rfl⟩,rfl⟩) (Zm hy)
theorem sR{x:A}{v:Value}{b:Bool}(h:Pe x=some b)(hr:Rel ids im w x v):v=.bool b:=by
 cases x<;>simp[Pe] at h
 ·subst h;exact hr.dL
 ·subst h;exact hr.iI

theorem qm:∀(sh:List Nat) (cs db:List A) (vs dK:List Value) (K:Bool->Prop),vs.length=cs.length->dK.length=db.length ->
  (∀j (h:j<cs.length) (h':j<vs.length),Rel ids im w cs[j] vs[j])->(∀j (h:j<db.length) (h':j<dK.length),Rel ids im w db[j] dK[j])->yB sh cs db K->∃r,tK sh vs dK r/\K r
 | [],[],[],vs,dK,K,h1,h2,_,_,h=>by
  have e1:vs=[]:=by cases vs<;>simp at h1 ⊢
  have e2:dK=[]:=by cases dK<;>simp at h2 ⊢
  subst e1;subst e2;exact⟨true,rfl,h⟩
 | k::ks,x::xs,y::ys,vs,dK,K,h1,h2,h3,h4,h=>by
  cases vs with
  | nil=>simp at h1
  | cons v vs =>
   cases dK with
   | nil=>simp at h2
   | cons v' dK =>
    have hx:Rel ids im w x v:=h3 0 (by simp) (by simp);have hy:Rel ids im w y v':=h4 0 (by simp) (by simp)
    have go:∀b,Xv k v v' b->yB ks xs ys (fun r=>K (b&&r))->∃r,tK (k::ks) (v::vs) (v'::dK) r/\K r:=by
     intro b hb hh
     obtain⟨r,g1,g2⟩:=qm ks xs ys vs dK _ (by simpa using h1) (by simpa using h2)
      (fun j p q=>h3 (j+1) (Nat.succ_lt_succ p) (Nat.succ_lt_succ q)) (fun j p q=>h4 (j+1) (Nat.succ_lt_succ p) (Nat.succ_lt_succ q)) hh
     exact⟨b&&r,⟨b,r,hb,g1,rfl⟩,g2⟩
    unfold yB at h;split at h
    ·split at h
     ·rename_i p a q b;split at h
      ·rename_i hk;rw[jm] at hk;subst hk;exact go _ (.inl ⟨rfl,p,a,b,hx.bY,hy.bY,rfl⟩) h
      ·exact h.elim
     ·exact h.elim
    ·split at h
     ·rename_i a b ha hb;exact go _ (.inr (.inl ⟨rfl,a,b,sR ha hx,sR hb hy,rfl⟩)) h
     ·exact h.elim
    ·split at h
     ·rename_i a b;refine go (a==b) (.inr (.inr ⟨rfl,⟨a.toArray⟩,⟨b.toArray⟩,hx.hU,hy.hU,by rw[cZ,cZ]⟩)) h
     ·exact h.elim
    ·exact h.elim
 | [],[],_::_,_,_,_,_,_,_,_,h=>h.elim
 | [],_::_,_,_,_,_,_,_,_,_,h=>by unfold yB at h;exact h.elim
 | _::_,[],_,_,_,_,_,_,_,_,h=>by unfold yB at h;exact h.elim
 | _::_,_::_,[],_,_,_,_,_,_,_,h=>by unfold yB at h;exact h.elim

theorem NL(aJ:bp P tt){op:BinOp}{x y:A}{t t':TypeId}{X Y:Operand}{o:Oper}{ρ:Operand->Value}(ho:o.op=.binOp op t X Y t')(hx:Rel ids im w x (ρ X))(hy:Rel ids im w y (ρ Y)){K:A->Prop}
  (h:Kt tt t op x y K):∃r v,(execOp ρ o).run P w=.ok (.value v) w/\K r/\Rel ids im w r v:=by
 unfold Kt at h;split at h
 ·split at h
  ·exact GF ho hx.bY hy.bY h
  ·split at h
   ·rename_i hk;rw[jm] at hk;subst hk;exact CU ho hx.bY hy.bY h
   ·exact h.elim
 ·exact CV ho hx.hU hy.hU h
 ·rename_i cs db;split at h
  ·rename_i ti ht;obtain⟨i,d,z,hi,hd,hz,bL,fV,pC,hzero,Hn,Hl,CW,ot,jt,Pa,u9,heq,_⟩:=aJ.facts ht;obtain⟨vs,Bo,Jl,VO,Pf⟩:=hx.ig;obtain⟨us,Jk,yz,Ho,Zn⟩:=hy.ig
   have e1:∀EX,o.op=.binOp EX t X Y t'->(execOp ρ o)=(do let z <-(do eqGuard EX t X Y (.agg vs.toArray) (.agg us.toArray);binOp EX t (.agg vs.toArray) (.agg us.toArray));pure (.value z)):=by
    intro EX ho;unfold execOp;rw[ho];simp only[Bo,Jk]
   have MN:6<=P.depth:=by unfold Program.depth Made.depth;omega
   have Pg:ti.agg=true->∀l:List Value,vg P t l=.agg l.toArray:=by
    intro ha l;rw[Hn] at ha;unfold vg;rw[hd];cases d<;>simp[ee] at ha<;>rfl
   split at h
   ·rename_i sh Kw Ew;obtain⟨r,g1,g2⟩:=qm (ids:=ids) (im:=im) (w:=w) sh cs db vs us _ Jl yz Pf Zn h;have:=q9 (P:=P) (w:=w) (op:=.eql) (.inl rfl) (by rw[<-heq];exact Ew) (by omega) MN g1 (Pg Kw _) (Pg Kw _) X Y;refine⟨_,.bool r,?_,g2,.aI (.sb _)⟩;rw[e1 _ ho,Sem.run_bind,this];rfl
   ·rename_i sh Kw Ew;obtain⟨r,g1,g2⟩:=qm (ids:=ids) (im:=im) (w:=w) sh cs db vs us _ Jl yz Pf Zn h;have:=q9 (P:=P) (w:=w) (op:=.neq) (.inr rfl) (by rw[<-heq];exact Ew) (by omega) MN g1 (Pg Kw _) (Pg Kw _) X Y;refine⟨_,.bool !r,?_,g2,.aI (.sb _)⟩;rw[e1 _ ho,Sem.run_bind,this];rfl
   ·exact h.elim
  ·exact h.elim
 ·split at h
  ·rename_i k b va;split at h
   ·rename_i ti ht
    have e0:∀EX,o.op=.binOp EX t X Y t'->(execOp ρ o)=(do let z <-(do eqGuard EX t X Y (ρ X) (ρ Y);binOp EX t (ρ X) (ρ Y));pure (.value z)):=by
     intro EX ho;unfold execOp;rw[ho]
    split at h
    ·rename_i hk;obtain⟨g1,g2,g3,g4⟩:=AD (P:=P) (w:=w) aJ va hx hy ht (Nat.eq_of_beq_eq_true hk);refine⟨_,.bool b,?_,h,.aI (.bool _)⟩;rw[e0 _ ho];simp[g4,g2,g1]
    ·rename_i hk;obtain⟨g1,g2,g3,g4⟩:=AD (P:=P) (w:=w) aJ va hx hy ht (Nat.eq_of_beq_eq_true hk);refine⟨_,.bool !b,?_,h,.aI (.bool _)⟩;rw[e0 _ ho];simp[g4,g3,g1]
    ·exact h.elim
   ·exact h.elim
  rename_i YX;split at h;rotate_left
  ·exact h.elim
  ·rename_i a b ti ha hb ht;obtain⟨i,d,z,hi,hd,hz,bL,fV,pC,hzero,Hn,Hl,CW,ot,jt,Pa,u9,heq,Zo⟩:=aJ.facts ht;have NM:=sR ha hx;have RC:=sR hb hy
   have e1:∀EX,o.op=.binOp EX t X Y t'->(execOp ρ o)=(do let z <-(do eqGuard EX t X Y (.bool a) (.bool b);binOp EX t (.bool a) (.bool b));pure (.value z)):=by
    intro EX ho;unfold execOp;rw[ho];simp only[NM,RC]
   split at h
   ·rename_i hk;have fM:=Zo hk;subst fM;have e2:(eqGuard .eql t X Y (.bool a) (.bool b)).run P w=.ok () w:=by unfold eqGuard;rfl
    refine⟨_,.bool (a==b),?_,h,.aI (.sb _)⟩;rw[e1 _ ho];simp[e2,binOp,run_equal_bool w t a b hd]
   ·rename_i hk;have fM:=Zo hk;subst fM;have e2:(eqGuard .neq t X Y (.bool a) (.bool b)).run P w=.ok () w:=by unfold eqGuard;rfl
    refine⟨_,.bool !(a==b),?_,h,.aI (.sb _)⟩;rw[e1 _ ho];simp[e2,binOp,run_equal_bool w t a b hd]
   ·exact h.elim
end
section
variable {c:Ctx} {s:List A} {m:List aq} {a:Act} {w w':World} {ids ab:dE} {P:Program} {im bo:Nat->Prop} {tt:TT}
variable {next:Act->World->Prop} {Q:Exit->Act->World->Prop}

/-- A run of cells in memory, each related. -/
def UG(ids:dE)(im:Nat->Prop)(w:World)(cs:List A)(ao base:Nat):Prop :=
 ∃vs:List Value,vs.length=cs.length/\(∀j (h:j<vs.length),w.cell? ⟨ao,base+j,none⟩=some vs[j])/\(∀v∈vs,gz v) /\
  ∀j (h:j<cs.length) (h':j<vs.length),Rel ids im w cs[j] vs[j]

theorem lI{t:TypeId}{d:TypeDesc}{i:TypeInfo}(hi:P.info? t=some i)(hd:P.underlying t=some d)
  (hg:ee d=true) (ao off:Nat) (vs:List Value) (hl:vs.length=i.size)
  (hc:∀j (h:j<vs.length),w.cell? ⟨ao,off+j,none⟩=some vs[j]):(loadVar t ⟨ao,off,none⟩).run P w=.ok (.agg vs.toArray) w:=by
 have h1:(loadCells ⟨ao,off,none⟩ vs.length).run P w=.ok vs.toArray w:=run_loadCells_list w ⟨ao,off,none⟩ vs (fun j v hv=>by
  have hj:j<vs.length:=by
   rcases Nat.lt_or_ge j vs.length with h|h
   ·exact h
   ·rw[List.getElem?_eq_none h] at hv;cases hv
  have e:vs[j]=v:=by rw[List.getElem?_eq_getElem hj] at hv;exact Option.some.inj hv
  have:=hc j hj;rw[e] at this;unfold Addr.add;split
  ·rename_i h0;subst h0;simpa using this
  ·exact this)
 rw[hl] at h1;unfold loadVar isAgg;cases d<;>simp[ee] at hg<;>simp[underlying,hd,sizeOf,typeInfo,hi,h1]
theorem iJ{t:TypeId}{d:TypeDesc}(hd:P.underlying t=some d)
  (hg:ee d=false) (ao off:Nat) (v:Value)
  (hc:w.cell? ⟨ao,off,none⟩=some v):(loadVar t ⟨ao,off,none⟩).run P w=.ok v w:=by
 unfold loadVar isAgg;cases d<;>simp[ee] at hg<;>simp[underlying,hd,hc]

theorem iX(aJ:bp P tt){t:TypeId}{ti:TI}(ht:tt.lookup t=some ti){cs:List A}{ao base off:Nat}(bW:UG ids im w cs ao base){K:A->Prop}
  (h:Ks ti.agg ti.size cs off K):∃r v,(loadVar t ⟨ao,base+off,none⟩).run P w=.ok v w/\K r/\Rel ids im w r v:=by
 obtain⟨i,d,z,hi,hd,hz,bL,_,_,_,Hn,_⟩:=aJ.facts ht;obtain⟨vs,hl,hc,ho,hr⟩:=bW;unfold Ks at h;split at h
 ·rename_i hb;split at h
  ·rename_i hle;rw[ck,ku] at h;have hle:=Nat.le_of_ble_eq_true hle;have RD:((vs.drop off).take ti.size).length=ti.size:=by simp;omega
   have Zp:((cs.drop off).take ti.size).length=ti.size:=by simp;omega
   refine⟨_,.agg ((vs.drop off).take ti.size).toArray,?_,h,?_⟩
   ·refine lI hi hd (by rw[<-Hn];exact hb) ao (base+off) _ (by rw[RD,bL]) ?_;intro j hj;rw[RD] at hj;have:=hc (off+j) (by omega);rw[<-Nat.add_assoc] at this;simpa using this
   ·refine .agg _ _ (by rw[RD,Zp]) ?_ ?_
    ·intro v hv;exact ho v (List.mem_of_mem_drop (List.mem_of_mem_take hv))
    ·intro j h1 h2;rw[Zp] at h1;have:=hr (off+j) (by omega) (by omega);simpa using this
  ·exact h.elim
 ·rename_i hb;split at h
  ·rename_i aD;rw[dp] at h;have aD:off<cs.length:=Nat.le_of_ble_eq_true aD;refine⟨_,vs[off]'(by omega),?_,h,?_⟩
   ·exact iJ hd (by rw[<-Hn];exact hb) ao _ _ (hc off (by omega))
   ·have:=hr off aD (by omega);simpa[List.getD_eq_getElem?_getD,aD] using this
  ·exact h.elim

theorem bj{b:Nat}{x:aq}(h:m[b]?=some x):m.getD b .dead=x:=by simp[List.getD_eq_getElem?_getD,h]

theorem aF.sS(hs:aF c s m a w ids){b:Nat}{p:Id}(bZ:ids[b]?=some (.lv p)){ty:TypeId}{cs:List A}(hb:m.getD b .dead=.box ty cs):
  UG ids (au c ids w) w cs p.ao 0:=by
 obtain⟨x,hx,hr⟩:=hs.eF bZ;rw[bj hx] at hb;subst hb;obtain⟨vs,h1,h2,h3,h4⟩:=hr;refine⟨vs.toList,by simp;omega,?_,?_,?_⟩
 ·intro j hj;unfold World.cell?;simp only[h1];simp at hj ⊢
 ·intro v hv;obtain⟨j,hj,rfl⟩:=List.getElem_of_mem hv;simp at hj;have:=(h4 j (by omega) hj).2;simpa using this
 ·intro j hj cj;simp at cj;have:=(h4 j hj cj).1;simpa using this
theorem aF.EY(hs:aF c s m a w ids){b:Nat}{p:Id}(bZ:ids[b]?=some (.lv p)){ty:TypeId}{sz n:Nat}{row:Nat->List A}(hb:m.getD b .dead=.row ty sz n row)
  {i:Nat} (hi:i<n):UG ids (au c ids w) w (row i) p.ao (i*p.sz):=by
 obtain⟨x,hx,hr⟩:=hs.eF bZ;rw[bj hx] at hb;subst hb;obtain⟨e1,e2,vs,h1,h2,h3,hl,h4⟩:=hr;rw[e1]
 have hle:i*sz+sz<=n*sz:=by
  have:(i+1)*sz<=n*sz:=Nat.mul_le_mul_right _ hi;rw[Nat.add_mul] at this;omega
 refine⟨(vs.toList.drop (i*sz)).take sz,by simp;rw[hl i hi];omega,?_,?_,?_⟩
 ·intro j hj;simp at hj;unfold World.cell?;simp only[h1];simp
 ·intro v hv;obtain⟨j,hj,rfl⟩:=List.getElem_of_mem hv;simp at hj;have:=(h4 i j hi (by rw[hl i hi];omega) (by omega)).2;simpa using this
 ·intro j hj cj;simp at cj;have:=Rel.aI (ids:=ids) (h4 i j hi hj (by omega)).1;simpa using this

theorem AE(aJ:bp P tt)(hs:aF c s m a w ids){o:Oper}{t:TypeId}{X:Operand}(ho:o.op=.load t X){K:KT}
  (h:lM tt t (ev s X) m K) (hn:∀v m' a' w' ab,K v m'->aF c (bf s o.dst v) m' a' w' ab->next a' w'):o.wp P a w next Q:=by
 have hx:=hs.ev X;unfold lM at h
 have e1:∀ao off,a.eval X=.pointer (some ⟨ao,off,none⟩)->execOp a.eval o=(do let z <-loadVar t ⟨ao,off,none⟩;pure (.value z)):=by
  intro ao off he;unfold execOp;rw[ho];simp only[he];rfl
 have fin:∀ {r:A} {v:Value} {ao off:Nat},a.eval X=.pointer (some ⟨ao,off,none⟩)->(loadVar t ⟨ao,off,none⟩).run P w=.ok v w->K r m->Rel ids (au c ids w) w r v->o.wp P a w next Q:=by
  intro r v ao off he bW hk hr;refine aR (v:=v) (w':=w) ?_ (hn r m _ _ ids hk (hs.bf o.dst hr));rw[e1 _ _ he];simp[bW]
 split at h
 ·exact h.elim
 ·rename_i ti ht;split at h
  ·rename_i b off he;rw[he] at hx;split at h
   ·rename_i ty cs hb;obtain⟨p,bZ,hv⟩:=hs.xA hx (by rw[hb];simp);obtain⟨r,v,h1,h2,h3⟩:=iX (P:=P) aJ ht (base:=0) (hs.sS bZ hb) h;rw[Nat.zero_add] at h1;exact fin hv h1 h2 h3
   ·exact h.elim
  ·rename_i b i off he;rw[he] at hx;split at h
   ·rename_i ty sz n row hb;obtain⟨p,bZ,hv⟩:=hs.ll hx (by rw[hb];simp);obtain⟨hi,h⟩:=h;rw[ck] at h;obtain⟨r,v,h1,h2,h3⟩:=iX (P:=P) aJ ht (hs.EY bZ hb hi) h;exact fin hv h1 h2 h3
   ·exact h.elim
  ·rename_i cs off he;rw[he] at hx;cases hx with
   | aI hx =>
    generalize hv:a.eval X=vv at hx;cases hx with
    | bref ao base _ _ vs hb hc UH hr =>
     have bW:UG ids (au c ids w) w cs ao base:=by
      refine⟨(List.range cs.length).map vs,by simp,?_,?_,?_⟩
      ·intro j hj;simp at hj;simpa using hc j hj
      ·intro v hv;simp at hv;obtain⟨j,hj,rfl⟩:=hv;exact UH j hj
      ·intro j hj cj;simpa using Rel.aI (hr j hj)
     obtain⟨r,v,h1,h2,h3⟩:=iX (P:=P) aJ ht bW h;exact fin hv h1 h2 h3
  ·exact h.elim
end
section
variable {c:Ctx} {s:List A} {m:List aq} {a:Act} {w w':World} {ids ab:dE} {P:Program} {im bo:Nat->Prop} {tt:TT}
variable {next:Act->World->Prop} {Q:Exit->Act->World->Prop}

theorem cz:∀(d:Nat) (x:A) (v:Value),cL d x=false->Rel ids im w x v->aw im w x v
 | 0,x,v,h,_=>by cases h
 | d+1,x,v,h,hr=>by
  cases hr with
  | aI hr=>exact hr
  | ref=>cases h
  | oref=>cases h
  | fX=>cases h
  | own=>cases h
  | kj=>cases h
  | ki=>cases h
  | gA=>cases h
  | fS=>cases h
  | omap=>cases h
  | qZ=>cases h
  | qh=>cases h
  | nw=>cases h
  | qi=>cases h
  | nT=>cases h
  | agg cs vs hl ho hr =>
   refine .agg cs vs hl ho fun j h1 h2=>cz d _ _ ?_ (hr j h1 h2);simp only[cL,List.any_eq_false] at h;simpa using h _ (List.getElem_mem h1)
  | tup cs vs hl hr =>
   refine .tup cs vs hl fun j h1 h2=>cz d _ _ ?_ (hr j h1 h2);simp only[cL,List.any_eq_false] at h;simpa using h _ (List.getElem_mem h1)
  | fn f cs vs hl hr =>
   refine .fn f cs vs hl fun j h1 h2=>cz d _ _ ?_ (hr j h1 h2);simp only[cL,List.any_eq_false] at h;simpa using h _ (List.getElem_mem h1)


theorem pe{x:A}{v:Value}(h1:one x=true)(h:Rel ids im w x v):gz v/\v.cells = #[v]:=by
 cases h with
 | aI h=>cases h<;>first|exact⟨rfl,rfl⟩|cases h1
 | ref=>exact⟨rfl,rfl⟩
 | oref=>exact⟨rfl,rfl⟩
 | fX=>exact⟨rfl,rfl⟩
 | own=>exact⟨rfl,rfl⟩
 | kj=>exact⟨rfl,rfl⟩
 | ki=>exact⟨rfl,rfl⟩
 | gA=>exact⟨rfl,rfl⟩
 | fS=>exact⟨rfl,rfl⟩
 | omap=>exact⟨rfl,rfl⟩
 | qZ=>exact⟨rfl,rfl⟩
 | qh=>exact⟨rfl,rfl⟩
 | nw=>exact⟨rfl,rfl⟩
 | qi=>exact⟨rfl,rfl⟩
 | nT=>exact⟨rfl,rfl⟩
 | agg=>cases h1
 | tup=>cases h1
 | fn=>exact⟨rfl,rfl⟩
theorem ng{x:A}{v:Value}{cs:List A}(hc:lq x=some cs)(h:Rel ids im w x v):
  ∃vs:List Value,v.cells=vs.toArray/\vs.length=cs.length/\(∀u∈vs,gz u)/\∀j (h:j<cs.length) (h':j<vs.length),Rel ids im w cs[j] vs[j]:=by
 have single:one x=true->cs=[x]->∃vs:List Value,v.cells=vs.toArray/\vs.length=cs.length/\(∀u∈vs,gz u)/\∀j (h:j<cs.length) (h':j<vs.length),Rel ids im w cs[j] vs[j]:=by
  intro h1 e;obtain⟨o1,o2⟩:=pe h1 h;refine⟨[v],by rw[o2],by rw[e];rfl,?_,?_⟩
  ·intro u hu;rw[List.mem_singleton.1 hu];exact o1
  ·subst e;intro j hj cj;have:j=0:=by simp at hj;omega
   subst this;exact h
 cases x<;>simp only[lq] at hc<;>first|cases hc|skip
 case agg =>
  obtain⟨vs,rfl,h2,h3,h4⟩:=h.ig;exact⟨vs,rfl,h2,h3,h4⟩
 all_goals exact single rfl rfl

/-- A splice of related cells. -/
theorem nX{cs us:List A}{vs xs:List Value}{off:Nat}(h1:off+us.length<=cs.length)(hl:vs.length=cs.length)(NN:xs.length=us.length)
  (hr:∀j (h:j<cs.length) (h':j<vs.length),Rel ids im w cs[j] vs[j]) (Ei:∀j (h:j<us.length) (h':j<xs.length),Rel ids im w us[j] xs[j])
  (ho:∀v∈vs,gz v) (NO:∀v∈xs,gz v) :
  (vs.take off++xs++vs.drop (off+xs.length)).length=(re cs off us).length/\(∀v∈vs.take off++xs++vs.drop (off+xs.length),gz v) /\
  ∀j (h:j<(re cs off us).length) (h':j<(vs.take off++xs++vs.drop (off+xs.length)).length),Rel ids im w (re cs off us)[j] (vs.take off++xs++vs.drop (off+xs.length))[j]:=by
 refine⟨by simp[re];omega,?_,?_⟩
 ·intro v hv;simp only[List.mem_append] at hv;rcases hv with(hv|hv)|hv
  ·exact ho v (List.mem_of_mem_take hv)
  ·exact NO v hv
  ·exact ho v (List.mem_of_mem_drop hv)
 ·intro j h h';simp only[re] at h ⊢;have hlen:(re cs off us).length=cs.length:=by simp[re];omega
  by_cases c1:j<off
  ·have e1:(cs.take off++us++cs.drop (off+us.length))[j]=cs[j]'(by omega):=by
    rw[List.getElem_append_left (by simp;omega),List.getElem_append_left (by simp;omega),List.getElem_take]
   have e2:(vs.take off++xs++vs.drop (off+xs.length))[j]=vs[j]'(by omega):=by
    rw[List.getElem_append_left (by simp;omega),List.getElem_append_left (by simp;omega),List.getElem_take]
   rw[e1,e2];exact hr j (by omega) (by omega)
  ·by_cases c2:j<off+us.length
   ·have e1:(cs.take off++us++cs.drop (off+us.length))[j]=us[j-off]'(by omega):=by
     rw[List.getElem_append_left (by simp;omega),List.getElem_append_right (by simp;omega)]
     congr 1;simp;omega
    have e2:(vs.take off++xs++vs.drop (off+xs.length))[j]=xs[j-off]'(by omega):=by
     rw[List.getElem_append_left (by simp;omega),List.getElem_append_right (by simp;omega)]
     congr 1;simp;omega
    rw[e1,e2];exact Ei _ (by omega) (by omega)
   ·have hj:j<cs.length:=by
     have:(re cs off us).length=(cs.take off++us++cs.drop (off+us.length)).length:=rfl;omega
    have e1:(cs.take off++us++cs.drop (off+us.length))[j]=cs[j]:=by
     rw[List.getElem_append_right (by simp;omega),List.getElem_drop]
     congr 1;simp;omega
    have e2:(vs.take off++xs++vs.drop (off+xs.length))[j]=vs[j]'(by omega):=by
     rw[List.getElem_append_right (by simp;omega),List.getElem_drop]
     congr 1;simp;omega
    rw[e1,e2];exact hr j hj (by omega)

theorem CX{x:A}{v:Value}{cs:List A}(hc:lq x=some cs)(h:aw im w x v):
  ∃vs:List Value,v.cells=vs.toArray/\vs.length=cs.length/\(∀u∈vs,gz u)/\∀j (h:j<cs.length) (h':j<vs.length),aw im w cs[j] vs[j]:=by
 have single:one x=true->cs=[x]->∃vs:List Value,v.cells=vs.toArray/\vs.length=cs.length/\(∀u∈vs,gz u)/\∀j (h:j<cs.length) (h':j<vs.length),aw im w cs[j] vs[j]:=by
  intro h1 e;obtain⟨o1,o2⟩:=pe (ids:=[]) h1 (.aI h);refine⟨[v],by rw[o2],by rw[e];rfl,?_,?_⟩
  ·intro u hu;rw[List.mem_singleton.1 hu];exact o1
  ·subst e;intro j hj cj;have:j=0:=by simp at hj;omega
   subst this;exact h
 cases x<;>simp only[lq] at hc<;>first|cases hc|skip
 case agg =>
  cases h with
  | agg _ vs hl ho hr=>exact⟨vs,rfl,hl,ho,hr⟩
 all_goals exact single rfl rfl
theorem AF{cs us:List A}{vs xs:List Value}{off:Nat}(h1:off+us.length<=cs.length)(hl:vs.length=cs.length)(NN:xs.length=us.length)
  (hr:∀j (h:j<cs.length) (h':j<vs.length),aw im w cs[j] vs[j]) (Ei:∀j (h:j<us.length) (h':j<xs.length),aw im w us[j] xs[j])
  (ho:∀v∈vs,gz v) (NO:∀v∈xs,gz v) :
  (vs.take off++xs++vs.drop (off+xs.length)).length=(re cs off us).length/\(∀v∈vs.take off++xs++vs.drop (off+xs.length),gz v) /\
  ∀j (h:j<(re cs off us).length) (h':j<(vs.take off++xs++vs.drop (off+xs.length)).length),aw im w (re cs off us)[j] (vs.take off++xs++vs.drop (off+xs.length))[j]:=by
 obtain⟨q1,q2,q3⟩:=nX (ids:=[]) (im:=im) (w:=w) (cs:=cs) (us:=us) (vs:=vs) (xs:=xs) (off:=off) h1 hl NN (fun j h h'=>.aI (hr j h h')) (fun j h h'=>.aI (Ei j h h')) ho NO;refine⟨q1,q2,fun j h h'=>?_⟩
 have XC:∀ {x:A} {v:Value},Rel [] im w x v->aw im w x v:=by
  intro x v h
  induction h with
  | aI h=>exact h
  | ref b off p h=>simp at h
  | oref b i off p h=>simp at h
  | fX b h=>simp at h
  | own b cap p h=>simp at h
  | kj b x n cap h=>simp at h
  | ki b off x y h=>simp at h
  | gA b i off x y h=>simp at h
  | fS b x h=>simp at h
  | omap b p h=>simp at h
  | qZ b k p n h hn=>simp at h
  | qh b k n h=>simp at h
  | nw b k cap x p h hx=>simp at h
  | qi b k h=>simp at h
  | nT b k x n cap h=>simp at h
  | agg cs vs hl ho hr ih=>exact .agg cs vs hl ho ih
  | tup cs vs hl hr ih=>exact .tup cs vs hl ih
  | fn f cs vs hl hr ih=>exact .fn f cs vs hl ih
 exact XC (q3 j h h')

theorem gl{t:TypeId}{i:TypeInfo}(hi:P.info? t=some i)(ao off:Nat)(ty:TypeId)(cur:Array Value)(v:Value)(vs:List Value)(hv:v.cells=vs.toArray)
  (hl:vs.length=i.size) (ho:∀u∈vs,gz u) (hg:w.heap[ao]?=some (.cells cur ty (0,0))) (hle:off+vs.length<=cur.size) :
  (storeVar t ⟨ao,off,none⟩ v).run P w=.ok () (w.setRow ao (cur.toList.take off++vs++cur.toList.drop (off+vs.length)).toArray):=by
 have h1:=run_storeCells_at (P:=P) ao off ty vs 0 cur w hg (by omega) ho;unfold storeVar;have e:¬(v.cells.size≠i.size):=by rw[hv];simp[hl]
 simp[sizeOf,typeInfo,hi,hv,<-hl] at e ⊢;simpa using h1
end
section
variable {c:Ctx} {s:List A} {m:List aq} {a:Act} {w w':World} {ids ab:dE} {P:Program} {im bo:Nat->Prop} {tt:TT}
variable {next:Act->World->Prop} {Q:Exit->Act->World->Prop}

theorem lr{size:Nat}{cs:List A}{off:Nat}{v:A}{K:List A->Prop}(h:LI size cs off v K):
  ∃vs,lq v=some vs/\vs.length=size/\off+size<=cs.length/\K (re cs off vs):=by
 unfold LI at h;split at h
 ·rename_i vs hv;split at h
  ·rename_i h1 h2;rw[ck] at h;exact⟨vs,hv,Nat.eq_of_beq_eq_true h1,Nat.le_of_ble_eq_true h2,h⟩
  ·exact h.elim
 ·exact h.elim

theorem aF.kv(hs:aF c s m a w ids)(d:Option Nat)(v:Value):aF c (_root_.Go.Proofs.YtijddijloelacaaGreat.Am.bf s d .af) m (a.put d v) w ids:=hs.bf d (.aI (.af _))

theorem lx(aJ:bp P tt)(hs:aF c s m a w ids){o:Oper}{t:TypeId}{X Y:Operand}(ho:o.op=.store t X Y){K:KT}
  (h:ue tt t (ev s X) (ev s Y) m K) (hn:∀v m' a' w' ab,K v m'->aF c (bf s o.dst v) m' a' w' ab->next a' w'):o.wp P a w next Q:=by
 have hx:=hs.ev X;have hy:=hs.ev Y;unfold ue at h
 have e1:∀ao off,a.eval X=.pointer (some ⟨ao,off,none⟩)->execOp a.eval o=(do storeVar t ⟨ao,off,none⟩ (a.eval Y);pure .skip):=by
  intro ao off he;unfold execOp;rw[ho];simp only[he];rfl
 split at h
 ·exact h.elim
 ·rename_i ti ht;obtain⟨i,d,z,hi,hd,hz,bL,_⟩:=aJ.facts ht;split at h
  ·rename_i b off he;rw[he] at hx;split at h
   ·rename_i ty cs hb;obtain⟨p,bZ,hv⟩:=hs.xA hx (by rw[hb];simp);obtain⟨us,hu,LP,hle,h⟩:=lr h;rw[eQ] at h;obtain⟨xs,NP,u7,LC,PQ⟩:=ng hu hy;obtain⟨x,EL,hr⟩:=hs.eF bZ;rw[bj EL] at hb;subst hb;obtain⟨vs,h1,h2,h3,h4⟩:=hr;have pQ:=gl (P:=P) (w:=w) hi p.ao off ty vs (a.eval Y) xs NP (by omega) LC h1 (by omega)
    obtain⟨q1,q2,q3⟩:=nX (ids:=ids) (im:=au c ids w) (w:=w) (cs:=cs) (us:=us) (vs:=vs.toList) (xs:=xs) (off:=off) (by omega) (by simp;omega) (by omega)
     (fun j hj cj=>by simpa using(h4 j hj (by simpa using cj)).1) PQ
     (fun v hv=>by obtain⟨j,hj,rfl⟩:=List.getElem_of_mem hv;simp at hj;simpa using(h4 j (by omega) hj).2) LC
    have bH:=hs.setRow b p bZ (.box ty (re cs off us)) vs (vs.toList.take off++xs++vs.toList.drop (off+xs.length)).toArray ty h1 (fun g1 g2 _=>by
     refine⟨_,g1,?_,?_,?_⟩
     ·simp;omega
     ·simp[re];omega
     ·intro j hj cj;simp only[List.size_toArray] at cj;refine⟨g2 _ _ (by simpa using q3 j hj cj),?_⟩;simpa using q2 _ (List.getElem_mem cj))
    refine gS (w':=w.setRow p.ao (vs.toList.take off++xs++vs.toList.drop (off+xs.length)).toArray) ?_ (hn _ _ _ _ _ h (bH.kv o.dst _));rw[e1 _ _ hv];simp at pQ;simp[pQ]
   ·exact h.elim
  ·rename_i b i' off he;rw[he] at hx;split at h
   ·rename_i ty sz n row hb;obtain⟨p,bZ,hv⟩:=hs.ll hx (by rw[hb];simp);split at h
    case h_2=>exact h.elim
    rename_i aU;have hy:=cz 4 _ _ aU hy;obtain⟨aD,h⟩:=h;rw[ck] at h;obtain⟨us,hu,LP,hle,h⟩:=lr h;rw[eQ] at h;obtain⟨xs,NP,u7,LC,PQ⟩:=CX hu hy;obtain⟨x,EL,hr⟩:=hs.eF bZ;rw[bj EL] at hb;subst hb;obtain⟨g1,g2,vs,h1,h2,h3,hl,h4⟩:=hr
    have hmul:i'*sz+sz<=n*sz:=by
     have:(i'+1)*sz<=n*sz:=Nat.mul_le_mul_right _ aD;rw[Nat.add_mul] at this;omega
    rw[hl i' aD] at hle;have pQ:=gl (P:=P) (w:=w) hi p.ao (i'*p.sz+off) ty vs (a.eval Y) xs NP (by omega) LC h1 (by rw[g1];omega);rw[g1] at pQ
    have bH:=hs.setRow b p bZ (.row ty sz n (gy row i' (re (row i') off us))) vs (vs.toList.take (i'*sz+off)++xs++vs.toList.drop (i'*sz+off+xs.length)).toArray ty h1 (fun k1 _ k2=>by
     refine⟨g1,g2,_,k1,by simp;omega,h3,?_,?_⟩
     ·intro j hj;unfold gy;split
      ·simp[re];rw[hl i' aD];omega
      ·exact hl j hj
     ·intro j j' hj SQ NQ;simp only[List.size_toArray] at NQ
      have VP:(gy row i' (re (row i') off us) j).length=sz:=by
       unfold gy;split
       ·simp[re];rw[hl i' aD];omega
       ·exact hl j hj
      have Zq:j'<sz:=by omega
      have hjm:j*sz+sz<=n*sz:=by
       have:(j+1)*sz<=n*sz:=Nat.mul_le_mul_right _ hj;rw[Nat.add_mul] at this;omega
      by_cases Bz:j=i'
      ·subst Bz
       obtain⟨q1,q2,q3⟩:=AF (im:=au c ids w) (w:=w) (cs:=row j) (us:=us) (vs:=(vs.toList.drop (j*sz)).take sz) (xs:=xs) (off:=off)
        (by rw[hl j hj];omega) (by simp;rw[hl j hj];omega) (by omega)
        (fun k hk gv=>by
         simp at gv;simpa using(h4 j k hj hk (by omega)).1) PQ
        (fun v hv=>by
         obtain⟨k,hk,rfl⟩:=List.getElem_of_mem hv;simp at hk;simpa using(h4 j k hj (by rw[hl j hj];omega) (by omega)).2) LC
       have dC:gy row j (re (row j) off us) j=re (row j) off us:=by simp[gy]
       have e2:(vs.toList.take (j*sz+off)++xs++vs.toList.drop (j*sz+off+xs.length))[j*sz+j'] =
         (((vs.toList.drop (j*sz)).take sz).take off++xs++((vs.toList.drop (j*sz)).take sz).drop (off+xs.length))[j']'(by rw[q1];simp[re];rw[hl j hj];omega):=by
        by_cases c1:j'<off
        ·rw[List.getElem_append_left (by simp;omega),List.getElem_append_left (by simp;omega),List.getElem_append_left (by simp;omega),List.getElem_append_left (by simp;omega)];simp
        ·by_cases c2:j'<off+xs.length
         ·rw[List.getElem_append_left (by simp;omega),List.getElem_append_right (by simp;omega),List.getElem_append_left (by simp;omega),List.getElem_append_right (by simp;omega)]
          congr 1;simp;omega
         ·rw[List.getElem_append_right (by simp;omega),List.getElem_append_right (by simp;omega)];simp
          congr 1;omega
       have vD:j'<(re (row j) off us).length:=by simp[re];rw[hl j hj];omega
       have r1:=q3 j' vD (by rw[q1];exact vD);rw[<-e2] at r1;have r2:=q2 _ (List.getElem_mem (by rw[q1];exact vD:j'<_));rw[<-e2] at r2;simp only[dC];exact⟨k2 _ _ (by simpa using r1),by simpa using r2⟩
      ·have dC:gy row i' (re (row i') off us) j=row j:=by simp[gy,Bz]
       have e2:(vs.toList.take (i'*sz+off)++xs++vs.toList.drop (i'*sz+off+xs.length))[j*sz+j']=vs[j*sz+j']'(by omega):=by
        rcases Nat.lt_or_ge j i' with hc|hc
        ·have:(j+1)*sz<=i'*sz:=Nat.mul_le_mul_right _ hc;rw[Nat.add_mul] at this;rw[List.getElem_append_left (by simp;omega),List.getElem_append_left (by simp;omega)];simp
        ·have:(i'+1)*sz<=j*sz:=Nat.mul_le_mul_right _ (by omega);rw[Nat.add_mul] at this;rw[List.getElem_append_right (by simp;omega)];simp
         congr 1;omega
       simp only[dC] at SQ ⊢;have:=h4 j j' hj SQ (by omega);rw[<-e2] at this;exact⟨k2 _ _ (by simpa using this.1),by simpa using this.2⟩)
    refine gS (w':=w.setRow p.ao (vs.toList.take (i'*sz+off)++xs++vs.toList.drop (i'*sz+off+xs.length)).toArray) ?_ (hn _ _ _ _ _ h (bH.kv o.dst _));rw[g1] at hv;rw[e1 _ _ hv];simp at pQ;simp[pQ]
   ·exact h.elim
  ·exact h.elim
end
section
variable {c:Ctx} {s:List A} {m:List aq} {a:Act} {w w':World} {ids ab:dE} {P:Program} {im bo:Nat->Prop} {tt:TT}
variable {next:Act->World->Prop} {Q:Exit->Act->World->Prop}

theorem kS:∀(vs:List Value) (k off:Nat) (cs:Array Value),off+k+vs.length<=cs.size ->
  (vs.zipIdx k).foldl (fun cs (p:Value×Nat)=>cs.setIfInBounds (off+p.2) p.1) cs=(cs.toList.take (off+k)++vs++cs.toList.drop (off+k+vs.length)).toArray
 | [],k,off,cs,h=>by simp
 | v::vs,k,off,cs,h=>by
  simp only[List.length_cons] at h;rw[List.zipIdx_cons,List.foldl_cons,kS vs (k+1) off _ (by simp;omega)]
  congr 1
  have aD:off+k<cs.size:=by omega
  apply List.ext_getElem
  ·simp;omega
  ·intro j h1 h2;simp only[Array.toList_setIfInBounds];by_cases c1:j<off+k
   ·rw[List.getElem_append_left (by simp;omega),List.getElem_append_left (by simp;omega),List.getElem_append_left (by simp;omega),List.getElem_append_left (by simp;omega)];simp[List.getElem_set];omega
   ·by_cases c2:j=off+k
    ·subst c2;rw[List.getElem_append_left (by simp;omega),List.getElem_append_left (by simp;omega),List.getElem_append_left (by simp;omega),List.getElem_append_right (by simp;omega)];simp;have e:min (off+k) cs.size=off+k:=by omega
     simp[e]
    ·by_cases c3:j<off+k+1+vs.length
     ·rw[List.getElem_append_left (by simp;omega),List.getElem_append_right (by simp;omega),List.getElem_append_left (by simp;omega),List.getElem_append_right (by simp;omega)];have e1:min (off+(k+1)) cs.size=off+k+1:=by omega
      have e2:min (off+k) cs.size=off+k:=by omega
      simp only[List.length_take,List.length_set,Array.length_toList,e1,e2];rw[List.getElem_cons];rw[dif_neg (by omega)]
      congr 1
     ·rw[List.getElem_append_right (by simp;omega),List.getElem_append_right (by simp;omega)];have e1:min (off+(k+1)) cs.size=off+k+1:=by omega
      have e2:min (off+k) cs.size=off+k:=by omega
      simp only[List.getElem_drop,List.length_append,List.length_take,List.length_set,Array.length_toList,e1,e2,List.length_cons];rw[List.getElem_set,if_neg (by omega)]
      congr 1;omega

theorem GG(place:Nat->Option (Nat×Nat))(cells:Array Value)(i:Nat)(v:Value)(rest:List (Nat×Value))(off size:Nat)(vs:List Value)
  (hp:place i=some (off,size)) (hv:v.cells=vs.toArray) (hl:vs.length=size) (hle:off+size<=cells.size) :
  Instr.fill place cells ((i,v)::rest)=Instr.fill place (cells.toList.take off++vs++cells.toList.drop (off+vs.length)).toArray rest:=by
 have:=kS vs 0 off cells (by omega);rw[Instr.fill,hp];simp only[hv];rw[if_neg (by simp;omega)]
 congr 1
 simp only[Nat.add_zero] at this;rw[<-this];simp

/-- Parts and their values, one by one. -/
def mK(ids:dE)(im:Nat->Prop)(w:World)(ps:List (Nat×A))(qs:List (Nat×Value)):Prop :=
 ps.length=qs.length/\∀j (h:j<ps.length) (h':j<qs.length),ps[j].1=qs[j].1/\Rel ids im w ps[j].2 qs[j].2

theorem mK.cons_inv{p:Nat×A}{ps:List (Nat×A)}{qs:List (Nat×Value)}(h:mK ids im w (p::ps) qs):
  ∃v UI,qs=(p.1,v)::UI/\Rel ids im w p.2 v/\mK ids im w ps UI:=by
 obtain⟨hl,hr⟩:=h;cases qs with
 | nil=>simp at hl
 | cons q qs =>
  have h0:=hr 0 (by simp) (by simp);simp at h0;refine⟨q.2,qs,?_,h0.2,by simpa using hl,?_⟩
  ·rw[h0.1]
  ·intro j h1 h2;have:=hr (j+1) (by simpa using h1) (by simpa using h2);simpa using this

theorem nY{ti:TI}:∀(ps:List (Nat×A)) (qs:List (Nat×Value)) (cs:List A) (vs:List Value) (K:List A->Prop),mK ids im w ps qs->vs.length=cs.length->(∀v∈vs,gz v) ->
  (∀j (h:j<cs.length) (h':j<vs.length),Rel ids im w cs[j] vs[j])->nV ti ps cs K ->
  ∃(db:List A) (dK:List Value),Instr.fill (placeOf ti) vs.toArray qs=some dK.toArray/\K db/\dK.length=db.length/\(∀v∈dK,gz v)/\(∀j (h:j<db.length) (h':j<dK.length),Rel ids im w db[j] dK[j])
 | [],qs,cs,vs,K,hp,hl,ho,hr,h=>by
  have:qs=[]:=by have:=hp.1;cases qs<;>simp at this ⊢
  subst this;exact⟨cs,vs,rfl,h,hl,ho,hr⟩
 | (i,x)::ps,qs,cs,vs,K,hp,hl,ho,hr,h=>by
  obtain⟨v,UI,rfl,hv,Ph⟩:=hp.cons_inv;simp only[nV] at h;split at h
  ·rename_i off size us ON hc;split at h
   ·rename_i h1 h2;have h1:=Nat.eq_of_beq_eq_true h1;have h2:=Nat.le_of_ble_eq_true h2;rw[ck] at h;obtain⟨xs,NP,u7,LC,PQ⟩:=ng hc hv;obtain⟨q1,q2,q3⟩:=nX (ids:=ids) (im:=im) (w:=w) (cs:=cs) (us:=us) (vs:=vs) (xs:=xs) (off:=off) (by omega) hl u7 hr PQ ho LC;obtain⟨db,dK,f1,f2,f3,f4,f5⟩:=nY ps UI _ _ K Ph q1 q2 q3 h;refine⟨db,dK,?_,f2,f3,f4,f5⟩;rw[GG _ _ i v UI off size xs ON NP (by omega) (by simp;omega)];simpa using f1
   ·exact h.elim
  ·exact h.elim
end
section
variable {c:Ctx} {s:List A} {m:List aq} {a:Act} {w w':World} {ids ab:dE} {P:Program} {im bo:Nat->Prop} {tt:TT}
variable {next:Act->World->Prop} {Q:Exit->Act->World->Prop} {o:Oper}

abbrev cq(c:Ctx)(s:List A)(o:Oper)(K:KT)(next:Act->World->Prop):Prop :=
 ∀v m' a' w' ab,K v m'->aF c (bf s o.dst v) m' a' w' ab->next a' w'

/-- An operation that yields a value, the world as it was. -/
theorem aP(hs:aF c s m a w ids){K:KT}(hn:cq c s o K next)
  (h:∃r v,(execOp a.eval o).run P w=.ok (.value v) w/\K r m/\Rel ids (au c ids w) w r v):o.wp P a w next Q:=by
 obtain⟨r,v,h1,h2,h3⟩:=h;exact aR h1 (hn r m _ _ ids h2 (hs.bf o.dst h3))

theorem rf(hs:aF c s m a w ids){X:Operand}(ho:o.op=.move X\/o.op=.assign X){K:KT}(h:K (ev s X) m)(hn:cq c s o K next):o.wp P a w next Q :=
 aP hs hn ⟨_,a.eval X,by unfold execOp;rcases ho with ho|ho<;>rw[ho]<;>rfl,h,hs.ev X⟩

theorem AG(hs:aF c s m a w ids){X Y Z:Operand}(ho:o.op=.pick X Y Z){K:KT}(h:AB (ev s X) (ev s Y) (ev s Z) fun v=>K v m)(hn:cq c s o K next):o.wp P a w next Q:=by
 have hx:=hs.ev X;have e:execOp a.eval o=(do pure (.value (if <-asBool (a.eval X) then a.eval Y else a.eval Z))):=by unfold execOp;rw[ho]
 unfold AB at h;split at h
 ·rename_i hv;rw[hv] at hx;rw[dp] at h;exact aP hs hn ⟨_,a.eval Y,by rw[e,hx.dL];rfl,h,hs.ev Y⟩
 ·rename_i hv;rw[hv] at hx;rw[dp] at h;exact aP hs hn ⟨_,a.eval Z,by rw[e,hx.dL];rfl,h,hs.ev Z⟩
 ·rename_i b hv;rw[hv] at hx;rw[dp,dp] at h;cases b
  ·exact aP hs hn ⟨_,a.eval Z,by rw[e,hx.iI];rfl,h.2 rfl,hs.ev Z⟩
  ·exact aP hs hn ⟨_,a.eval Y,by rw[e,hx.iI];rfl,h.1 rfl,hs.ev Y⟩
 ·exact h.elim

theorem uj(hs:aF c s m a w ids){X:Operand}{ix:Nat}(ho:o.op=.extract X ix){K:KT}(h:mJ (ev s X) ix fun v=>K v m)(hn:cq c s o K next):o.wp P a w next Q:=by
 have hx:=hs.ev X;have e:execOp a.eval o=(do let z <-Instr.extract (a.eval X) ix;pure (.value z)):=by unfold execOp;rw[ho]
 unfold mJ at h;split at h
 ·rename_i vs hv;rw[hv] at hx;split at h
  ·rename_i aD;have aD:ix<vs.length:=Nat.le_of_ble_eq_true aD;rw[dp] at h;obtain⟨us,h1,h2,h3⟩:=hx.jC;refine aP hs hn ⟨_,us[ix]'(by omega),?_,h,?_⟩
   ·rw[e,h1];simp[Instr.extract,List.getElem?_eq_getElem (show ix<us.length by omega)]
   ·simpa[List.getD_eq_getElem?_getD,aD] using h3 ix aD (by omega)
  ·exact h.elim
 ·exact h.elim

theorem CY(hs:aF c s m a w ids){X:Operand}(ho:o.op=.nilCheck X){K:KT}(h:Ku (ev s X) fun v=>K v m)(hn:cq c s o K next):o.wp P a w next Q:=by
 have hx:=hs.ev X
 have fin:∀v,a.eval X=v->(∀p,v=.pointer p->p≠none)->((∃p,v=.pointer p)\/∃f us,v=.func (.func f) #[] us)->(execOp a.eval o).run P w=.ok (.value v) w:=by
  intro v hv h1 h2;unfold execOp;rw[ho];simp only[hv];rcases h2 with⟨p,rfl⟩|⟨f,us,rfl⟩
  ·cases p with
   | none=>exact absurd rfl (h1 none rfl)
   | some p=>rfl
  ·rfl
 unfold Ku at h;split at h
 ·rename_i hv;rw[hv] at hx
  obtain⟨q,h2⟩:∃q,a.eval X=.pointer (some q):=by
   rcases hx.ic with⟨p,_,h2⟩|⟨_,x,y,h2⟩<;>exact⟨_,h2⟩
  exact aP hs hn ⟨_,a.eval X,fin _ rfl (fun q hq=>by rw[h2] at hq;cases hq;simp) (.inl ⟨_,h2⟩),h,hx⟩
 ·rename_i hv;rw[hv] at hx
  obtain⟨q,h2⟩:∃q,a.eval X=.pointer (some q):=by
   rcases hx.iy with⟨p,_,h2⟩|⟨_,x,y,h2⟩<;>exact⟨_,h2⟩
  exact aP hs hn ⟨_,a.eval X,fin _ rfl (fun q hq=>by rw[h2] at hq;cases hq;simp) (.inl ⟨_,h2⟩),h,hx⟩
 ·rename_i hv;rw[hv] at hx
  have h2:∃q,a.eval X=.pointer (some q):=by
   cases hx with|aI hx=>generalize a.eval X=vv at hx;cases hx;exact⟨_,rfl⟩
  obtain⟨q,h2⟩:=h2;exact aP hs hn ⟨_,a.eval X,fin _ rfl (fun q hq=>by rw[h2] at hq;cases hq;simp) (.inl ⟨_,h2⟩),h,hx⟩
 ·rename_i hv;rw[hv] at hx;obtain⟨us,h2,_⟩:=hx.gi;exact aP hs hn ⟨_,a.eval X,fin _ rfl (fun q hq=>by rw[h2] at hq;cases hq) (.inr ⟨_,_,h2⟩),h,hx⟩
 ·exact h.elim

theorem rh(aJ:bp P tt)(hs:aF c s m a w ids){X:Operand}{src dst:TypeId}(ho:o.op=.convert src dst X){K:KT}(h:vX tt src dst (ev s X) fun v=>K v m)(hn:cq c s o K next):o.wp P a w next Q:=by
 have hx:=hs.ev X;have e:execOp a.eval o=(do let z <-convert src dst (a.eval X);pure (.value z)):=by unfold execOp;rw[ho]
 unfold vX at h;split at h
 ·rename_i tj ti hj hi;obtain⟨i,d,z,_,hd,_⟩:=aJ.facts hj;obtain⟨i',d',z',_,gk,_,_,_,_,_,_,_,_,_,_,Pa,u9,_⟩:=aJ.facts hi;split at h
  ·rename_i k n hk hv;rw[hv] at hx;rw[Pa hk] at gk;rw[Kv] at h;refine aP hs hn ⟨_,.int ti.ik (ti.ik.wrap n),?_,mH h,.aI (.int _ _)⟩;rw[e,hx.bY];simp[convert,underlying,hd,gk,Conv.intToInt]
  ·rename_i st hk hv;rw[hv] at hx;rw[u9 hk] at gk;refine aP hs hn ⟨_,.string ⟨st.toArray⟩,?_,h,.aI (.str _)⟩;rw[e,hx.hU];simp[convert,underlying,hd,gk]
  ·exact h.elim
 ·exact h.elim
end
section
variable {c:Ctx} {s:List A} {m:List aq} {a:Act} {w w':World} {ids ab:dE} {P:Program} {im bo:Nat->Prop} {tt:TT}
variable {next:Act->World->Prop} {Q:Exit->Act->World->Prop} {o:Oper}

theorem AH{cs:List A}{off:Nat}{v:Value}(h:Rel ids im w (.bref cs off) v):
  ∃ao base,v=.pointer (some ⟨ao,base+off,none⟩)/\∀NR,Rel ids im w (.bref cs NR) (.pointer (some ⟨ao,base+NR,none⟩)):=by
 cases h with
 | aI h=>cases h with|bref ao base _ _ vs hb hc ho hr=>exact⟨ao,base,rfl,fun NR=>.aI (.bref ao base NR cs vs hb hc ho hr)⟩

theorem qn(aJ:bp P tt)(hs:aF c s m a w ids){t:TypeId}{X:Operand}{f:Nat}(ho:o.op=.fieldAddr t X f){K:KT}
  (h:gT tt t (ev s X) f m K) (hn:cq c s o K next):o.wp P a w next Q:=by
 have hx:=hs.ev X;have e:execOp a.eval o=(do let z <-Instr.fieldAt t (a.eval X) f;pure (.value z)):=by unfold execOp;rw[ho]
 unfold gT at h;split at h
 ·exact h.elim
 ·rename_i ti ht;obtain⟨i,d,z,hi,hd,_,_,_,_,_,_,Hl,CW,_⟩:=aJ.facts ht;split at h
  ·rename_i hk;obtain⟨fs,UJ,Kx⟩:=Hl hk;obtain⟨RE,Ky,gn⟩:=CW hk;have:RE=fs:=by rw[UJ] at Ky;cases Ky;rfl
   subst this;subst UJ;split at h
   ·exact h.elim
   ·rename_i fo fsz O5;rw[Kx,List.getElem?_map] at O5;cases NG:RE.toList[f]? with
    | none=>rw[NG] at O5;cases O5
    | some fd =>
     rw[NG] at O5;simp only[Option.map_some,Option.some.injEq,Prod.mk.injEq] at O5;obtain⟨rfl,rfl⟩:=O5
     have bL:((P.info? fd.type).map (·.size)).getD 0≠0:=by
      have:=List.all_eq_true.1 gn fd (List.mem_of_getElem? NG);simpa using this
     have run:∀ao off,a.eval X=.pointer (some ⟨ao,off,none⟩)->(execOp a.eval o).run P w=.ok (.value (.pointer (some ⟨ao,off+fd.offset,none⟩))) w:=by
      intro ao off hv;rw[e,hv];cases RF:P.info? fd.type with
      | none=>rw[RF] at bL;simp at bL
      | some fi =>
       rw[RF] at bL;simp only[Option.map_some,Option.getD_some] at bL;have hfa:RE[f]?=some fd:=by simpa using NG
       have Kz:Addr.add ⟨ao,off,none⟩ fd.offset=⟨ao,off+fd.offset,none⟩:=by
        unfold Addr.add;split
        ·rename_i h0;rw[h0];rfl
        ·rfl
       simp[Instr.fieldAt,underlying,hd,hfa,Instr.sureAddr,fieldPlace,sizeOf,typeInfo,RF,bL,Kz]
     split at h
     ·rename_i b off hv;rw[hv] at hx;rw[aO] at h;rcases hx.ic with⟨p,h1,h2⟩|⟨h1,x,y,h2⟩
      ·exact aP hs hn ⟨_,_,run _ _ h2,h,.ref b _ p h1⟩
      ·exact aP hs hn ⟨_,_,run _ _ h2,h,.ki b _ _ _ h1⟩
     ·rename_i b i' off hv;rw[hv] at hx;rw[aO] at h;rcases hx.iy with⟨p,h1,h2⟩|⟨h1,x,y,h2⟩
      ·refine aP hs hn ⟨_,_,run _ _ h2,h,?_⟩;rw[Nat.add_assoc];exact .oref b i' _ p h1
      ·exact aP hs hn ⟨_,_,run _ _ h2,h,.gA b i' _ _ _ h1⟩
     ·rename_i cs off hv;rw[hv] at hx;obtain⟨ao,base,h1,h2⟩:=AH hx;rw[aO] at h;refine aP hs hn ⟨_,_,run _ _ h1,h,?_⟩;rw[Nat.add_assoc];exact h2 _
     ·exact h.elim
  ·exact h.elim

theorem uk(ao off n:Nat):Addr.add ⟨ao,off,none⟩ n=⟨ao,off+n,none⟩:=by
 unfold Addr.add;split
 ·rename_i h0;rw[h0];rfl
 ·rfl

theorem qo(aJ:bp P tt)(hs:aF c s m a w ids){t:TypeId}{X Y:Operand}(ho:o.op=.indexAddr t X Y){K:KT}
  (h:eG tt t (ev s X) (ev s Y) m K) (hn:cq c s o K next):o.wp P a w next Q:=by
 have hx:=hs.ev X;have hy:=hs.ev Y;have e:execOp a.eval o=(do let z <-Instr.indexAt t (a.eval X) (a.eval Y);pure (.value z)):=by unfold execOp;rw[ho]
 unfold eG at h;split at h
 ·exact h.elim
 ·rename_i ti ht;obtain⟨i,d,z,hi,hd,_,_,_,_,_,_,_,_,ot,jt,_⟩:=aJ.facts ht;split at h
  ·rename_i k ix hk hv;rw[hv] at hy;obtain⟨ie,ze,CZ,iT,nZ,_⟩:=jt hk;subst CZ
   have run:∀ao base n cap,a.eval X=.slice (some ⟨ao,base,none⟩) n cap->0<=ix->ix<n->(execOp a.eval o).run P w=.ok (.value (.pointer (some ⟨ao,base+ix.toNat*ti.bB,none⟩))) w:=by
    intro ao base n cap AI h0 h1;rw[e,AI,hy.bY];simp[Instr.indexAt,asIntOf,underlying,hd,h0,h1,sizeOf,typeInfo,iT,nZ,uk]
   split at h
   ·rename_i n sz row AI;rw[AI] at hx;split at h
    ·rename_i bL;have bL:sz=ti.bB:=Nat.eq_of_beq_eq_true bL;obtain⟨⟨h0,h1⟩,h⟩:=h;rw[ck] at h;cases hx with
     | aI hx =>
      generalize SR:a.eval X=vv at hx;cases hx with
      | sn=>exact absurd h1 (by simp;omega)
      | sle=>exact absurd h1 (by simp;omega)
      | sl _ _ _ ao base cap vs hb kQ hl hc UH hr =>
       have aD:ix.toNat<n:=by omega
       refine aP hs hn ⟨_,_,run _ _ _ _ SR h0 h1,h,?_⟩;rw[<-bL];refine .aI (.bref ao (base+ix.toNat*sz) 0 (row ix.toNat) (vs ix.toNat) hb ?_ ?_ ?_)
       ·intro j hj;rw[hl _ aD] at hj;exact hc _ _ aD hj
       ·intro j hj;rw[hl _ aD] at hj;exact UH _ _ aD hj
       ·intro j hj;exact hr _ _ aD hj
    ·exact h.elim
   ·rename_i b AI;rw[AI] at hx;split at h
    ·rename_i ty sz n row hb;split at h
     ·rename_i bL;have bL:sz=ti.bB:=Nat.eq_of_beq_eq_true bL;obtain⟨⟨h0,h1⟩,h⟩:=h;rcases hs.fL hx (by rw[hb];simp) with⟨g1,g2⟩|⟨p,cap,g1,g2,g3,g4⟩
      ·exfalso
       have fI:b<ids.length:=by
        rcases Nat.lt_or_ge b ids.length with h'|h'
        ·exact h'
        ·rw[List.getElem?_eq_none h'] at g1;cases g1
       have ly:b<m.length:=by rw[<-hs.aL];exact fI
       have lJ:=hs.bC b ly fI;rw[List.getElem?_eq_getElem fI] at g1;rw[Option.some.inj g1] at lJ;have:m[b]=.row ty sz n row:=by simpa[List.getD_eq_getElem?_getD,ly] using hb
       rw[this] at lJ;have lJ:n=0:=lJ;omega
      ·obtain⟨x,lV,lJ⟩:=hs.eF g1;rw[bj lV] at hb;subst hb;obtain⟨q1,q2,_⟩:=lJ;rw[q2] at g4;refine aP hs hn ⟨_,_,run _ _ _ _ g4 h0 h1,h,?_⟩;have:=Rel.oref (ids:=ids) (im:=au c ids w) (w:=w) b ix.toNat 0 p g1;rw[<-bL,<-q1];simpa using this
     ·exact h.elim
    ·exact h.elim
   ·exact h.elim
  ·rename_i k ix hk hv;rw[hv] at hy;obtain⟨ie,CZ,iT,nZ⟩:=ot hk;subst CZ
   have run:∀ao off,a.eval X=.pointer (some ⟨ao,off,none⟩)->0<=ix->ix<(ti.ln:Int)->(execOp a.eval o).run P w=.ok (.value (.pointer (some ⟨ao,off+ix.toNat*ti.bB,none⟩))) w:=by
    intro ao off AI h0 h1;rw[e,AI,hy.bY];simp[Instr.indexAt,asIntOf,underlying,hd,Instr.sureAddr,h0,h1,sizeOf,typeInfo,iT,nZ,uk]
   split at h
   ·rename_i b off AI;rw[AI] at hx;obtain⟨⟨h0,h1⟩,h⟩:=h;rw[aO] at h;rcases hx.ic with⟨p,g1,g2⟩|⟨g1,x,y,g2⟩
    ·exact aP hs hn ⟨_,_,run _ _ g2 h0 h1,h,.ref b _ p g1⟩
    ·exact aP hs hn ⟨_,_,run _ _ g2 h0 h1,h,.ki b _ _ _ g1⟩
   ·rename_i cs off AI;rw[AI] at hx;obtain⟨⟨h0,h1⟩,h⟩:=h;obtain⟨ao,base,g1,g2⟩:=AH hx;rw[aO] at h;refine aP hs hn ⟨_,_,run _ _ g1 h0 h1,h,?_⟩;rw[Nat.add_assoc];exact g2 _
   ·exact h.elim
  ·exact h.elim
end
section
variable {c:Ctx} {s:List A} {m:List aq} {a:Act} {w w':World} {ids ab:dE} {P:Program} {im bo:Nat->Prop} {tt:TT}
variable {next:Act->World->Prop} {Q:Exit->Act->World->Prop} {o:Oper}

/-- A new block, and a value that names it. -/
theorem xE(hs:aF c s m a w ids){K:KT}(hn:cq c s o K next)(x:aq)(vs:Array Value)(ty:TypeId)(n sz:Nat){r:A}{v:Value}
  (bW:(execOp a.eval o).run P w=.ok (.value v) (w.alloc (.cells vs ty))) (hk:K r (m++[x]))
  (hx:∀ab bo w',(∀b,au c ids w b->bo b)->(∀b,au c ids w b->w'.heap[b]?=w.heap[b]?)->(∀(b:Nat) p,ids[b]?=some p->p≠.dead->ab[b]?=some p) ->
   w'.heap[w.heap.size]?=some (.cells vs ty (0,0))->aX ab bo w' x (.lv (mkId w.heap.size vs.size n sz)))
  (hr:∀ab bo w',ab[m.length]?=some (.lv (mkId w.heap.size vs.size n sz))->Rel ab bo w' r v):o.wp P a w next Q:=by
 have bH:=hs.alloc x vs ty n sz hx;refine aR bW (hn r _ _ _ _ hk (bH.bf o.dst (hr _ _ _ ?_)));rw[<-hs.aL];simp

theorem C0(hs:aF c s m a w ids){t:TypeId}{X:Operand}(ho:o.op=.box t X){K:KT}(h:Ry t (ev s X) m K)(hn:cq c s o K next):o.wp P a w next Q:=by
 have hx:=hs.ev X;unfold Ry at h;split at h
 ·rename_i cs hc;rw[fG] at h;obtain⟨vs,h1,h2,h3,h4⟩:=ng hc hx;refine xE hs hn (.box t cs) vs.toArray t 0 0 (v:=.pointer (some ⟨w.heap.size,0,none⟩)) ?_ h ?_ ?_
  ·unfold execOp;rw[ho];simp[Instr.box,newVar,newRow,h1]
  ·intro ab bo w' g1 g2 g3 g4;refine⟨vs.toArray,g4,rfl,by simp[h2],?_⟩;intro j hj cj;simp at cj;refine⟨(by simpa using(h4 j hj cj).mono g1 g2 g3),?_⟩;simpa using h3 _ (List.getElem_mem cj)
  ·intro ab bo w' g;exact .ref _ _ _ g
 ·exact h.elim

theorem xF(aJ:bp P tt)(hs:aF c s m a w ids){t:TypeId}(ho:o.op=.alloc t){K:KT}(h:CT tt t m K)(hn:cq c s o K next):o.wp P a w next Q:=by
 unfold CT at h;split at h
 ·rename_i ti ht;obtain⟨i,d,z,hi,hd,hz,bL,fV,pC,hzero,_⟩:=aJ.facts ht;rw[fG] at h;refine xE hs hn (.box t ti.zero) z.cells t 0 0 (v:=.pointer (some ⟨w.heap.size,0,none⟩)) ?_ h ?_ ?_
  ·unfold execOp;rw[ho];simp[Instr.alloc,zeroValue,typeInfo,hi,hz,newVar,newRow]
  ·intro ab bo w' g1 g2 g3 g4;refine⟨z.cells,g4,rfl,by simp[hzero],?_⟩;intro j hj cj;refine⟨?_,fV _ (by simp)⟩;simp only[hzero,List.getElem_map,Array.getElem_toList];exact .aI (eE _ _ _)
  ·intro ab bo w' g;exact .ref _ _ _ g
 ·exact h.elim

theorem vY(hs:aF c s m a w ids)(ps:List (Nat×Operand)):mK ids (au c ids w) w (ps.map fun p=>(p.1,ev s p.2)) (ps.map fun p=>(p.1,a.eval p.2)) :=
 ⟨by simp,fun j h h'=>by simp;exact hs.ev _⟩

theorem GH(fs:List Field)(h:fs.all (fun f=>((P.info? f.type).map (·.size)).getD 0 != 0)=true):
  fs.mapM (fun f=>(P.info? f.type).map fun i=>(f.offset,i.size))=some (fs.map fun f=>(f.offset,((P.info? f.type).map (·.size)).getD 0)):=by
 induction fs with
 | nil=>rfl
 | cons f fs ih =>
  simp only[List.all_cons,Bool.and_eq_true] at h;cases hi:P.info? f.type with
  | none=>rw[hi] at h;simp at h
  | some i=>simp[hi,ih h.2]

theorem xG(aJ:bp P tt)(hs:aF c s m a w ids){t:TypeId}{ps:Array (Nat×Operand)}(ho:o.op=.build t ps){K:KT}
  (h:ql tt t (ps.toList.map fun p=>(p.1,ev s p.2)) m K) (hn:cq c s o K next):o.wp P a w next Q:=by
 have hp:=vY hs ps.toList;unfold ql at h;split at h
 ·exact h.elim
 ·rename_i ti ht;obtain⟨i,d,z,hi,hd,hz,bL,fV,pC,hzero,_,Hl,CW,ot,_⟩:=aJ.facts ht
  have key:nV ti (ps.toList.map fun p=>(p.1,ev s p.2)) ti.zero (fun cs=>K (.agg cs) m)->(∀parts dK,Instr.fill (placeOf ti) z.cells parts=some dK->P.built t parts=some dK)->o.wp P a w next Q:=by
   intro h hb
   obtain⟨db,dK,f1,f2,f3,f4,f5⟩:=nY (ti:=ti) _ _ ti.zero z.cells.toList _ hp (by simp[hzero]) fV
    (fun j h1 h2=>by simp only[hzero,List.getElem_map];exact .aI (eE _ _ _)) h
   refine aP hs hn ⟨_,.agg dK.toArray,?_,f2,.agg db dK f3 f4 f5⟩;have:=run_build (P:=P) w t (ps.map fun p=>(p.1,a.eval p.2)) dK.toArray (hb _ _ (by simpa using f1));have e:execOp a.eval o=(do let z <-Instr.build t (ps.map fun p=>(p.1,a.eval p.2));pure (.value z)):=by unfold execOp;rw[ho]
   rw[e];simp[this]
  split at h
  ·rename_i hk;obtain⟨fs,UJ,Kx⟩:=Hl hk;obtain⟨RE,Ky,gn⟩:=CW hk;have:RE=fs:=by rw[UJ] at Ky;cases Ky;rfl
   subst this;subst UJ;refine key h ?_;intro parts dK hf;unfold Program.built;simp only[hi,hd,hz,GH RE.toList gn]
   have:(fun x=>(RE.toList.map fun f=>(f.offset,((P.info? f.type).map (·.size)).getD 0)).toArray[x]?)=placeOf ti:=by
    funext x;unfold placeOf;rw[hk];simp[Kx]
   rw[this];exact hf
  ·rename_i hk;obtain⟨ie,CZ,iT,nZ⟩:=ot hk;subst CZ;refine key h ?_;intro parts dK hf;unfold Program.built;simp only[hi,hd,hz,iT]
   have:(fun i=>some (i*ie.size,ie.size))=placeOf ti:=by
    funext x;unfold placeOf;rw[hk,nZ];rfl
   rw[this];exact hf
  ·exact h.elim

theorem nh(hs:aF c s m a w ids){b:Nat}{v:Value}(hx:Rel ids (au c ids w) w (.own b) v){ty:TypeId}{sz n:Nat}{row:Nat->List A}(hb:m.getD b .dead=.row ty sz n row):
  (n=0/\v=.slice none 0 0/\ids[b]?=some .aQ)\/∃p cap,ids[b]?=some (.lv p)/\(n<=cap/\cap<=maxLen)/\cap*sz=p.k/\p.sz=sz/\p.n=n/\v=.slice (some ⟨p.ao,0,none⟩) n cap:=by
 rcases hs.fL hx (by rw[hb];simp) with⟨g1,g2⟩|⟨p,cap,g1,g2,g3,g4⟩
 ·have fI:b<ids.length:=by
   rcases Nat.lt_or_ge b ids.length with h'|h'
   ·exact h'
   ·rw[List.getElem?_eq_none h'] at g1;cases g1
  have ly:b<m.length:=by rw[<-hs.aL];exact fI
  have lJ:=hs.bC b ly fI;rw[List.getElem?_eq_getElem fI] at g1;rw[Option.some.inj g1] at lJ;have:m[b]=.row ty sz n row:=by simpa[List.getD_eq_getElem?_getD,ly] using hb
  rw[this] at lJ;exact .inl ⟨lJ,g2,by rw[List.getElem?_eq_getElem fI];exact g1⟩
 ·obtain⟨x,lV,lJ⟩:=hs.eF g1;rw[bj lV] at hb;subst hb;obtain⟨q1,q2,_⟩:=lJ;exact .inr ⟨p,cap,g1,by rw[<-q2];exact g2,by rw[<-q1];exact g3,q1,q2,by rw[<-q2];exact g4⟩

theorem C'(aJ:bp P tt)(hs:aF c s m a w ids){X:Operand}{t:TypeId}
  (ho:o.op=.call { callee:=.builtin .len,args:=#[X],argTypes:=#[t] }) {K:KT} (h:AA tt t (ev s X) m fun v=>K v m) (hn:cq c s o K next):o.wp P a w next Q:=by
 have hx:=hs.ev X
 have e:(execOp a.eval o)=(do pure (.value (<-Builtin.len_ #[t] o.type #[a.eval X]))):=by
  obtain⟨dst,op,ty,pos,after,guard⟩:=o;simp only at ho;subst ho;rw[BigFrame.execOp_builtin,BigFrame.builtin_len];simp
 unfold AA at h;split at h
 ·exact h.elim
 ·rename_i ti ht;obtain⟨i,d,z,hi,hd,hz,bL,fV,pC,hzero,_,Hl,CW,ot,jt,Pa,u9,_⟩:=aJ.facts ht
  have GI:∀ad n cap,a.eval X=.slice ad n cap->ti.kind=3->(execOp a.eval o).run P w=.ok (.value (.int .i64 n)) w:=by
   intro ad n cap hv hk;obtain⟨ie,ze,CZ,_⟩:=jt hk;subst CZ;rw[e,hv];simp[Builtin.len_,underlying,hd,goInt]
  split at h
  ·rename_i n sz row hk hv;rw[hv] at hx;cases hx with
   | aI hx =>
    generalize SR:a.eval X=vv at hx;cases hx with
    | sn=>exact aP hs hn ⟨_,_,GI _ _ _ SR hk,h,.aI (.int _ _)⟩
    | sle=>exact aP hs hn ⟨_,_,GI _ _ _ SR hk,h,.aI (.int _ _)⟩
    | sl=>exact aP hs hn ⟨_,_,GI _ _ _ SR hk,h,.aI (.int _ _)⟩
  ·rename_i b hk hv;rw[hv] at hx;split at h
   ·rename_i ty sz n row hb;rcases nh hs hx hb with⟨rfl,g2,_⟩|⟨p,cap,g1,g2,g3,_,_,g4⟩
    ·exact aP hs hn ⟨_,_,GI _ _ _ g2 hk,h,.aI (.int _ _)⟩
    ·exact aP hs hn ⟨_,_,GI _ _ _ g4 hk,h,.aI (.int _ _)⟩
   ·exact h.elim
  ·rename_i hk hv;rw[hv] at hx;exact aP hs hn ⟨_,_,GI _ _ _ hx.dr hk,h,.aI (.int _ _)⟩
  ·rename_i st hk hv;rw[hv] at hx;have fM:=u9 hk;subst fM;refine aP hs hn ⟨_,.int .i64 st.length,?_,h,.aI (.int _ _)⟩;rw[e,hx.hU];simp[Builtin.len_,underlying,hd,goInt];rfl
  ·exact h.elim
end
section
variable {c:Ctx} {s:List A} {m:List aq} {a:Act} {w w':World} {ids ab:dE} {P:Program} {im bo:Nat->Prop} {tt:TT}
variable {next:Act->World->Prop} {Q:Exit->Act->World->Prop} {o:Oper}

theorem xH(aJ:bp P tt)(hs:aF c s m a w ids){t:TypeId}{X Y:Operand}(ho:o.op=.index t X Y){K:KT}
  (h:ug tt t (ev s X) (ev s Y) fun v=>K v m) (hn:cq c s o K next):o.wp P a w next Q:=by
 have hx:=hs.ev X;have hy:=hs.ev Y;have e:execOp a.eval o=(do let z <-Instr.index t (a.eval X) (a.eval Y);pure (.value z)):=by unfold execOp;rw[ho]
 unfold ug at h;split at h
 ·rename_i ti k ix ht hv;rw[hv] at hy;obtain⟨i,d,z,hi,hd,hz,bL,fV,pC,hzero,_,Hl,CW,ot,jt,Pa,u9,_⟩:=aJ.facts ht;split at h
  ·rename_i st hk AI;rw[AI] at hx;have fM:=u9 hk;subst fM;obtain⟨⟨h0,h1⟩,h⟩:=h;have aD:ix.toNat<st.length:=by omega
   refine aP hs hn ⟨_,_,?_,h,.aI (.int _ _)⟩;rw[e,hx.hU,hy.bY]
   have hg:(ByteArray.mk st.toArray)[ix.toNat]?=some (st[ix.toNat]):=by
    have:ix.toNat<(ByteArray.mk st.toArray).size:=aD;exact(getElem?_pos (ByteArray.mk st.toArray) ix.toNat this)
   simp[Instr.index,asIntOf,underlying,hd,h0,hg,List.getD_eq_getElem?_getD,aD]
  ·rename_i cs hk AI;rw[AI] at hx;obtain⟨ie,CZ,iT,nZ⟩:=ot hk;subst CZ;split at h
   ·rename_i te yC;obtain⟨⟨h0,h1⟩,h⟩:=h;obtain⟨i',d',z',bV,gk,_,KA,_,_,_,KB,_⟩:=aJ.facts yC;have hie':ie=i':=by rw[iT] at bV;exact Option.some.inj bV
    obtain⟨vs,Bo,Jl,VO,Pf⟩:=hx.ig
    have run:∀v,(part ti.aN vs.toArray (ix.toNat*ti.bB)).run P w=.ok v w->(execOp a.eval o).run P w=.ok (.value v) w:=by
     intro v hp;rw[e,Bo,hy.bY];simp[Instr.index,asIntOf,underlying,hd,h0,h1,sizeOf,typeInfo,iT,nZ,hp]
    unfold Ks at h;split at h
    ·rename_i hb;split at h
     ·rename_i hle;have hle:=Nat.le_of_ble_eq_true hle;rw[ck,ku] at h;have RD:((vs.drop (ix.toNat*ti.bB)).take te.size).length=te.size:=by simp;omega
      refine aP hs hn ⟨_,.agg ((vs.drop (ix.toNat*ti.bB)).take te.size).toArray,run _ ?_,h,.agg _ _ (by rw[RD];simp;omega) ?_ ?_⟩
      ·unfold part isAgg;rw[KB] at hb;cases d'<;>simp[ee] at hb<;>simp[underlying,gk,sizeOf,typeInfo,bV,KA]
      ·intro v hv;exact VO v (List.mem_of_mem_drop (List.mem_of_mem_take hv))
      ·intro j h1 h2;simp at h1 h2;have:=Pf (ix.toNat*ti.bB+j) (by omega) (by omega);simpa using this
     ·exact h.elim
    ·rename_i hb;split at h
     ·rename_i aD;have aD:ix.toNat*ti.bB<cs.length:=Nat.le_of_ble_eq_true aD;rw[dp] at h;refine aP hs hn ⟨_,vs[ix.toNat*ti.bB]'(by omega),run _ ?_,h,?_⟩
      ·unfold part isAgg;rw[KB] at hb;cases d'<;>simp[ee] at hb<;>simp[underlying,gk,List.getElem?_eq_getElem (show ix.toNat*ti.bB<vs.length by omega)]
      ·simpa[List.getD_eq_getElem?_getD,aD] using Pf _ aD (by omega)
     ·exact h.elim
   ·exact h.elim
  ·exact h.elim
 ·exact h.elim

theorem xI(aJ:bp P tt)(hs:aF c s m a w ids){t:TypeId}{X:Operand}{f:Nat}(ho:o.op=.field t X f){K:KT}
  (h:uh tt t (ev s X) f fun v=>K v m) (hn:cq c s o K next):o.wp P a w next Q:=by
 have hx:=hs.ev X;have e:execOp a.eval o=(do let z <-Instr.field t (a.eval X) f;pure (.value z)):=by unfold execOp;rw[ho]
 unfold uh at h;split at h
 ·exact h.elim
 ·rename_i ti ht;split at h
  ·rename_i fo fsz ft cs hk XD XE AI;rw[AI] at hx;obtain⟨fs,hd,WD,Wu⟩:=aJ.o8 ht hk;rw[WD] at XE;rw[Wu] at XD;simp only[List.getElem?_map,Option.map_eq_some_iff] at XE XD;obtain⟨KD,LS,rfl⟩:=XE;obtain⟨fl2,rL,XF⟩:=XD;have e12:KD=fl2:=by rw[LS] at rL;exact Option.some.inj rL
   subst e12;have XG:KD.offset=fo:=congrArg Prod.fst XF;subst XG;have hg:fs[f]?=some KD:=by rw[<-Array.getElem?_toList];exact LS
   split at h
   ·rename_i te yC;obtain⟨i',d',z',bV,gk,_,KA,_,_,_,KB,_⟩:=aJ.facts yC;obtain⟨vs,Bo,Jl,VO,Pf⟩:=hx.ig
    have run:∀v,(part KD.type vs.toArray KD.offset).run P w=.ok v w->(execOp a.eval o).run P w=.ok (.value v) w:=by
     intro v hp;rw[e,Bo];simp[Instr.field,underlying,hd,hg,asAgg,hp]
    unfold Ks at h;split at h
    ·rename_i hb;split at h
     ·rename_i hle;have hle:=Nat.le_of_ble_eq_true hle;rw[ck,ku] at h;have RD:((vs.drop KD.offset).take te.size).length=te.size:=by simp;omega
      refine aP hs hn ⟨_,.agg ((vs.drop KD.offset).take te.size).toArray,run _ ?_,h,.agg _ _ (by rw[RD];simp;omega) ?_ ?_⟩
      ·unfold part isAgg;rw[KB] at hb;cases d'<;>simp[ee] at hb<;>simp[underlying,gk,sizeOf,typeInfo,bV,KA]
      ·intro v hv;exact VO v (List.mem_of_mem_drop (List.mem_of_mem_take hv))
      ·intro j h1 h2;simp at h1 h2;have:=Pf (KD.offset+j) (by omega) (by omega);simpa using this
     ·exact h.elim
    ·rename_i hb;split at h
     ·rename_i aD;have aD:KD.offset<cs.length:=Nat.le_of_ble_eq_true aD;rw[dp] at h;refine aP hs hn ⟨_,vs[KD.offset]'(by omega),run _ ?_,h,?_⟩
      ·unfold part isAgg;rw[KB] at hb;cases d'<;>simp[ee] at hb<;>simp[underlying,gk,List.getElem?_eq_getElem (show KD.offset<vs.length by omega)]
      ·simpa[List.getD_eq_getElem?_getD,aD] using Pf _ aD (by omega)
     ·exact h.elim
   ·exact h.elim
  ·exact h.elim

theorem lz(hs:aF c s m a w ids)(xs:List Operand):∀j (h:j<(xs.map (ev s)).length) (h':j<(xs.map a.eval).length),Rel ids (au c ids w) w (xs.map (ev s))[j] (xs.map a.eval)[j]:=by
 intro j h h';simp;exact hs.ev _

theorem sc(hs:aF c s m a w ids){f:FuncId}{xs:Array Operand}(ho:o.op=.makeFunc (.func f) #[] xs){K:KT}
  (h:K (.fn f (xs.toList.map (ev s))) m) (hn:cq c s o K next):o.wp P a w next Q:=by
 refine aP hs hn ⟨_,.func (.func f) #[] (xs.toList.map a.eval).toArray,?_,h,.fn f _ _ (by simp) (lz hs xs.toList)⟩;have e:(xs.map a.eval)=(xs.toList.map a.eval).toArray:=by apply Array.ext';simp
 unfold execOp;rw[ho];simp[Instr.makeFunc,e]

def KE:A->List A->(A->Prop)->Prop
 | x,[],K=>fv x K
 | x,y::ys,K=>VM x y fun v=>KE v ys K
def KF:A->List A->(A->Prop)->Prop
 | x,[],K=>fv x K
 | x,y::ys,K=>VN x y fun v=>KF v ys K
theorem vZ:∀(ys:List A) (vs:List Value) (x:A) (v:Value) (K:A->Prop),Rel ids im w x v->ys.length=vs.length->(∀j (h:j<ys.length) (h':j<vs.length),Rel ids im w ys[j] vs[j])->KE x ys K ->
  ∃r u,(vs.foldlM Builtin.min2 v).run P w=.ok u w/\K r/\Rel ids im w r u
 | [],vs,x,v,K,hx,hl,hr,h=>by
  have:vs=[]:=by cases vs<;>simp at hl ⊢
  subst this;rw[KE,dp] at h;exact⟨x,v,by simp,h,hx⟩
 | y::ys,vs,x,v,K,hx,hl,hr,h=>by
  cases vs with
  | nil=>simp at hl
  | cons u us =>
   have hy:Rel ids im w y u:=hr 0 (by simp) (by simp);simp only[KE] at h;unfold VM at h;split at h
   ·rename_i k a' k' b';rw[hx.bY,hy.bY]
    obtain⟨r,z,h1,h2,h3⟩:=vZ ys us (.int k (if b'<a' then b' else a')) (.int k (if b'<a' then b' else a')) K (.aI (.int _ _)) (by simpa using hl)
     (fun j h1 h2=>hr (j+1) (Nat.succ_lt_succ h1) (Nat.succ_lt_succ h2)) h
    exact⟨r,z,by simp[List.foldlM_cons,Builtin.min2,h1],h2,h3⟩
   ·exact h.elim
theorem v7:∀(ys:List A) (vs:List Value) (x:A) (v:Value) (K:A->Prop),Rel ids im w x v->ys.length=vs.length->(∀j (h:j<ys.length) (h':j<vs.length),Rel ids im w ys[j] vs[j])->KF x ys K ->
  ∃r u,(vs.foldlM Builtin.max2 v).run P w=.ok u w/\K r/\Rel ids im w r u
 | [],vs,x,v,K,hx,hl,hr,h=>by
  have:vs=[]:=by cases vs<;>simp at hl ⊢
  subst this;rw[KF,dp] at h;exact⟨x,v,by simp,h,hx⟩
 | y::ys,vs,x,v,K,hx,hl,hr,h=>by
  cases vs with
  | nil=>simp at hl
  | cons u us =>
   have hy:Rel ids im w y u:=hr 0 (by simp) (by simp);simp only[KF] at h;unfold VN at h;split at h
   ·rename_i k a' k' b';rw[hx.bY,hy.bY]
    obtain⟨r,z,h1,h2,h3⟩:=v7 ys us (.int k (if a'<b' then b' else a')) (.int k (if a'<b' then b' else a')) K (.aI (.int _ _)) (by simpa using hl)
     (fun j h1 h2=>hr (j+1) (Nat.succ_lt_succ h1) (Nat.succ_lt_succ h2)) h
    exact⟨r,z,by simp[List.foldlM_cons,Builtin.max2,h1],h2,h3⟩
   ·exact h.elim
end
def fd:Nat->A->(A->Prop)->Prop
 | 0,x,K=>fv x K
 | d+1,x,K=>match x with
  | .agg cs=>qp d cs fun c=>K (.agg c)
  | .tup cs=>qp d cs fun c=>K (.tup c)
  | .fn f cs=>qp d cs fun c=>K (.fn f c)
  | .bref cs o=>qp d cs fun c=>K (.bref c o)
  | x=>fv x K
where qp (d:Nat):List A->(List A->Prop)->Prop
 | [],K=>K []
 | a::as,K=>fd d a fun a'=>qp d as fun jl=>K (a'::jl)
mutual
theorem eI:∀(d:Nat) (x:A) (K:A->Prop),fd d x K=K x
 | 0,x,K=>by rw[fd,dp]
 | d+1,x,K=>by cases x<;>simp only[fd,cK,dp]
theorem cK:∀(d:Nat) (l:List A) (K:List A->Prop),fd.qp d l K=K l
 | _,[],_=>by rw[fd.qp]
 | d,a::as,K=>by rw[fd.qp];simp only[eI,cK d as]
end

def plain:Nat->A->Bool
 | 0,_=>false
 | d+1,x=>match x with
  | .int _ _=>true
  | .bool _=>true
  | .sb _=>true
  | .str _=>true
  | .gH=>true
  | .aV=>true
  | .fU=>true
  | .agg cs=>cs.all (plain d)
  | .tup cs=>cs.all (plain d)
  | _=>false
/-- A cell of a slice of maps, as a value. -/
def XH(agg:Bool)(sh:List KS)(x:Nat)(has:List KC->Bool)(val:List KC->A):A:=match x with
 | 0=>.fU
 | 1=>.mv agg sh has val
 | _=>.af
def wk(m:List aq):Nat->A->A
 | 0,_=>.af
 | d+1,x=>match x with
  | .ref b off=>match m.getD b .dead with
   | .box _ cs=>.bref (cs.map (wk m d)) off
   | _=>.af
  | .oref _ _ _=>.af
  | .own b=>match m.getD b .dead with
   | .row _ sz n row=>.sl n sz row
   | .nest _ _ sz n hole len row=>match hole with
    | none=>.sl n 1 fun i=>[.sl (len i) sz (row i)]
    | some _=>.af
   | .cM _ agg sh n _ cs jA has val=>match cs.isEmpty with
    | true=>.sl n 1 fun i=>[XH agg sh (jA i) (has i) (val i)]
    | false=>.af
   | _=>.af
  | .omap b=>match m.getD b .dead with
   | .eP g n key val=>.mv g n key val
   | _=>.af
  | .qZ _ _=>.af
  | .nw _ _=>.af
  | .agg cs=>.agg (cs.map (wk m d))
  | .tup cs=>.tup (cs.map (wk m d))
  | .fn f cs=>.fn f (cs.map (wk m d))
  | x=>x

section
variable {c:Ctx} {s:List A} {m:List aq} {a:Act} {w w':World} {ids ab:dE} {P:Program} {im bo:Nat->Prop} {tt:TT}
variable {next:Act->World->Prop} {Q:Exit->Act->World->Prop} {o:Oper}

theorem qq:∀(d:Nat) (x:A) (v:Value),plain d x=true->aw im w x v->aw bo w' x v
 | 0,x,v,h,_=>by cases h
 | d+1,x,v,h,hr=>by
  cases hr with
  | int=>exact .int _ _
  | bool=>exact .bool _
  | sb=>exact .sb _
  | str=>exact .str _
  | gH=>exact .gH
  | aV=>exact .aV
  | agg cs vs hl ho hr =>
   refine .agg cs vs hl ho fun j h1 h2=>qq d _ _ ?_ (hr j h1 h2);simp only[plain,List.all_eq_true] at h;exact h _ (List.getElem_mem h1)
  | tup cs vs hl hr =>
   refine .tup cs vs hl fun j h1 h2=>qq d _ _ ?_ (hr j h1 h2);simp only[plain,List.all_eq_true] at h;exact h _ (List.getElem_mem h1)
  | bref=>cases h
  | sn=>cases h
  | sle=>cases h
  | sl=>cases h
  | fn=>cases h
  | bz=>cases h
  | fU=>exact .fU
  | mv=>cases h
  | af=>cases h

/-- What may be read through a value, all that is the call's own besides. -/
def rl(c:Ctx)(ids:dE)(w:World):Nat->Prop:=fun b=>au c ids w b\/∃p,dT.lv p∈ids/\p.has b

theorem AJ{ty:TypeId}{agg:Bool}{sh:List KS}{n hi:Nat}{cs:List A}{jA:Nat->Nat}{has:Nat->List KC->Bool}{val:Nat->List KC->A}{p:Id}{cap:Nat}
  (hB:aX ids im w (.cM ty agg sh n hi cs jA has val) (.lv p)) (he:cs.isEmpty=true) (hc:p.n<=cap) (hA:∀x,im x->bo x) (hZ:∀x,p.has x->bo x) :
  aw bo w (.sl n 1 fun i=>[XH agg sh (jA i) (has i) (val i)]) (.slice (some ⟨p.ao,0,none⟩) p.n cap):=by
 obtain⟨q1,q2,q3,sd,g1,g2,g3,g4,kb,g5⟩:=hB;subst q2;have he:cs.length=0:=by cases cs with|nil=>rfl|cons x xs=>cases he
 refine .sl p.n 1 _ p.ao 0 cap (fun i j=>sd.getD (i*1+j) undef) (hZ _ (.inl rfl)) hc (fun _ _=>rfl) ?_ ?_ ?_
 ·intro i j hi hj;rw[Nat.zero_add,cell_of_row w p.ao _ sd ty (0,0) g1];simp[Array.getD_eq_getD_getElem?,show i+j<sd.size by omega]
 ·intro i j hi hj;have KG:j=0:=by omega
  subst KG;have hk:i<sd.size:=by omega
  simp only[Nat.mul_one,Nat.add_zero,Array.getD_eq_getD_getElem?,Array.getElem?_eq_getElem hk,Option.getD_some];obtain⟨⟨x,e⟩,_⟩:=g5 i hi hk;rw[e];rfl
 ·intro i j hi hj;have KG:j=0:=by simp at hj;omega
  subst KG;have hk:i<sd.size:=by omega
  simp only[Nat.mul_one,Nat.add_zero,Array.getD_eq_getD_getElem?,Array.getElem?_eq_getElem hk,Option.getD_some,List.getElem_cons_zero];obtain⟨_,k1⟩:=g5 i hi hk;obtain⟨k2,k3⟩:=k1 (.inl he);unfold XH;split
  ·rename_i e;rw[k2 e];exact .fU
  ·rename_i e;obtain⟨e1,e2,⟨es,clock,f,m1,m2,m3,m4,m5,m6,m7⟩,_⟩:=k3 e;rw[e1];exact .mv _ _ _ _ _ es clock f (hZ _ (.inr e2)) m1 m2 m3 m4 (fun i hi=>(m5 i hi).mono hA (fun _ _=>rfl)) m6 m7
  ·exact .af _
theorem jQ(hs:aF c s m a w ids):∀(d:Nat) (x:A) (v:Value),Rel ids (au c ids w) w x v->aw (rl c ids w) w (wk m d x) v
 | 0,x,v,_=>.af _
 | d+1,x,v,hr=>by
  have up:aw (au c ids w) w x v->aw (rl c ids w) w x v:=fun h=>h.mono (fun _ h=>.inl h) (fun _ _=>rfl);cases hr with
  | aI hr =>
   cases hr with
   | agg cs vs hl ho hr=>exact .agg _ vs (by simp[hl]) ho fun j h1 h2=>by simpa using jQ hs d _ _ (.aI (hr j (by simpa using h1) h2))
   | tup cs vs hl hr=>exact .tup _ vs (by simp[hl]) fun j h1 h2=>by simpa using jQ hs d _ _ (.aI (hr j (by simpa using h1) h2))
   | fn f cs vs hl hr=>exact .fn f _ vs (by simp[hl]) fun j h1 h2=>by simpa using jQ hs d _ _ (.aI (hr j (by simpa using h1) h2))
   | int=>exact .int _ _
   | bool=>exact .bool _
   | sb=>exact .sb _
   | str=>exact .str _
   | gH=>exact .gH
   | aV=>exact .aV
   | bz=>exact .bz
   | fU=>exact .fU
   | mv g n key val r es clock f hb hh hk hd hc hv Fy DF=>exact up (.mv g n key val r es clock f hb hh hk hd hc hv Fy DF)
   | af=>exact .af _
   | sn=>exact .sn _ _
   | sle=>exact .sle _ _ _ _
   | sl n sz row ao base cap vs hb kQ hl hc ho hr=>exact up (.sl n sz row ao base cap vs hb kQ hl hc ho hr)
   | bref ao base off cs vs hb hc ho hr=>exact up (.bref ao base off cs vs hb hc ho hr)
  | ref b off p h =>
   simp only[wk];split
   ·rename_i ty cs hb;obtain⟨vs,h1,h2,h3,h4⟩:=hs.sS h hb
    have:=aw.bref (im:=rl c ids w) (w:=w) p.ao 0 off (cs.map (wk m d)) (fun j=>vs.getD j undef) (.inr ⟨p,List.mem_of_getElem? h,.inl rfl⟩)
     (fun j hj=>by simp at hj;have:=h2 j (by omega);simpa[List.getD_eq_getElem?_getD,show j<vs.length by omega] using this)
     (fun j hj=>by simp at hj;have:=h3 _ (List.getElem_mem (show j<vs.length by omega));simpa[List.getD_eq_getElem?_getD,show j<vs.length by omega] using this)
     (fun j hj=>by
      simp at hj;have:=jQ hs d _ _ (h4 j hj (by omega));simpa[List.getD_eq_getElem?_getD,show j<vs.length by omega] using this)
    simpa using this
   ·exact .af _
  | oref=>exact .af _
  | qZ=>exact .af _
  | qh=>exact .af _
  | nw=>exact .af _
  | qi=>exact .af _
  | nT=>exact .af _
  | kj b x n cap h=>simp only[wk,hs.dn h];exact .af _
  | ki b off x y h=>simp only[wk,hs.dn h];exact .af _
  | gA=>exact .af _
  | fS b x h=>simp only[wk,hs.dn h];exact .af _
  | fX b h =>
   simp only[wk];split
   ·rename_i ty sz n row hb;rcases nh hs (.fX b h) hb with⟨rfl,_,_⟩|⟨p,cap,g1,_⟩
    ·exact .sn _ _
    ·rw[h] at g1;cases g1
   ·rename_i hb
    have aD:b<ids.length:=by
     rcases Nat.lt_or_ge b ids.length with h'|h'
     ·exact h'
     ·rw[List.getElem?_eq_none h'] at h;cases h
    have:=hs.bC b (by rw[<-hs.aL];exact aD) aD;rw[List.getElem?_eq_getElem aD] at h
    have e:m[b]'(by rw[<-hs.aL];exact aD)=m.getD b .dead:=by
     rw[List.getD_eq_getElem?_getD,List.getElem?_eq_getElem (by rw[<-hs.aL];exact aD)];rfl
    rw[e,hb,Option.some.inj h] at this;have this:_=0:=this;subst this;split
    ·exact .sn _ _
    ·exact .af _
   ·rename_i ty agg sh n dB cs jA has val hb
    have aD:b<ids.length:=by
     rcases Nat.lt_or_ge b ids.length with h'|h'
     ·exact h'
     ·rw[List.getElem?_eq_none h'] at h;cases h
    have:=hs.bC b (by rw[<-hs.aL];exact aD) aD;rw[List.getElem?_eq_getElem aD] at h
    have e:m[b]'(by rw[<-hs.aL];exact aD)=m.getD b .dead:=by
     rw[List.getD_eq_getElem?_getD,List.getElem?_eq_getElem (by rw[<-hs.aL];exact aD)];rfl
    rw[e,hb,Option.some.inj h] at this;have this:_=0:=this;subst this;split
    ·exact .sn _ _
    ·exact .af _
   ·exact .af _
  | own b cap p h hn hm =>
   simp only[wk];split
   ·rename_i ty sz n row hb;obtain⟨x,lV,lJ⟩:=hs.eF h;rw[bj lV] at hb;subst hb;obtain⟨q1,q2,sd,g1,g2,g3,hl,g5⟩:=lJ;subst q1;subst q2
    have aD:∀i j,i<p.n->j<p.sz->i*p.sz+j<sd.size:=by
     intro i j hi hj;have:=Nat.mul_le_mul_right p.sz (show i+1<=p.n from hi);rw[Nat.add_mul] at this;omega
    refine .sl p.n p.sz row p.ao 0 cap (fun i j=>sd.getD (i*p.sz+j) undef) (.inr ⟨p,List.mem_of_getElem? h,.inl rfl⟩) hn.1 hl ?_ ?_ ?_
    ·intro i j hi hj;have hk:=aD i j hi hj;rw[Nat.zero_add,cell_of_row w p.ao _ sd ty (0,0) g1];simp[Array.getD_eq_getD_getElem?,hk]
    ·intro i j hi hj;have hk:=aD i j hi hj;have:=(g5 i j hi (by rw[hl i hi];exact hj) hk).2;simpa[Array.getD_eq_getD_getElem?,hk] using this
    ·intro i j hi hj;have hk:=aD i j hi (by rw[<-hl i hi];exact hj);have:=(g5 i j hi hj hk).1;simp only[Array.getD_eq_getD_getElem?,Array.getElem?_eq_getElem hk,Option.getD_some];exact this.mono (fun _ h=>.inl h) (fun _ _=>rfl)
   ·rename_i ty aN sz n hole len row hb;split
    ·skip
     obtain⟨x,lV,lJ⟩:=hs.eF h;rw[bj lV] at hb;subst hb;obtain⟨q1,q2,q3,sd,g1,g2,g3,kb,g5⟩:=lJ;subst q2;refine .sl p.n 1 _ p.ao 0 cap (fun i j=>sd.getD (i*1+j) undef) (.inr ⟨p,List.mem_of_getElem? h,.inl rfl⟩) hn.1 (fun _ _=>rfl) ?_ ?_ ?_
     ·intro i j hi hj;rw[Nat.zero_add,cell_of_row w p.ao _ sd ty (0,0) g1];simp[Array.getD_eq_getD_getElem?,show i+j<sd.size by omega]
     ·intro i j hi hj;have KG:j=0:=by omega
      subst KG;have hk:i<sd.size:=by omega
      simp only[Nat.mul_one,Nat.add_zero,Array.getD_eq_getD_getElem?,Array.getElem?_eq_getElem hk,Option.getD_some];rcases (g5 i hi (by simp) hk).1 with⟨e,_⟩|⟨q,nM,dK,e,_⟩<;>rw[e]<;>rfl
     ·intro i j hi hj;have KG:j=0:=by simp at hj;omega
      subst KG;have hk:i<sd.size:=by omega
      simp only[Nat.mul_one,Nat.add_zero,Array.getD_eq_getD_getElem?,Array.getElem?_eq_getElem hk,Option.getD_some,List.getElem_cons_zero];obtain⟨k1,k2,_⟩:=g5 i hi (by simp) hk;rcases k1 with⟨e1,e2,_⟩|⟨q,nM,dK,e1,e2,e3,e4,e5,e6,e7,e8⟩
      ·rw[e1,e2];exact .sn _ _
      ·rw[e1]
       have aD:∀i' j,i'<len i->j<sz->i'*sz+j<dK.size:=by
        intro i' j bV hj;have h1:=Nat.mul_le_mul_right sz (show i'+1<=len i from bV);have h2:=Nat.mul_le_mul_right sz e5;rw[Nat.add_mul] at h1;omega
       refine .sl (len i) sz (row i) q 0 nM (fun i' j=>dK.getD (i'*sz+j) undef) (.inr ⟨p,List.mem_of_getElem? h,.inr (k2 q e2)⟩) e5 e7 ?_ ?_ ?_
       ·intro i' j bV hj;have hk:=aD i' j bV hj;rw[Nat.zero_add,cell_of_row w q _ dK aN (0,0) e3];simp[Array.getD_eq_getD_getElem?,hk]
       ·intro i' j bV hj;have hk:=aD i' j bV hj;have:=(e8 i' j bV (by rw[e7 i' bV];exact hj) hk).2;simpa[Array.getD_eq_getD_getElem?,hk] using this
       ·intro i' j bV hj;have hk:=aD i' j bV (by rw[<-e7 i' bV];exact hj);have:=(e8 i' j bV hj hk).1;simp only[Array.getD_eq_getD_getElem?,Array.getElem?_eq_getElem hk,Option.getD_some];exact this.mono (fun _ h=>.inl h) (fun _ _=>rfl)
    ·exact .af _
   ·rename_i ty agg sh n dB cs jA has val hb;split
    ·rename_i he;obtain⟨x,lV,lJ⟩:=hs.eF h;rw[bj lV] at hb;subst hb;exact AJ lJ he hn.1 (fun _ h=>.inl h) (fun x hx=>.inr ⟨p,List.mem_of_getElem? h,hx⟩)
    ·exact .af _
   ·exact .af _
  | omap b p h =>
   simp only[wk];split
   ·rename_i g n key val hb;obtain⟨x,lV,lJ⟩:=hs.eF h;rw[bj lV] at hb;subst hb;obtain⟨es,clock,f,g1,g2,g3,g4,g5,g6,g7⟩:=lJ;exact .mv g n key val p.ao es clock f (.inr ⟨p,List.mem_of_getElem? h,.inl rfl⟩) g1 g2 g3 g4 (fun i hi=>(g5 i hi).mono (fun _ h=>.inl h) (fun _ _=>rfl)) g6 g7
   ·exact .af _
  | agg cs vs hl ho hr=>exact .agg _ vs (by simp[hl]) ho fun j h1 h2=>by simpa using jQ hs d _ _ (hr j (by simpa using h1) h2)
  | tup cs vs hl hr=>exact .tup _ vs (by simp[hl]) fun j h1 h2=>by simpa using jQ hs d _ _ (hr j (by simpa using h1) h2)
  | fn f cs vs hl hr=>exact .fn f _ vs (by simp[hl]) fun j h1 h2=>by simpa using jQ hs d _ _ (hr j (by simpa using h1) h2)
end
def pf(s:List A):Option Operand->Option A
 | none=>none
 | some x=>some (ev s x)
def w9(x:Option A)(d y:Nat)(K:Nat->Prop):Prop :=
 match x with
 | none=>K d
 | some v=>match v with
  | .int _ i=>(0<=i/\i<=(y:Int))/\K i.toNat
  | _=>False
def um(tt:TT)(t:TypeId)(x:A)(lo hi:Option A)(K:A->Prop):Prop :=
 match tt.lookup t with
 | none=>False
 | some ti=>match ti.kind,x with
  | 4,.str s=>w9 hi s.length s.length fun h=>w9 lo 0 h fun l=>K (.str ((s.take h).drop l))
  | 3,.sl n sz row=>match Nat.beq sz ti.bB with
   | true=>w9 hi n n fun h=>w9 lo 0 h fun l=>K (.sl (h-l) sz fun i=>row (l+i))
   | false=>False
  | 3,.aV=>w9 hi 0 0 fun h=>w9 lo 0 h fun _=>K .aV
  | _,_=>False

section
variable {c:Ctx} {s:List A} {m:List aq} {a:Act} {w w':World} {ids ab:dE} {P:Program} {im bo:Nat->Prop} {tt:TT}
variable {next:Act->World->Prop} {Q:Exit->Act->World->Prop} {o:Oper}

theorem fJ(hs:aF c s m a w ids){x:Option Operand}{d y y':Nat}{K:Nat->Prop}(h:w9 (pf s x) d y K)(hy:y<=y'):
  ∃n,K n/\(x=none->n=d)/\(x.isSome->n<=y)/\∀X,x=some X->∃k i,a.eval X=.int k i/\i.toNat=n/\0<=i/\i<=(y':Int):=by
 cases x with
 | none=>exact⟨d,h,fun _=>rfl,fun h=>by simp at h,fun _ h=>by simp at h⟩
 | some X =>
  simp only[w9,pf] at h;split at h
  ·rename_i v k i hv;have hx:=hs.ev X;rw[hv] at hx;exact⟨i.toNat,h.2,fun h=>by simp at h,fun _=>by omega,fun X' hX'=>by cases hX';exact⟨k,i,hx.bY,rfl,h.1.1,by omega⟩⟩
  ·exact h.elim

theorem dH{LJ:Bool}{len cap:Nat}{lo hi:Option Operand}{h l:Nat}(hh:hi=none->h=len)(hl:lo=none->l=0)
  (eh:∀X,hi=some X->∃k i,a.eval X=.int k i/\i.toNat=h/\0<=i/\i<=(cap:Int))
  (el:∀X,lo=some X->∃k i,a.eval X=.int k i/\i.toNat=l/\0<=i/\i<=(h:Int)) :
  (Instr.sliceBounds LJ len cap (lo.map a.eval) (hi.map a.eval) none).run P w=.ok (l,h,cap) w:=by
 cases hi with
 | none =>
  have:=hh rfl;subst this;cases lo with
  | none=>have:=hl rfl;subst this;simp[Instr.sliceBounds]
  | some L =>
   obtain⟨k,i,e1,e2,e3,e4⟩:=el L rfl;simp[Instr.sliceBounds,e1,run_sliceBound,e3,e4,e2]
 | some H =>
  obtain⟨k,i,e1,e2,e3,e4⟩:=eh H rfl;cases lo with
  | none=>have:=hl rfl;subst this;simp[Instr.sliceBounds,e1,run_sliceBound,e3,e4,e2]
  | some L =>
   obtain⟨k',i',f1,f2,f3,f4⟩:=el L rfl;simp[Instr.sliceBounds,e1,run_sliceBound,e3,e4,e2,f1,f3,f4,f2]

theorem xJ(aJ:bp P tt)(hs:aF c s m a w ids){t:TypeId}{X:Operand}{lo hi:Option Operand}(ho:o.op=.slice t X lo hi none){K:KT}
  (h:um tt t (ev s X) (pf s lo) (pf s hi) fun v=>K v m) (hn:cq c s o K next):o.wp P a w next Q:=by
 have hx:=hs.ev X;have e:execOp a.eval o=(do let z <-Instr.sliceAt t (a.eval X) (lo.map a.eval) (hi.map a.eval) none;pure (.value z)):=by unfold execOp;rw[ho];rfl
 unfold um at h;split at h
 ·exact h.elim
 ·rename_i ti jn;obtain⟨i,d,z,_,hd,_,_,_,_,_,_,_,_,_,jt,Pa,u9,_⟩:=aJ.facts jn;split at h
  ·rename_i st hk hv;rw[hv] at hx;rw[u9 hk] at hd;obtain⟨hb,h,b1,b2,b3⟩:=fJ hs h (Nat.le_refl _);obtain⟨lb,h,c1,c2,c3⟩:=fJ hs h (Nat.le_refl _);refine aP hs hn ⟨_,.string ⟨((st.take hb).drop lb).toArray⟩,?_,h,.aI (.str _)⟩;have bL:(ByteArray.mk st.toArray).size=st.length:=by simp[ByteArray.size]
   rw[e,hx.hU,Sem.run_bind,run_sliceAt_string _ _ _ _ _ _ hd];have:=dH (P:=P) (w:=w) (a:=a) (LJ:=false) (len:=st.length) (cap:=st.length) b1 c1 b3 c3;simp[Instr.slice,underlying,hd,bL,this];apply ByteArray.ext
   have:lb<=hb:=by
    cases lo with
    | none=>have:=c1 rfl;omega
    | some L=>exact c2 rfl
   have:hb<=st.length:=by
    cases hi with
    | none=>have:=b1 rfl;omega
    | some L=>exact b2 rfl
   simp[ByteArray.data_extract];rw[List.drop_take]
  ·rename_i n sz row hk hv;rw[hv] at hx;obtain⟨ie,ze,gk,iT,bL,_,_,_,_⟩:=jt hk;subst gk;split at h
   ·rename_i hb;have hb:=Nat.eq_of_beq_eq_true hb
    have v8:P.underlying t=some (.slice (P.elem t)):=by
     have:P.elem t=ti.aN:=by simp[Program.elem,hd]
     rw[this];exact hd
    have GJ:P.elem t=ti.aN:=by simp[Program.elem,hd]
    cases hx with
    | aI hx =>
     have key:∀(ba:Option Addr) (cap:Nat),n<=cap->a.eval X=.slice ba n cap ->
       (∀(l h:Nat),l<=h->h<=n->aw (au c ids w) w (.sl (h-l) sz fun i=>row (l+i)) (.slice (if cap=l then ba else ba.map (·.add (l*sz))) (h-l) (cap-l)))->o.wp P a w next Q:=by
      intro ba cap kQ hX hrel;obtain⟨gG,h,b1,b2,b3⟩:=fJ hs h kQ;obtain⟨lb,h,c1,c2,c3⟩:=fJ hs h (Nat.le_refl _)
      have q1:lb<=gG:=by
       cases lo with
       | none=>have:=c1 rfl;omega
       | some L=>exact c2 rfl
      have q2:gG<=n:=by
       cases hi with
       | none=>have:=b1 rfl;omega
       | some L=>exact b2 rfl
      refine aP hs hn ⟨_,_,?_,h,.aI (hrel lb gG q1 q2)⟩;rw[e,hX,Sem.run_bind,run_sliceAt_slice _ _ _ _ _ _ v8,run_slice_any _ _ _ _ _ v8];have:=dH (P:=P) (w:=w) (a:=a) (LJ:=true) (len:=n) (cap:=cap) b1 c1 b3 c3;simp[this,GJ,sizeOf,typeInfo,iT,bL,sliced,hb]
     generalize hX:a.eval X=V at hx;cases hx with
     | sn =>
      refine key none 0 (by omega) hX (fun l h h1 h2=>?_);have:l=0:=by omega
      subst this;have:h=0:=by omega
      subst this;exact .sn _ _
     | sle _ _ ad cap =>
      refine key (some ad) cap (by omega) hX (fun l h h1 h2=>?_);have:l=0:=by omega
      subst this;have:h=0:=by omega
      subst this;split
      ·exact .sle _ _ _ _
      ·exact .sle _ _ _ _
     | sl _ _ _ ao base cap vs hb kQ hl hc WH hr =>
      refine key _ cap kQ hX (fun l h h1 h2=>?_);by_cases P0:cap=l
      ·have e1:h-l=0:=by omega
       rw[if_pos P0,e1];exact .sl 0 sz _ ao base _ vs hb (by omega) (fun _ h=>by omega) (fun _ _ h=>by omega) (fun _ _ h=>by omega) (fun _ _ h=>by omega)
      ·rw[if_neg P0];show aw _ _ _ (.slice (some (Addr.add ⟨ao,base,none⟩ (l*sz))) _ _);rw[show Addr.add ⟨ao,base,none⟩ (l*sz)=⟨ao,base+l*sz,none⟩ from by simp[Addr.add]];refine .sl (h-l) sz (fun i=>row (l+i)) ao (base+l*sz) (cap-l) (fun i j=>vs (l+i) j) hb (by omega) (fun i hi=>hl (l+i) (by omega)) (fun i j hi hj=>?_) (fun i j hi hj=>WH (l+i) j (by omega) hj) (fun i j hi hj=>hr (l+i) j (by omega) hj);rw[<-hc (l+i) j (by omega) hj,Nat.add_mul,Nat.add_assoc base]
   ·exact h.elim
  ·rename_i hk hv;rw[hv] at hx;obtain⟨ie,ze,gk,iT,bL,_,_,_,_⟩:=jt hk;subst gk
   have v8:P.underlying t=some (.slice (P.elem t)):=by
    have:P.elem t=ti.aN:=by simp[Program.elem,hd]
    rw[this];exact hd
   have GJ:P.elem t=ti.aN:=by simp[Program.elem,hd]
   obtain⟨gG,h,b1,b2,b3⟩:=fJ hs h (Nat.le_refl _);obtain⟨lb,h,c1,c2,c3⟩:=fJ hs h (Nat.le_refl _);refine aP hs hn ⟨_,.slice none 0 0,?_,h,.aI .aV⟩
   have q2:gG<=0:=by
    cases hi with
    | none=>have:=b1 rfl;omega
    | some L=>exact b2 rfl
   have q1:lb<=gG:=by
    cases lo with
    | none=>have:=c1 rfl;omega
    | some L=>exact c2 rfl
   have:gG=0:=by omega
   subst this;have:lb=0:=by omega
   subst this;rw[e,hx.dr,Sem.run_bind,run_sliceAt_slice _ _ _ _ _ _ v8,run_slice_any _ _ _ _ _ v8];have:=dH (P:=P) (w:=w) (a:=a) (LJ:=true) (len:=0) (cap:=0) b1 c1 b3 c3;simp[this,GJ,sizeOf,typeInfo,iT,bL,sliced]
  ·exact h.elim
end
/-- What is known of the world at each moment: it hangs on the first n blocks alone. -/
structure aG where
 G:World->Prop
 n:Nat
 lt:∀w,G w->n<=w.heap.size
 st:∀w w',G w->w.heap.size<=w'.heap.size->(∀b,b<n->w'.heap[b]?=w.heap[b]?)->G w'
def aG.ok(G:aG)(c:Ctx):Prop:=G.G c.w0/\∀b,c.mu b->G.n<=b
theorem aG.ok.now{G:aG}{c:Ctx}{w:World}(h:G.ok c)(hf:Fr c w):G.G w :=
 G.st _ _ h.1 hf.size fun b hb=>hf.block b (Nat.lt_of_lt_of_le hb (G.lt _ h.1)) fun hm=>by have:=h.2 b hm;omega

def aa(P:Program)(G:aG)(f:FuncId)(args:List A)(r:A):Prop :=
 (∃ fn cd, P.funcs[f]? = some fn ∧ fn.body = some cd ∧ (fn.name == "runtime.NumGoroutine") = false) ∧
 ∀(im:Nat->Prop) (w:World) (vs:List Value),(∀b,im b->b<w.heap.size)->G.G w->vs.length=args.length ->
  (∀j (h:j<args.length) (h':j<vs.length),aw im w args[j] vs[j]) ->
  Calls P f vs.toArray w fun e w'=>∃v,e=.returned v/\aw (fun b=>im b\/(w.heap.size<=b/\b<w'.heap.size)) w' r v/\Bw w.heap.size w w'

def nJ(P:Program)(G:aG)(f:A)(args:List A)(m:List aq)(K:KT):Prop :=
 match f with
 | .fn g cap=>fd.qp 4 (args++cap) fun as=>match as.any (cL 4) with
  | false=>∃r,aa P G g as r/\fd 3 r fun r'=>K r' m
  | true=>fd.qp 4 (as.map (wk m 5)) fun jl=>∃r,aa P G g jl r/\plain 4 r=true/\fd 3 r fun r'=>K r' m
 | _=>False

section
variable {c:Ctx} {s:List A} {m:List aq} {a:Act} {w w':World} {ids ab:dE} {P:Program} {im bo:Nat->Prop} {tt:TT} {G:aG}
variable {next:Act->World->Prop} {Q:Exit->Act->World->Prop} {o:Oper}

theorem bl{f:FuncId}{args:Array Value}{R R':Ending->World->Prop}(h:Calls P f args w R)(hr:∀e w',R e w'->R' e w'):Calls P f args w R':=by
 intro cs;obtain⟨e,w',fr,h1,h2⟩:=h cs;exact⟨e,w',fr,hr _ _ h1,h2⟩

theorem mL(hs:aF c s m a w ids)(hG:G.ok c){F:Operand}{xs:Array Operand}{ts:Array TypeId}(ho:o.op=.call { callee:=.value F,args:=xs,argTypes:=ts }){K:KT}
  (h:nJ P G (ev s F) (xs.toList.map (ev s)) m K) (hn:cq c s o K next):o.wp P a w next Q:=by
 have hf:=hs.ev F;have VS:G.G w:=hG.now hs.frame;unfold nJ at h;split at h
 ·rename_i g cap hv;rw[hv] at hf;obtain⟨us,Jk,yz,Ho⟩:=hf.gi;rw[cK] at h
  have hrel:∀j (h:j<(xs.toList.map (ev s)++cap).length) (h':j<(xs.toList.map a.eval++us).length),Rel ids (au c ids w) w (xs.toList.map (ev s)++cap)[j] (xs.toList.map a.eval++us)[j]:=by
   intro j h h';by_cases hj:j<xs.toList.length
   ·rw[List.getElem_append_left (by simpa using hj),List.getElem_append_left (by simpa using hj)];exact lz hs xs.toList j (by simpa using hj) (by simpa using hj)
   ·rw[List.getElem_append_right (by simpa using hj),List.getElem_append_right (by simpa using hj)];simp at h h' hj;have:=Ho (j-xs.size) (by omega) (by omega);simpa using this
  have hlen:(xs.toList.map a.eval++us).length=(xs.toList.map (ev s)++cap).length:=by simp[yz]
  have run : ∀ fn cd, P.funcs[g]? = some fn → fn.body = some cd → (fn.name == "runtime.NumGoroutine") = false → (execOp a.eval o).run P w = .ok (.enter g (xs.toList.map a.eval ++ us).toArray) w := by
   intro fn cd h1 h2 h3;have e:execOp a.eval o=(do let d <-resolve a.eval { callee:=.value F,args:=xs,argTypes:=ts } o.type;invoke d.target d.args):=by unfold execOp;rw[ho]
   have e2:(xs.map a.eval++us.toArray)=(xs.toList.map a.eval++us).toArray:=by apply Array.ext';simp
   have h4 : ¬ fn.name = "runtime.NumGoroutine" := by simpa using h3
   rw[e];simp[resolve,Jk,Deferred.ofValue,invoke,callFunc,h1,h2,h4,e2]
  split at h
  ·rename_i aU;obtain⟨r,hc,hk⟩:=h;rw[eI] at hk;obtain⟨⟨fn,cd,h1,h2,h3⟩,hc⟩:=hc;unfold Oper.wp;rw[run fn cd h1 h2 h3];show Calls P g _ w _;refine bl (hc (au c ids w) w (xs.toList.map a.eval++us) (fun b hb=>cB hs hb) VS hlen (fun j h h'=>cz 4 _ _ ?_ (hrel j h h'))) ?_
   ·have:=List.any_eq_false.1 aU _ (List.getElem_mem h);simpa using this
   ·rintro e w' ⟨v,rfl,hr,hb⟩;refine hn r m _ _ ids hk ((hs.same hb).bf o.dst (.aI (hr.mono ?_ (fun _ _=>rfl))));rintro b (gG|⟨mU,kM⟩)
    ·rcases gG with h|⟨q1,q2,q3⟩
     ·exact .inl h
     ·exact .inr ⟨q1,Nat.lt_of_lt_of_le q2 hb.size,q3⟩
    ·refine .inr ⟨.inl (Nat.le_trans hs.frame.size mU),kM,fun p hp=>?_⟩;intro hx;have:=(hs.ar p hp b hx).2;omega
  ·rw[cK] at h;obtain⟨r,hc,ON,hk⟩:=h;rw[eI] at hk;obtain⟨⟨fn,cd,h1,h2,h3⟩,hc⟩:=hc;unfold Oper.wp;rw[run fn cd h1 h2 h3];show Calls P g _ w _;refine bl (hc (rl c ids w) w (xs.toList.map a.eval++us) ?_ VS (by simp[yz]) (fun j h h'=>?_)) ?_
   ·rintro b (hb|⟨p,hp,hx⟩)
    ·exact cB hs hb
    ·exact(hs.ar p hp b hx).2
   ·have:=jQ hs 5 _ _ (hrel j (by simpa using h) h');rw[List.getElem_map];exact this
   ·rintro e w' ⟨v,rfl,hr,hb⟩;exact hn r m _ _ ids hk ((hs.same hb).bf o.dst (.aI (qq 4 _ _ ON hr)))
 ·exact h.elim

def step(P:Program)(G:aG)(tt:TT)(o:Oper)(s:List A)(m:List aq)(K:KT):Prop :=
 match o.op with
 | .move x=>fv (ev s x) fun v=>K v m
 | .assign x=>fv (ev s x) fun v=>K v m
 | .pick x y z=>AB (ev s x) (ev s y) (ev s z) fun v=>K v m
 | .alloc t=>CT tt t m K
 | .box t x=>Ry t (ev s x) m K
 | .build t ps=>ql tt t (ps.toList.map fun p=>(p.1,ev s p.2)) m K
 | .load t x=>lM tt t (ev s x) m K
 | .store t x y=>ue tt t (ev s x) (ev s y) m K
 | .nilCheck x=>Ku (ev s x) fun v=>K v m
 | .binOp op t x y _=>Kt tt t op (ev s x) (ev s y) fun v=>K v m
 | .unOp op _ x=>UF op (ev s x) fun v=>K v m
 | .convert src dst x=>vX tt src dst (ev s x) fun v=>K v m
 | .makeFunc (.func f) first cap=>match first.toList with
  | []=>K (.fn f (cap.toList.map (ev s))) m
  | _=>False
 | .fieldAddr t x f=>gT tt t (ev s x) f m K
 | .indexAddr t x i=>eG tt t (ev s x) (ev s i) m K
 | .index t x i=>ug tt t (ev s x) (ev s i) fun v=>K v m
 | .field t x f=>uh tt t (ev s x) f fun v=>K v m
 | .extract x ix=>mJ (ev s x) ix fun v=>K v m
 | .slice t x lo hi mx=>match mx with
  | none=>um tt t (ev s x) (pf s lo) (pf s hi) fun v=>K v m
  | some _=>False
 | .call { callee:=.builtin .len,args,argTypes }=>match args.toList,argTypes.toList with
  | [x],[t]=>AA tt t (ev s x) m fun v=>K v m
  | _,_=>False
 | .call { callee:=.builtin .min,args,.. }=>match args.toList with
  | x::xs=>KE (ev s x) (xs.map (ev s)) fun v=>K v m
  | _=>False
 | .call { callee:=.builtin .max,args,.. }=>match args.toList with
  | x::xs=>KF (ev s x) (xs.map (ev s)) fun v=>K v m
  | _=>False
 | .call { callee:=.value f,args,.. }=>nJ P G (ev s f) (args.toList.map (ev s)) m K
 | _=>False

theorem uo{α:Type}{xs:Array α}{x:α}(h:xs.toList=[x]):xs = #[x]:=by apply Array.ext';simpa using h

theorem n0(aJ:bp P tt)(hG:G.ok c)(hs:aF c s m a w ids){K:KT}(h:step P G tt o s m K)(hn:cq c s o K next):o.wp P a w next Q:=by
 unfold step at h;split at h
 ·rename_i x ho;rw[dp] at h;exact rf hs (.inl ho) h hn
 ·rename_i x ho;rw[dp] at h;exact rf hs (.inr ho) h hn
 ·rename_i ho;exact AG hs ho h hn
 ·rename_i ho;exact xF aJ hs ho h hn
 ·rename_i ho;exact C0 hs ho h hn
 ·rename_i ho;exact xG aJ hs ho h hn
 ·rename_i ho;exact AE aJ hs ho h hn
 ·rename_i ho;exact lx aJ hs ho h hn
 ·rename_i ho;exact CY hs ho h hn
 ·rename_i ho;exact aP hs hn (NL aJ ho (hs.ev _) (hs.ev _) h)
 ·rename_i ho;exact aP hs hn (RA ho (hs.ev _) h)
 ·rename_i ho;exact rh aJ hs ho h hn
 ·rename_i f first cap ho;split at h
  ·rename_i hf;have:first = #[]:=by apply Array.ext';simpa using hf
   subst this;exact sc hs ho h hn
  ·exact h.elim
 ·rename_i ho;exact qn aJ hs ho h hn
 ·rename_i ho;exact qo aJ hs ho h hn
 ·rename_i ho;exact xH aJ hs ho h hn
 ·rename_i ho;exact xI aJ hs ho h hn
 ·rename_i ho;exact uj hs ho h hn
 ·rename_i ho;split at h
  ·exact xJ aJ hs ho h hn
  ·exact h.elim
 ·rename_i args ts ho;split at h
  ·rename_i x t hx ht;rw[uo hx,uo ht] at ho;exact C' aJ hs ho h hn
  ·exact h.elim
 ·rename_i args ts ho;split at h
  ·rename_i x xs hx
   have e:(execOp a.eval o)=(do pure (.value (<-Builtin.min_ ts o.type (args.map a.eval)))):=by
    obtain⟨dst,op,ty,pos,after,guard⟩:=o;simp only at ho;subst ho;rw[BigFrame.execOp_builtin,BigFrame.builtin_min]
   obtain⟨r,v,h1,h2,h3⟩:=vZ (P:=P) (xs.map (ev s)) (xs.map a.eval) (ev s x) (a.eval x) _ (hs.ev x) (by simp) (lz hs xs) h;refine aP hs hn ⟨r,v,?_,h2,h3⟩;rw[e];simp[Builtin.min_] at h1 ⊢;simp[hx,h1]
  ·exact h.elim
 ·rename_i args ts ho;split at h
  ·rename_i x xs hx
   have e:(execOp a.eval o)=(do pure (.value (<-Builtin.max_ ts o.type (args.map a.eval)))):=by
    obtain⟨dst,op,ty,pos,after,guard⟩:=o;simp only at ho;subst ho;rw[BigFrame.execOp_builtin,BigFrame.builtin_max]
   obtain⟨r,v,h1,h2,h3⟩:=v7 (P:=P) (xs.map (ev s)) (xs.map a.eval) (ev s x) (a.eval x) _ (hs.ev x) (by simp) (lz hs xs) h;refine aP hs hn ⟨r,v,?_,h2,h3⟩;rw[e];simp[Builtin.max_] at h1 ⊢;simp[hx,h1]
  ·exact h.elim
 ·rename_i ho;exact mL hs hG ho h hn
 ·exact h.elim
end
def uZ(b:Nat):Nat->A->A
 | 0,_=>.af
 | d+1,x=>match x with
  | .ref b' o=>match Nat.beq b' b with
   | true=>.af
   | false=>.ref b' o
  | .oref b' i o=>match Nat.beq b' b with
   | true=>.af
   | false=>.oref b' i o
  | .own b'=>match Nat.beq b' b with
   | true=>.af
   | false=>.own b'
  | .omap b'=>match Nat.beq b' b with
   | true=>.af
   | false=>.omap b'
  | .qZ _ _=>.af
  | .nw _ _=>.af
  | .agg cs=>.agg (cs.map (uZ b d))
  | .tup cs=>.tup (cs.map (uZ b d))
  | .fn f cs=>.fn f (cs.map (uZ b d))
  | x=>x
def AK(b d:Nat):aq->aq
 | .box ty cs=>.box ty (cs.map (uZ b d))
 | .ghost cs=>.ghost (cs.map (uZ b d))
 | .cM ty g sh n hi cs jA has val=>.cM ty g sh n hi (cs.map (uZ b d)) jA has val
 | x=>x

section
variable {c:Ctx} {s:List A} {m:List aq} {a:Act} {w w':World} {ids ab:dE} {P:Program} {im bo:Nat->Prop} {tt:TT} {G:aG}
variable {next:Act->World->Prop} {Q:Exit->Act->World->Prop} {o:Oper}

theorem jF{b:Nat}(hi:∀b,im b->bo b)(hw:∀b,im b->w'.heap[b]?=w.heap[b]?)(hd:∀(b':Nat) p,b'≠b->ids[b']?=some p->ab[b']?=some p):
  ∀(d:Nat) (x:A) (v:Value),Rel ids im w x v->Rel ab bo w' (uZ b d x) v
 | 0,x,v,_=>.aI (.af _)
 | d+1,x,v,h=>by
  have keep:∀y,aw im w y v->Rel ab bo w' y v:=fun y hy=>.aI (hy.mono hi hw);cases x with
  | ref b' o =>
   simp only[uZ];split
   ·exact .aI (.af _)
   ·rename_i hb;rcases h.ic with⟨p,h1,rfl⟩|⟨h1,x,y,rfl⟩;rotate_left
    ·exact .ki _ _ x y (hd b' _ (fun e=>by subst e;simp at hb) h1)
    exact .ref _ _ p (hd b' _ (fun e=>by subst e;simp at hb) h1)
  | oref b' i o =>
   simp only[uZ];split
   ·exact .aI (.af _)
   ·rename_i hb;rcases h.iy with⟨p,h1,rfl⟩|⟨h1,x,y,rfl⟩;rotate_left
    ·exact .gA _ _ _ x y (hd b' _ (fun e=>by subst e;simp at hb) h1)
    exact .oref _ _ _ p (hd b' _ (fun e=>by subst e;simp at hb) h1)
  | own b' =>
   simp only[uZ];split
   ·exact .aI (.af _)
   ·rename_i hb;have hne:b'≠b:=fun e=>by subst e;simp at hb
    rcases h.jB with⟨h1,rfl⟩|⟨p,cap,h1,h2,h3,rfl⟩|⟨h1,x,n,cap,rfl⟩
    ·exact .fX _ (hd b' _ hne h1)
    ·exact .own _ cap p (hd b' _ hne h1) h2 h3
    ·exact .kj _ x n cap (hd b' _ hne h1)
  | omap b' =>
   simp only[uZ];split
   ·exact .aI (.af _)
   ·rename_i hb;rcases h.jh with⟨p,h1,rfl⟩|⟨h1,x,rfl⟩;rotate_left
    ·exact .fS _ x (hd b' _ (fun e=>by subst e;simp at hb) h1)
    exact .omap _ p (hd b' _ (fun e=>by subst e;simp at hb) h1)
  | agg cs =>
   obtain⟨vs,rfl,hl,ho,hr⟩:=h.ig;exact .agg _ vs (by simpa using hl) ho (fun j h h'=>by rw[List.getElem_map];exact jF hi hw hd d _ _ (hr j (by simpa using h) h'))
  | tup cs =>
   obtain⟨vs,rfl,hl,hr⟩:=h.jC;exact .tup _ vs (by simpa using hl) (fun j h h'=>by rw[List.getElem_map];exact jF hi hw hd d _ _ (hr j (by simpa using h) h'))
  | fn f cs =>
   obtain⟨vs,rfl,hl,hr⟩:=h.gi;exact .fn f _ vs (by simpa using hl) (fun j h h'=>by rw[List.getElem_map];exact jF hi hw hd d _ _ (hr j (by simpa using h) h'))
  | int k n=>cases h with|aI h=>exact keep _ h
  | bool k=>cases h with|aI h=>exact keep _ h
  | sb k=>cases h with|aI h=>exact keep _ h
  | str k=>cases h with|aI h=>exact keep _ h
  | gH=>cases h with|aI h=>exact keep _ h
  | bref cs off=>cases h with|aI h=>exact keep _ h
  | aV=>cases h with|aI h=>exact keep _ h
  | sl n sz row=>cases h with|aI h=>exact keep _ h
  | bz=>cases h with|aI h=>exact keep _ h
  | fU=>cases h with|aI h=>exact keep _ h
  | mv g n k v=>cases h with|aI h=>exact keep _ h
  | af=>exact .aI (.af _)
  | qZ=>exact .aI (.af _)
  | nw=>exact .aI (.af _)

/-- Block b becomes another one: written in place, or moved to a new block. -/
theorem aF.rebind(hs:aF c s m a w ids)(b:Nat)(q:dT)(x:aq)(d:Nat)(hb:b<m.length)
  (Pj:w'.os=w.os) (UK:w'.tape=w.tape) (UL:w'.output=w.output) (bL:w.heap.size<=w'.heap.size)
  (fI:∀k,k<w.heap.size->(∀p,ids[b]?=some (.lv p)->¬p.has k)->w'.heap[k]?=w.heap[k]?)
  (XI:∀vs,q≠.cE vs)
  (hq:∀p',q=.lv p'->∀x,p'.has x->x<w'.heap.size/\(w.heap.size<=x\/∃p,ids[b]?=some (.lv p)/\p.has x))
  (hx:(∀u v,aw (au c ids w) w u v->aw (au c (ids.set b q) w') w' u v)->aX (ids.set b q) (au c (ids.set b q) w') w' x q) (yM:eM w.drawn w'.drawn:=by exact eM.refl _) :
  aF c (s.map (uZ b d)) ((m.map (AK b d)).set b x) a w' (ids.set b q):=by
 have eR:b<ids.length:=by rw[hs.aL];exact hb
 have jK:∀p',dT.lv p'∈ids.set b q->dT.lv p'∈ids\/q=.lv p':=by
  intro p' h;rcases List.mem_or_eq_of_mem_set h with h|h
  ·exact .inl h
  ·exact .inr h.symm
 have hi:∀k,au c ids w k->au c (ids.set b q) w' k:=by
  intro k h;rcases h with h|⟨h1,h2,h3⟩
  ·exact .inl h
  ·refine .inr ⟨h1,Nat.lt_of_lt_of_le h2 bL,fun p hp=>?_⟩;rcases jK p hp with hp|hp
   ·exact h3 p hp
   ·intro hx;rcases (hq p hp k hx).2 with h|⟨p0,h4,h5⟩
    ·omega
    ·exact h3 p0 (List.mem_of_getElem? h4) h5
 have hh:∀k,au c ids w k->w'.heap[k]?=w.heap[k]?:=by
  intro k h;refine fI k (cB hs h) (fun p hp e=>?_);rcases h with h|⟨_,_,h3⟩
  ·exact hs.pJ h (hs.ar p (List.mem_of_getElem? hp) k e).1
  ·exact h3 p (List.mem_of_getElem? hp) e
 have hd:∀(b':Nat) p,b'≠b->ids[b']?=some p->(ids.set b q)[b']?=some p:=by
  intro b' p hne h;rw[List.getElem?_set_ne (fun e=>hne e.symm)];exact h
 refine⟨hs.defers,by simp[hs.len],?_,by simp[hs.aL],?_,?_,?_,?_,hs.dZ,?_⟩
 ·intro i h h';rw[List.getElem_map];exact jF hi hh hd d _ _ (hs.bI i (by simpa using h) h')
 ·intro i h h';rw[List.getElem_set,List.getElem_set];split
  ·rename_i he;subst he;exact hx (fun u v h=>h.mono hi hh)
  ·rename_i he;have h1:i<m.length:=by simpa using h
   have h2:i<ids.length:=by simpa using h'
   have hB:=hs.bC i h1 h2;rw[List.getElem_map]
   have XJ:∀p,ids[i]=.lv p->∀k,p.has k->w'.heap[k]?=w.heap[k]?:=by
    intro p hp k hk;have UM:ids[i]?=some (.lv p):=by rw[List.getElem?_eq_getElem h2,hp]
    refine fI _ (hs.ar p (List.mem_of_getElem? UM) k hk).2 (fun p0 Qm e=>?_);exact he (hs.aj b i p0 p k Qm UM e hk)
   have hk:∀p,ids[i]=.lv p->w'.heap[p.ao]?=w.heap[p.ao]?:=fun p hp=>XJ p hp _ (.inl rfl);cases hm:m[i] with
   | dead=>rw[hm] at hB;exact hB
   | gone=>rw[hm] at hB;exact hB
   | box ty cs =>
    rw[hm] at hB;cases hp:ids[i] with
    | dead=>rw[hp] at hB;exact hB.elim
    | av=>rw[hp] at hB;exact hB.elim
    | aQ=>rw[hp] at hB;exact hB.elim
    | cE vs=>rw[hp] at hB;exact hB.elim
    | lv p =>
     rw[hp] at hB;obtain⟨vs,g1,g2,g3,g4⟩:=hB;refine⟨vs,by rw[hk p hp];exact g1,g2,by simpa using g3,?_⟩;intro j hj cj;have:=g4 j (by simpa using hj) cj;rw[List.getElem_map];exact⟨jF hi hh hd d _ _ this.1,this.2⟩
   | row ty sz n row =>
    rw[hm] at hB;cases hp:ids[i] with
    | dead=>rw[hp] at hB;exact hB.elim
    | av=>rw[hp] at hB;exact hB.elim
    | aQ=>rw[hp] at hB;exact hB
    | cE vs=>rw[hp] at hB;exact hB.elim
    | lv p =>
     rw[hp] at hB;obtain⟨e1,e2,vs,g1,g2,g3,g4,g5⟩:=hB;exact⟨e1,e2,vs,by rw[hk p hp];exact g1,g2,g3,g4,fun i' j bV h h'=>⟨(g5 i' j bV h h').1.mono hi hh,(g5 i' j bV h h').2⟩⟩
   | nest ty aN sz n hole len row =>
    rw[hm] at hB;cases hp:ids[i] with
    | dead=>rw[hp] at hB;exact hB.elim
    | av=>rw[hp] at hB;exact hB.elim
    | aQ=>rw[hp] at hB;exact hB
    | cE vs=>rw[hp] at hB;exact hB.elim
    | lv p =>
     rw[hp] at hB;obtain⟨e1,e2,e3,vs,g1,g2,g3,kb,g5⟩:=hB;refine⟨e1,e2,e3,vs,by rw[hk p hp];exact g1,g2,g3,kb,fun i' bV hh' h=>?_⟩;obtain⟨k1,k2,k3⟩:=g5 i' bV hh' h;exact⟨k1.mono hi hh (fun x hx=>XJ p hp _ (.inr (k2 x hx))),k2,k3⟩
   | eP g n key val =>
    rw[hm] at hB;cases hp:ids[i] with
    | dead=>rw[hp] at hB;exact hB.elim
    | av=>rw[hp] at hB;exact hB.elim
    | aQ=>rw[hp] at hB;exact hB.elim
    | cE vs=>rw[hp] at hB;exact hB.elim
    | lv p =>
     rw[hp] at hB;obtain⟨es,clock,f,h1,h2,h3,h4,h5,h6⟩:=hB;exact⟨es,clock,f,by rw[hk p hp];exact h1,h2,h3,h4,fun i h=>(h5 i h).mono hi hh,h6⟩
   | o7 g n key val =>
    rw[hm] at hB;cases hp:ids[i] with
    | dead=>rw[hp] at hB;exact hB.elim
    | av=>rw[hp] at hB;exact hB.elim
    | aQ=>rw[hp] at hB;exact hB.elim
    | cE vs=>rw[hp] at hB;exact hB.elim
    | lv p =>
     rw[hp] at hB;obtain⟨es,clock,f,h1,h2,h3,h4,h5,h6⟩:=hB;exact⟨es,clock,f,by rw[hk p hp];exact h1,h2,h3,h4,fun i h=>(h5 i h).mono hi hh,h6⟩
   | GB g n key val se =>
    rw[hm] at hB;cases hp:ids[i] with
    | dead=>rw[hp] at hB;exact hB.elim
    | av=>rw[hp] at hB;exact hB.elim
    | aQ=>rw[hp] at hB;exact hB.elim
    | cE vs=>rw[hp] at hB;exact hB.elim
    | lv p =>
     rw[hp] at hB;obtain⟨r,es,clock,f,sb,h1,h2,h3,h4,h5,h6,h7,h8⟩:=hB;exact⟨r,es,clock,f,sb,by rw[hk p hp];exact h1,hi _ h2,by rw[hh _ h2];exact h3,h4,h5,h6,fun i h=>(h7 i h).mono hi hh,h8⟩
   | cM ty g sh c dB cs jA has val =>
    rw[hm] at hB;cases hp:ids[i] with
    | dead=>rw[hp] at hB;exact hB.elim
    | av=>rw[hp] at hB;exact hB.elim
    | aQ=>rw[hp] at hB;exact hB
    | cE vs=>rw[hp] at hB;exact hB.elim
    | lv p =>
     rw[hp] at hB;exact mG (uZ b d) (XJ p hp) (fun _ _ h=>h.mono hi hh) (fun x v h=>jF hi hh hd d x v h) hB
   | bF ty sz n Φ =>
    rw[hm] at hB;cases hp:ids[i] with
    | dead=>rw[hp] at hB;exact hB.elim
    | av=>rw[hp] at hB;exact hB.elim
    | aQ=>rw[hp] at hB;exact hB
    | cE vs=>rw[hp] at hB;exact hB.elim
    | lv p =>
     rw[hp] at hB;obtain⟨row,h0,e1,e2,vs,g1,g2,g3,g4,g5⟩:=hB;exact⟨row,h0,e1,e2,vs,by rw[hk p hp];exact g1,g2,g3,g4,fun i' j bV h h'=>⟨(g5 i' j bV h h').1.mono hi hh,(g5 i' j bV h h').2⟩⟩
   | ghost cs =>
    rw[hm] at hB;cases hp:ids[i] with
    | dead=>rw[hp] at hB;exact hB.elim
    | av=>rw[hp] at hB;exact hB.elim
    | aQ=>rw[hp] at hB;exact hB.elim
    | lv p=>rw[hp] at hB;exact hB.elim
    | cE vs =>
     rw[hp] at hB;refine⟨by simpa using hB.1,fun j hj cj=>?_⟩;rw[List.getElem_map];exact jF hi hh hd d _ _ (hB.2 j (by simpa using hj) cj)
 ·intro i j p p2 x h1 h2 h3 EW;by_cases RG:i=b<;>by_cases VT:j=b
  ·rw[RG,VT]
  ·subst RG;rw[List.getElem?_set_self eR] at h1;rw[List.getElem?_set_ne (fun e=>VT e.symm)] at h2;have XK:=Option.some.inj h1;have f2:=hs.ar p2 (List.mem_of_getElem? h2) x EW;rcases (hq p XK x h3).2 with h|⟨p0,h4,h5⟩
   ·omega
   ·exact hs.aj i j p0 p2 x h4 h2 h5 EW
  ·subst VT;rw[List.getElem?_set_self eR] at h2;rw[List.getElem?_set_ne (fun e=>RG e.symm)] at h1;have XK:=Option.some.inj h2;have f2:=hs.ar p (List.mem_of_getElem? h1) x h3;rcases (hq p2 XK x EW).2 with h|⟨p0,h4,h5⟩
   ·omega
   ·exact hs.aj i j p p0 x h1 h4 h3 h5
  ·rw[List.getElem?_set_ne (fun e=>RG e.symm)] at h1;rw[List.getElem?_set_ne (fun e=>VT e.symm)] at h2;exact hs.aj i j p p2 x h1 h2 h3 EW
 ·intro p hp x hx;rcases jK p hp with hp|hp
  ·have:=hs.ar p hp x hx;exact⟨this.1,Nat.lt_of_lt_of_le this.2 bL⟩
  ·refine⟨?_,(hq p hp x hx).1⟩;rcases (hq p hp x hx).2 with h|⟨p0,h4,h5⟩
   ·exact .inl (Nat.le_trans hs.frame.size h)
   ·exact(hs.ar p0 (List.mem_of_getElem? h4) x h5).1
 ·refine hs.frame.go Pj UK UL bL (fun k hk hm=>?_) yM;refine fI k (Nat.lt_of_lt_of_le hk hs.frame.size) (fun p hp e=>?_);rcases (hs.ar p (List.mem_of_getElem? hp) k e).1 with h|h
  ·omega
  ·exact hm h
 ·intro vs h;rcases List.mem_or_eq_of_mem_set h with h|h
  ·exact hs.cE vs h
  ·exact absurd h.symm (XI vs)
end
section
variable {P:Program}
theorem rm{w:World}(t ty e:TypeId)(i:TypeInfo)(ht:P.underlying t=some (.slice e))(hi:P.info? e=some i)(ad:Option Addr)(n cap:Nat)(hn:n<=cap):
  (Builtin.append_ #[t,t] ty #[.slice ad n cap,.slice none 0 0]).run P w=.ok (.slice ad n cap) w:=by
 cases ad<;>simp[Builtin.append_,run_underlying ht,sizeOf,typeInfo,hi,Builtin.lenOf,Builtin.firstCells,hn,storeCells]
theorem AL{w:World}(t ty e:TypeId)(i:TypeInfo)(ht:P.underlying t=some (.slice e))(hi:P.info? e=some i)(a:Addr)(c:Nat):
  (Builtin.append_ #[t,t] ty #[.slice none 0 0,.slice (some a) 0 c]).run P w=.ok (.slice none 0 0) w:=by
 simp[Builtin.append_,run_underlying ht,sizeOf,typeInfo,hi,Builtin.lenOf,Builtin.firstCells,loadCells,loadCellsFrom]

/-- What an append leaves: nothing new; or a block of cells that begin with the old ones and the new ones: the old block, or a new one. -/
def KH(w:World)(v:Value)(e:TypeId)(size n m:Nat)(xs news:List Value)(v':Value)(w':World):Prop :=
 w'.os=w.os/\w'.tape=w.tape/\w'.output=w.output/\w.heap.size<=w'.heap.size/\(∀k,k<w.heap.size->v.ownBlock≠some k->w'.heap[k]?=w.heap[k]?)/\eM w.drawn w'.drawn /\
 ((v'=.slice none 0 0/\n+m=0) \/
  ∃g cap cur,v'=.slice (some ⟨g,0,none⟩) (n+m) cap/\w'.heap[g]?=some (.cells cur e (0,0))/\n+m<=cap/\cap<=maxLen/\cur.size=cap*size/\cur.toList.take ((n+m)*size)=xs++news /\
   g<w'.heap.size/\(w.heap.size<=g\/v.ownBlock=some g))

theorem lA{w:World}(t ty e:TypeId)(i:TypeInfo)(z:Value)(ht:P.underlying t=some (.slice e))(hi:P.info? e=some i)(hz:i.zero=some z)(pC:z.cells.size=i.size)
  (v:Value) (n:Nat) (xs:List Value) (hv:(v=.slice none 0 0/\n=0/\xs=[])\/∃g cap cur,v=.slice (some ⟨g,0,none⟩) n cap/\w.heap[g]?=some (.cells cur e (0,0))/\n<=cap/\cap<=maxLen/\cur.size=cap*i.size/\cur.toList.take (n*i.size)=xs)
  (y:Value) (m:Nat) (news:List Value) (hy:(y=.slice none 0 0/\m=0/\news=[])\/∃a c,y=.slice (some a) m c/\news.length=m*i.size/\(∀j u,news[j]?=some u->w.cell? (a.add j)=some u)) (h1:∀u∈news,u.oneCell'=true)
  (h63:n+m<=140737488355328) (KI:(n+m)*i.bytes<=140737488355328) :
  ∃v' w',(Builtin.append_ #[t,t] ty #[v,y]).run P w=.ok v' w'/\KH w v e i.size n m xs news v' w':=by
 have XL:n+m<=maxLen:=by simp only[maxLen];omega
 have UN:∀(Kr:Nat) (v:Value),xs.length=n*i.size->news.length=m*i.size->KH w v e i.size n m xs news (.slice (some ⟨w.heap.size,0,none⟩) (n+m) (grownCap w (n+m) Kr e))
   (w.drew.alloc (.cells (xs.toArray++news.toArray++Builtin.zeroCells z.cells (grownCap w (n+m) Kr e-(n+m))) e)):=by
  intro Kr v hx Zr;have I9:=grownCap_ge w (n+m) Kr e;have hlen:(xs++news).length=(n+m)*i.size:=by rw[List.length_append,hx,Zr,Nat.add_mul]
  refine⟨rfl,rfl,rfl,by simp,fun k hk _=>Below.heap_alloc w.drew _ k hk,eM.succ _,.inr ⟨w.heap.size,_,_,rfl,heap_alloc_new w.drew _,I9,grownCap_le_maxLen w (n+m) Kr e XL,?_,?_,by simp,.inl (Nat.le_refl _)⟩⟩
  ·simp only[Array.size_append,List.size_toArray,size_zeroCells,pC,hx,Zr,<-Nat.add_mul]
   congr 1;omega
  ·simp only[Array.toList_append,List.append_assoc];rw[<-List.append_assoc,<-hlen];exact List.take_left
 rcases hv with⟨rfl,rfl,rfl⟩|⟨g,cap,cur,rfl,hg,XM,XN,Qv,E0⟩
 ·rcases hy with⟨rfl,rfl,rfl⟩|⟨a,c,rfl,hl,E1⟩
  ·exact⟨_,_,rm t ty e i ht hi none 0 0 (Nat.le_refl _),rfl,rfl,rfl,Nat.le_refl _,fun _ _ _=>rfl,eM.refl _,.inl ⟨rfl,rfl⟩⟩
  ·by_cases hm:m=0
   ·subst hm;exact⟨_,_,AL t ty e i ht hi a c,rfl,rfl,rfl,Nat.le_refl _,fun _ _ _=>rfl,eM.refl _,.inl ⟨rfl,rfl⟩⟩
   ·have hr:=run_append_nil (P:=P) w t ty e i z ht hi hz a m c news hl E1 (by omega) (by omega) (by have hb:=KI;simp only[Nat.zero_add] at hb;omega);have:=UN 0 (.slice none 0 0) (by simp) hl;simp only[Nat.zero_add,Array.empty_append] at this hr ⊢;exact⟨_,_,hr,this⟩
 ·have u7:xs.length=n*i.size:=by
   rw[<-E0,List.length_take,Array.length_toList,Qv];exact Nat.min_eq_left (Nat.mul_le_mul_right _ XM)
  have holds:∀j u,xs[j]?=some u->w.cell? ((⟨g,0,none⟩:Addr).add j)=some u:=by
   intro j u hu;have Kz:(⟨g,0,none⟩:Addr).add j=⟨g,j,none⟩:=by unfold Addr.add;split<;>simp_all
   rw[Kz,cell_of_row w g j cur e (0,0) hg];rw[<-E0,List.getElem?_take] at hu;split at hu
   ·simpa using hu
   ·cases hu
  rcases hy with⟨rfl,rfl,rfl⟩|⟨a,c,rfl,hl,E1⟩
  ·refine⟨_,_,rm t ty e i ht hi _ n cap XM,rfl,rfl,rfl,Nat.le_refl _,fun _ _ _=>rfl,eM.refl _,.inr ⟨g,cap,cur,rfl,hg,XM,XN,Qv,by simpa using E0,(Array.getElem?_eq_some_iff.1 hg).1,.inr rfl⟩⟩
  ·by_cases KJ:n+m<=cap
   ·have XO:n*i.size+news.length<=cur.size:=by rw[hl,Qv,<-Nat.add_mul];exact Nat.mul_le_mul_right _ KJ
    have hr:=run_append_room (P:=P) w t ty e i ht hi g n cap cur hg a m c news hl E1 h1 KJ XO;refine⟨_,_,hr,rfl,rfl,rfl,by simp,fun k _ hk=>setRow_other w g k _ (fun e=>hk (by simp[Value.ownBlock,e])),eM.refl _,.inr ⟨g,cap,_,rfl,setRow_heap w g cur _ e _ hg,KJ,XN,?_,?_,?_,.inr rfl⟩⟩
    ·simp only[List.size_toArray,List.length_append,List.length_take,List.length_drop,Array.length_toList];omega
    ·have hlen:(xs++news).length=(n+m)*i.size:=by rw[List.length_append,u7,hl,Nat.add_mul]
     rw[E0,<-hlen];exact List.take_left
    ·have:=(Array.getElem?_eq_some_iff.1 hg).1;simpa[World.setRow] using this
   ·have hr:=run_append_grow (P:=P) w t ty e i z ht hi hz ⟨g,0,none⟩ n cap xs u7 holds a m c news hl E1 (by omega) (by omega) (growslice_fits (by omega) KI);exact⟨_,_,hr,UN cap _ u7 hl⟩
end
/-- The rows of what is appended. -/
def AM(m:List aq)(bB:Nat)(y:A):Option (Nat×(Nat->List A)) :=
 match y with
 | .own b=>match m.getD b .dead with
  | .row _ sz n row=>match Nat.beq sz bB with
   | true=>some (n,row)
   | false=>none
  | _=>none
 | .sl n sz row=>match Nat.beq sz bB with
  | true=>some (n,row)
  | false=>none
 | .aV=>some (0,fun _=>[])
 | .nw b k=>match m.getD b .dead with
  | .row _ sz n row=>match Nat.beq sz bB with
   | true=>some (n-k,fun i=>row (k+i))
   | false=>none
  | _=>none
 | _=>none
def bM(n:Nat)(r1 r2:Nat->List A):Nat->List A:=fun i=>match Nat.blt i n with
 | true=>r1 i
 | false=>r2 (i-n)
def qt:List aq->(List aq->Prop)->Prop
 | [],K=>K []
 | x::xs,K=>match x with
  | .box ty cs=>fd.qp 3 cs fun db=>qt xs fun ys=>K (.box ty db::ys)
  | .row ty sz n r=>qt xs fun ys=>K (.row ty sz n r::ys)
  | .nest ty aN sz n ho le r=>qt xs fun ys=>K (.nest ty aN sz n ho le r::ys)
  | .eP g n k v=>qt xs fun ys=>K (.eP g n k v::ys)
  | .o7 g n k v=>qt xs fun ys=>K (.o7 g n k v::ys)
  | .GB g n k v se=>qt xs fun ys=>K (.GB g n k v se::ys)
  | .cM ty g sh n hi cs jA has val=>fd.qp 3 cs fun db=>qt xs fun ys=>K (.cM ty g sh n hi db jA has val::ys)
  | .bF ty sz n Φ=>qt xs fun ys=>K (.bF ty sz n Φ::ys)
  | .ghost cs=>fd.qp 3 cs fun db=>qt xs fun ys=>K (.ghost db::ys)
  | .gone=>qt xs fun ys=>K (.gone::ys)
  | .dead=>qt xs fun ys=>K (.dead::ys)
theorem dQ:∀(l:List aq) (K:List aq->Prop),qt l K=K l
 | [],K=>rfl
 | x::xs,K=>by cases x<;>simp only[qt,cK,dQ xs]
def RH(tt:TT)(t:TypeId)(x y:A)(s:List A)(m:List aq)(K:List A->A->List aq->Prop):Prop :=
 match tt.lookup t with
 | none=>False
 | some ti=>match ti.kind,AM m ti.bB y with
  | 3,some (n2,iU)=>match x with
   | .own b=>match m.getD b .dead with
    | .row ty sz n row=>match Nat.beq sz ti.bB,Nat.beq ty ti.aN with
     | true,true=>dz ti.eD fun eb=>(n+n2<=140737488355328/\(n+n2)*eb<=140737488355328) /\
      fd.qp 4 (s.map (uZ b 4)) fun s'=>qt ((m.map (AK b 4)).set b (.row ty sz (n+n2) (bM n row iU))) fun m'=>K s' (.own b) m'
     | _,_=>False
    | _=>False
   | .aV=>dz ti.eD fun eb=>dz ti.aN fun aN=>dz ti.bB fun bB=>(n2<=140737488355328/\n2*eb<=140737488355328)/\lL m (.row aN bB n2 iU) fun b m'=>K s (.own b) m'
   | _=>False
  | _,_=>False

section
variable {c:Ctx} {s:List A} {m:List aq} {a:Act} {w w':World} {ids ab:dE} {P:Program} {im bo:Nat->Prop} {tt:TT} {G:aG}
variable {next:Act->World->Prop} {Q:Exit->Act->World->Prop} {o:Oper}

theorem jo{b:Nat}{ty:TypeId}{sz n:Nat}{row:Nat->List A}(h:m.getD b .dead=.row ty sz n row):∃hb:b<m.length,m[b]=.row ty sz n row:=by
 rcases Nat.lt_or_ge b m.length with hb|hb
 ·exact⟨hb,by rw[List.getD_eq_getElem?_getD,List.getElem?_eq_getElem hb] at h;simpa using h⟩
 ·rw[List.getD_eq_getElem?_getD,List.getElem?_eq_none hb] at h;cases h

/-- Values that stand for rows. -/
def dM(im:Nat->Prop)(w:World)(n sz:Nat)(row:Nat->List A)(vs:List Value):Prop :=
 vs.length=n*sz/\(∀u∈vs,gz u)/\(∀i,i<n->(row i).length=sz)/\∀i j,i<n->∀(h:j<(row i).length) (h':i*sz+j<vs.length),aw im w (row i)[j] vs[i*sz+j]

theorem dM.nil(im:Nat->Prop)(w:World)(sz:Nat)(row:Nat->List A):dM im w 0 sz row [] :=
 ⟨by simp,by simp,fun i h=>by omega,fun i j h=>by omega⟩

theorem dM.cat{n n2 sz:Nat}{r1 r2:Nat->List A}{xs ys:List Value}(h1:dM im w n sz r1 xs)(h2:dM im w n2 sz r2 ys):dM im w (n+n2) sz (bM n r1 r2) (xs++ys):=by
 obtain⟨a1,a2,a3,a4⟩:=h1;obtain⟨b1,b2,b3,b4⟩:=h2;have rc:∀i,i<n->bM n r1 r2 i=r1 i:=fun i hi=>by simp only[bM];rw[show Nat.blt i n=true from Nat.ble_eq_true_of_le hi]
 have Zs:∀i,¬i<n->bM n r1 r2 i=r2 (i-n):=fun i hi=>by
  simp only[bM]
  have:Nat.blt i n=false:=by
   cases h:Nat.blt i n with
   | false=>rfl
   | true=>exact absurd (Nat.le_of_ble_eq_true h) hi
  rw[this]
 refine⟨by rw[List.length_append,a1,b1,Nat.add_mul],?_,?_,?_⟩
 ·intro u hu;rcases List.mem_append.1 hu with h|h
  ·exact a2 u h
  ·exact b2 u h
 ·intro i hi;by_cases h:i<n
  ·rw[rc i h];exact a3 i h
  ·rw[Zs i h];exact b3 _ (by omega)
 ·intro i j hi h h';by_cases qu:i<n
  ·have e:=rc i qu;have hl:=a3 i qu;have hj:j<(r1 i).length:=by rw[e] at h;exact h
   have aD:i*sz+j<n*sz:=by
    have:=Nat.mul_le_mul_right sz (show i+1<=n from qu);rw[Nat.add_mul] at this;omega
   rw[List.getElem_append_left (by omega)];have:=a4 i j qu hj (by omega);simpa only[e] using this
  ·have e:=Zs i qu;have hl:=b3 (i-n) (by omega);have hj:j<(r2 (i-n)).length:=by rw[e] at h;exact h
   have I9:n*sz<=i*sz+j:=Nat.le_trans (Nat.mul_le_mul_right sz (by omega)) (Nat.le_add_right _ _);rw[List.getElem_append_right (by omega)]
   have e2:i*sz+j-xs.length=(i-n)*sz+j:=by
    rw[a1,Nat.sub_mul];have:=Nat.mul_le_mul_right sz (show n<=i by omega);omega
   have:=b4 (i-n) j (by omega) hj (by rw[<-e2];rw[List.length_append] at h';omega);simpa only[e,e2] using this

theorem sZ(g o j:Nat):(⟨g,o,none⟩:Addr).add j=⟨g,o+j,none⟩:=by unfold Addr.add;split<;>simp_all

theorem ja{i j sz n k:Nat}(hk:k<n*sz)(hi:i=k/sz)(hj:j=k%sz):i<n/\j<sz/\i*sz+j=k:=by
 have hs:0<sz:=by
  rcases Nat.eq_zero_or_pos sz with h|h
  ·subst h;omega
  ·exact h
 subst hi;subst hj;refine⟨(Nat.div_lt_iff_lt_mul hs).2 hk,Nat.mod_lt _ hs,?_⟩;have:=Nat.div_add_mod k sz;rw[Nat.mul_comm] at this;exact this

theorem aX.E2{ty:TypeId}{sz n:Nat}{row:Nat->List A}{p:Id}(h:aX ids im w (.row ty sz n row) (.lv p)):
  ∃cur:Array Value,p.sz=sz/\p.n=n/\w.heap[p.ao]?=some (.cells cur ty (0,0))/\cur.size=p.k/\n*sz<=p.k/\dM im w n sz row (cur.toList.take (n*sz)):=by
 obtain⟨e1,e2,vs,g1,g2,g3,g4,g5⟩:=h;have hl:(vs.toList.take (n*sz)).length=n*sz:=by simp;omega
 refine⟨vs,e1,e2,g1,g2,g3,hl,?_,g4,?_⟩
 ·intro u hu;obtain⟨k,hk,rfl⟩:=List.getElem_of_mem hu;rw[hl] at hk;obtain⟨q1,q2,q3⟩:=ja hk rfl rfl;have aD:k<vs.size:=by omega
  have:=(g5 (k/sz) (k%sz) q1 (by rw[g4 _ q1];exact q2) (by rw[q3];exact aD)).2;simp only[List.getElem_take,Array.getElem_toList];simpa only[q3] using this
 ·intro i j hi h h';rw[hl] at h';have:=(g5 i j hi h (by omega)).1;simpa using this

theorem dM.tail{im:Nat->Prop}{w:World}{n sz:Nat}{row:Nat->List A}{vs:List Value}(h:dM im w n sz row vs)(k:Nat):dM im w (n-k) sz (fun i=>row (k+i)) (vs.drop (k*sz)):=by
 obtain⟨h1,h2,h3,h4⟩:=h;refine⟨by rw[List.length_drop,h1,Nat.sub_mul],fun u hu=>h2 u (List.mem_of_mem_drop hu),fun i hi=>h3 _ (by omega),fun i j hi hj h'=>?_⟩;have:=h4 (k+i) j (by omega) hj (by rw[List.length_drop] at h';rw[Nat.add_mul];omega);rw[List.getElem_drop];have e:(k+i)*sz+j=k*sz+(i*sz+j):=by rw[Nat.add_mul];omega
 simpa only[e] using this
theorem uq(hs:aF c s m a w ids){bB n:Nat}{row:Nat->List A}{y:A}{v:Value}(h:AM m bB y=some (n,row))(hy:Rel ids (au c ids w) w y v):
  ∃news,dM (au c ids w) w n bB row news/\((v=.slice none 0 0/\n=0/\news=[])\/∃ad cp,v=.slice (some ad) n cp/\(∀j u,news[j]?=some u->w.cell? (ad.add j)=some u)):=by
 unfold AM at h;split at h
 ·rename_i b;split at h
  ·rename_i ty sz n' dI hb;split at h
   ·rename_i he;have he:=Nat.eq_of_beq_eq_true he;cases h;subst he;obtain⟨aD,hm⟩:=jo hb;have eR:b<ids.length:=by rw[hs.aL];exact aD
    have hB:=hs.bC b aD eR;rw[hm] at hB;rcases hs.fL hy (by rw[hb];simp) with⟨h1,rfl⟩|⟨p,cap,h1,h2,h3,rfl⟩
    ·have:ids[b]=.aQ:=by rw[List.getElem?_eq_getElem eR] at h1;exact Option.some.inj h1
     rw[this] at hB;have hB:n=0:=hB;subst hB;exact⟨[],dM.nil _ _ _ _,.inl ⟨rfl,rfl,rfl⟩⟩
    ·have:ids[b]=.lv p:=by rw[List.getElem?_eq_getElem eR] at h1;exact Option.some.inj h1
     rw[this] at hB;obtain⟨cur,e1,e2,g1,g2,g3,hR⟩:=hB.E2;refine⟨_,hR,.inr ⟨_,cap,by rw[e2],fun j u hu=>?_⟩⟩;rw[sZ,Nat.zero_add,cell_of_row w p.ao j cur ty (0,0) g1];rw[List.getElem?_take] at hu;split at hu
     ·simpa using hu
     ·cases hu
   ·cases h
  ·cases h
 ·rename_i n' sz dI;split at h
  ·rename_i he;have he:=Nat.eq_of_beq_eq_true he;cases h;subst he;cases hy with
   | aI hy =>
    cases hy with
    | sn=>exact⟨[],dM.nil _ _ _ _,.inl ⟨rfl,rfl,rfl⟩⟩
    | sle _ _ ad cap=>exact⟨[],dM.nil _ _ _ _,.inr ⟨ad,cap,rfl,fun j u hu=>by simp at hu⟩⟩
    | sl _ _ _ ao base cap vs hb kQ hl hc ho hr =>
     refine⟨(List.range (n*sz)).map fun k=>vs (k/sz) (k%sz),⟨by simp,?_,hl,?_⟩,.inr ⟨_,cap,rfl,?_⟩⟩
     ·intro u hu;simp only[List.mem_map,List.mem_range] at hu;obtain⟨k,hk,rfl⟩:=hu;obtain⟨q1,q2,q3⟩:=ja hk rfl rfl;exact ho _ _ q1 q2
     ·intro i j hi hj h';have NQ:j<sz:=by rw[<-hl i hi];exact hj
      have YN:0<sz:=by omega
      have e1:(i*sz+j)/sz=i:=by rw[Nat.mul_comm,Nat.mul_add_div YN,Nat.div_eq_of_lt NQ];simp
      have e2:(i*sz+j)%sz=j:=by rw[Nat.mul_comm,Nat.mul_add_mod,Nat.mod_eq_of_lt NQ]
      simp only[List.getElem_map,List.getElem_range,e1,e2];exact hr i j hi hj
     ·intro k u hu;rw[List.getElem?_map] at hu;rcases Nat.lt_or_ge k (n*sz) with hk|hk
      ·rw[List.getElem?_eq_getElem (by simpa using hk)] at hu;simp at hu;obtain⟨q1,q2,q3⟩:=ja hk rfl rfl;rw[sZ,<-hu,<-hc _ _ q1 q2,Nat.add_assoc,q3]
      ·rw[List.getElem?_eq_none (by simpa using hk)] at hu;cases hu
  ·cases h
 ·cases h;exact⟨[],dM.nil _ _ _ _,.inl ⟨hy.dr,rfl,rfl⟩⟩
 ·rename_i b k;split at h
  ·rename_i ty sz n' dI hb;split at h
   ·rename_i he;have he:=Nat.eq_of_beq_eq_true he;cases h;subst he;obtain⟨aD,hm⟩:=jo hb;have eR:b<ids.length:=by rw[hs.aL];exact aD
    have hB:=hs.bC b aD eR;rw[hm] at hB;rcases hs.Rw hy (by rw[hb];simp) with⟨h1,rfl⟩|⟨p,cap,x,h1,hx,rfl⟩
    ·have:ids[b]=.aQ:=by rw[List.getElem?_eq_getElem eR] at h1;exact Option.some.inj h1
     rw[this] at hB;have hB:n'=0:=hB;subst hB;rw[Nat.zero_sub];exact⟨[],dM.nil _ _ _ _,.inl ⟨rfl,rfl,rfl⟩⟩
    ·have:ids[b]=.lv p:=by rw[List.getElem?_eq_getElem eR] at h1;exact Option.some.inj h1
     rw[this] at hB;obtain⟨cur,e1,e2,g1,g2,g3,hR⟩:=hB.E2;refine⟨_,hR.tail k,.inr ⟨_,cap,by rw[e2],fun j u hu=>?_⟩⟩;rw[List.getElem?_drop,List.getElem?_take] at hu;split at hu
     ·rename_i hj
      have hkn:k<p.n:=by
       rw[e2];rcases Nat.lt_or_ge k n' with hk|hk
       ·exact hk
       ·have:=Nat.mul_le_mul_right sz hk;omega
      rw[hx hkn,e1,sZ,cell_of_row w p.ao _ cur ty (0,0) g1];simpa using hu
     ·cases hu
   ·cases h
  ·cases h
 ·cases h

theorem dM.mono{n sz:Nat}{row:Nat->List A}{vs:List Value}(h:dM im w n sz row vs)(hm:∀u v,aw im w u v->aw bo w' u v):dM bo w' n sz row vs :=
 ⟨h.1,h.2.1,h.2.2.1,fun i j hi hj cj=>hm _ _ (h.2.2.2 i j hi hj cj)⟩

/-- A block whose first cells stand for rows. -/
theorem aX.ni{ty:TypeId}{sz n cap:Nat}{row:Nat->List A}{g:Nat}{cur:Array Value}{vs:List Value}(hg:w.heap[g]?=some (.cells cur ty (0,0)))(Qv:cur.size=cap*sz)(hn:n<=cap)
  (ht:cur.toList.take (n*sz)=vs) (hR:dM im w n sz row vs):aX ids im w (.row ty sz n row) (.lv (mkId g cur.size n sz)):=by
 have hle:n*sz<=cur.size:=by rw[Qv];exact Nat.mul_le_mul_right _ hn
 refine⟨rfl,rfl,cur,hg,rfl,hle,hR.2.2.1,?_⟩;intro i j hi hj cj
 have aD:i*sz+j<n*sz:=by
  have:=Nat.mul_le_mul_right sz (show i+1<=n from hi);have:=hR.2.2.1 i hi;rw[Nat.add_mul] at *;omega
 have vw:=hR.1;have e:vs[i*sz+j]'(by omega)=cur[i*sz+j]:=by subst ht;simp
 refine⟨by rw[<-e];exact hR.2.2.2 i j hi hj (by omega),?_⟩;rw[<-e];exact hR.2.1 _ (List.getElem_mem _)

theorem Da(aJ:bp P tt)(hs:aF c s m a w ids){t:TypeId}{X Y:Operand}(ho:o.op=.call { callee:=.builtin .append,args:=#[X,Y],argTypes:=#[t,t] })
  {K:List A->A->List aq->Prop} (h:RH tt t (ev s X) (ev s Y) s m K)
  (hn:∀s1 v m' a' w' ab,K s1 v m'->aF c (bf s1 o.dst v) m' a' w' ab->next a' w'):o.wp P a w next Q:=by
 have hx:=hs.ev X;have hy:=hs.ev Y
 have e:(execOp a.eval o)=(do pure (.value (<-Builtin.append_ #[t,t] o.type #[a.eval X,a.eval Y]))):=by
  obtain⟨dst,op,ty,pos,after,guard⟩:=o;simp only at ho;subst ho;simp[execOp,resolve,invoke,builtin]
 unfold RH at h;split at h
 ·exact h.elim
 ·rename_i ti jn;obtain⟨i0,d,z0,_,hd,_,_,_,_,_,_,_,_,_,jt,_⟩:=aJ.facts jn;split at h
  ·rename_i n2 iU hk hv;obtain⟨ie,ze,gk,iT,bL,Br,hz,pC,hne⟩:=jt hk;subst gk;obtain⟨news,NS,RC⟩:=uq hs hv hy
   have NT:(a.eval Y=.slice none 0 0/\n2=0/\news=[])\/∃ad cp,a.eval Y=.slice (some ad) n2 cp/\news.length=n2*ie.size/\(∀j u,news[j]?=some u->w.cell? (ad.add j)=some u):=by
    rcases RC with h|⟨ad,cp,h1,h2⟩
    ·exact .inl h
    ·exact .inr ⟨ad,cp,h1,by rw[bL];exact NS.1,h2⟩
   have GK:ze.cells.size=ie.size:=by rw[pC,bL]
   split at h
   ·rename_i b NM;rw[NM] at hx;split at h
    ·rename_i ty sz n row hb;split at h
     ·rename_i mU kM;have mU:=Nat.eq_of_beq_eq_true mU;have kM:=Nat.eq_of_beq_eq_true kM;subst mU;subst kM;rw[aO] at h;obtain⟨⟨BD,sj⟩,h⟩:=h;rw[cK,dQ] at h;obtain⟨aD,hm⟩:=jo hb;have eR:b<ids.length:=by rw[hs.aL];exact aD
      have hB:=hs.bC b aD eR;rw[hm] at hB
      have NP:∃xs,dM (au c ids w) w n ti.bB row xs/\((a.eval X=.slice none 0 0/\n=0/\xs=[])\/∃g cap cur,a.eval X=.slice (some ⟨g,0,none⟩) n cap/\w.heap[g]?=some (.cells cur ti.aN (0,0))/\n<=cap/\cap<=maxLen/\cur.size=cap*ie.size/\cur.toList.take (n*ie.size)=xs) /\
        ((a.eval X).ownBlock=none\/∃p,ids[b]?=some (.lv p)/\(a.eval X).ownBlock=some p.ao):=by
       rcases hs.fL hx (by rw[hb];simp) with⟨h1,h2⟩|⟨p,cap,h1,h2,h3,h4⟩
       ·have:ids[b]=.aQ:=by rw[List.getElem?_eq_getElem eR] at h1;exact Option.some.inj h1
        rw[this] at hB;have hB:n=0:=hB;subst hB;exact⟨[],dM.nil _ _ _ _,.inl ⟨h2,rfl,rfl⟩,.inl (by rw[h2];rfl)⟩
       ·have:ids[b]=.lv p:=by rw[List.getElem?_eq_getElem eR] at h1;exact Option.some.inj h1
        rw[this] at hB;obtain⟨cur,e1,e2,g1,g2,g3,hR⟩:=hB.E2;subst e2;exact⟨_,hR,.inr ⟨p.ao,cap,cur,h4,g1,h2.1,h2.2,by rw[g2,<-h3,e1,bL],by rw[bL]⟩,.inr ⟨p,h1,by rw[h4];rfl⟩⟩
      obtain⟨xs,XP,RI,aU⟩:=NP;obtain⟨v',w',bW,o1,o2,o3,o4,o5,NU,o6⟩:=lA (P:=P) (w:=w) t o.type ti.aN ie ze hd iT hz GK (a.eval X) n xs RI (a.eval Y) n2 news NT NS.2.1 BD (by rw[Br];exact sj);have XS:=XP.cat NS
      have hblk:∀k,k<w.heap.size->(∀p,ids[b]?=some (.lv p)->¬p.has k)->w'.heap[k]?=w.heap[k]?:=by
       intro k hk hp;refine o5 k hk (fun e=>?_);rcases aU with h|⟨p,h1,h2⟩
       ·rw[h] at e;cases e
       ·rw[h2] at e;exact hp p h1 (.inl (Option.some.inj e).symm)
      rcases o6 with⟨rfl,va⟩|⟨g,cap,cur,rfl,q1,q2,q3,q4,q5,q6,q7⟩
      ·have bH:=hs.rebind (w':=w') b .aQ (.row ti.aN ti.bB (n+n2) (bM n row iU)) 4 aD o1 o2 o3 o4 hblk (fun _ h=>by cases h) (fun p' h=>by cases h) (fun _=>va) NU;refine aR (by rw[e];simp[bW]) (hn _ _ _ _ _ _ h (bH.bf o.dst (.fX b ?_)));rw[List.getElem?_set_self eR]
      ·rw[bL] at q4 q5
       have bH:=hs.rebind (w':=w') b (.lv (mkId g cur.size (n+n2) ti.bB)) (.row ti.aN ti.bB (n+n2) (bM n row iU)) 4 aD o1 o2 o3 o4 hblk (fun _ h=>by cases h)
        (fun p' h x hx=>by
         cases h;have:=cw hx;subst this;refine⟨q6,?_⟩;rcases q7 with h|h
         ·exact .inl h
         ·rcases aU with h'|⟨p,h1,h2⟩
          ·rw[h'] at h;cases h
          ·rw[h2] at h;exact .inr ⟨p,h1,.inl (Option.some.inj h).symm⟩)
        (fun hm=>aX.ni q1 q4 q2 q5 (XS.mono hm)) NU
       refine aR (by rw[e];simp[bW]) (hn _ _ _ _ _ _ h (bH.bf o.dst (.own b cap (mkId g cur.size (n+n2) ti.bB) ?_ ⟨q2,q3⟩ q4.symm)));rw[List.getElem?_set_self eR]
     ·exact h.elim
    ·exact h.elim
   ·rename_i NM;rw[NM] at hx;simp only[aO] at h;obtain⟨⟨BD,sj⟩,h⟩:=h;rw[fG] at h;obtain⟨v',w',bW,o1,o2,o3,o4,o5,NU,o6⟩:=lA (P:=P) (w:=w) t o.type ti.aN ie ze hd iT hz GK (a.eval X) 0 [] (.inl ⟨hx.dr,rfl,rfl⟩) (a.eval Y) n2 news NT NS.2.1 (by omega) (by rw[Br];simpa using sj);have RJ:Bw w.heap.size w w':=⟨o1,o2,o3,o4,fun k hk=>o5 k hk (by rw[hx.dr];simp[Value.ownBlock]),NU⟩;simp only[Nat.zero_add,List.nil_append] at o6
    have lN:∀js:dE,(∀p,dT.lv p∈js->∀x,p.has x->w.heap.size<=x)->∀u v,aw (au c ids w) w u v->aw (au c (ids++js) w') w' u v:=by
     intro js NQ u v hu;refine hu.mono ?_ (fun k hk=>RJ.block k (cB hs hk));intro k hk;rcases hk with hk|⟨h1,h2,h3⟩
     ·exact .inl hk
     ·refine .inr ⟨h1,Nat.lt_of_lt_of_le h2 o4,fun p hp=>?_⟩;rcases List.mem_append.1 hp with hp|hp
      ·exact h3 p hp
      ·intro hx;have:=NQ p hp k hx;omega
    rcases o6 with⟨rfl,va⟩|⟨g,cap,cur,rfl,q1,q2,q3,q4,q5,q6,q7⟩
    ·have bH := hs.grow RJ [.row ti.aN ti.bB n2 iU] [.aQ] rfl (fun i h1 h2 => by
       have:i=0:=by simp at h1;omega
       subst this;exact va) (fun p h=>by simp at h) (fun vs h=>by simp at h) (fun i j p q x h1=>by
       cases i with
       | zero=>simp at h1
       | succ i=>simp at h1)
     refine aR (by rw[e];simp[bW]) (hn _ _ _ _ _ _ h (bH.bf o.dst (.fX m.length ?_)));rw[<-hs.aL];simp
    ·rw[bL] at q4 q5
     have I9:w.heap.size<=g:=by
      rcases q7 with h|h
      ·exact h
      ·rw[hx.dr] at h;simp[Value.ownBlock] at h
     have bH:=hs.grow RJ [.row ti.aN ti.bB n2 iU] [.lv (mkId g cur.size n2 ti.bB)] rfl (fun i h1 h2=>by
       have:i=0:=by simp at h1;omega
       subst this;exact aX.ni q1 q4 q2 q5 (NS.mono (lN _ (fun p hp x hx=>by simp at hp;subst hp;rw[cw hx];exact I9)))) (fun p h x hx=>by simp at h;subst h;rw[cw hx];exact⟨I9,q6⟩) (fun vs h=>by simp at h) (fun i j p q x h1 h2 _ _=>by
       cases i with
       | zero=>cases j with
        | zero=>rfl
        | succ j=>simp at h2
       | succ i=>simp at h1)
     refine aR (by rw[e];simp[bW]) (hn _ _ _ _ _ _ h (bH.bf o.dst (.own m.length cap (mkId g cur.size n2 ti.bB) ?_ ⟨q2,q3⟩ q4.symm)));rw[<-hs.aL];simp
   ·exact h.elim
  ·exact h.elim
end
def GL(z:List A):Nat->List A
 | 0=>[]
 | n+1=>z++GL z n
theorem E3(z:List A):∀n,(GL z n).length=n*z.length
 | 0=>by simp[GL]
 | n+1=>by simp[GL,E3 z n,Nat.add_mul];omega
theorem E4(z:List A):∀(n k:Nat) (h:k<(GL z n).length) (h':k%z.length<z.length),(GL z n)[k]=z[k%z.length]
 | 0,k,h,_=>by simp[GL] at h
 | n+1,k,h,h'=>by
  simp only[GL];by_cases hk:k<z.length
  ·rw[List.getElem_append_left hk];simp[Nat.mod_eq_of_lt hk]
  ·rw[List.getElem_append_right (by omega)];have e:(k-z.length)%z.length=k%z.length:=(Nat.mod_eq_sub_mod (by omega)).symm;rw[E4 z n (k-z.length) (by simp[GL] at h;omega) (by rw[e];exact h')];simp only[e]

def KK(tt:TT)(t:TypeId)(l k:A)(m:List aq)(K:KT):Prop :=
 match tt.lookup t,l,k with
 | some ti,.int _ l,.int _ k=>match ti.kind,tt.lookup ti.aN with
  | 3,some te=>dz ti.eD fun eb=>dz ti.aN fun aN=>dz ti.bB fun bB=>fl te.zero fun z=>(0<=l/\l<=k/\k<=140737488355328/\k*(eb:Int)<=140737488355328)/\lL m (.row aN bB l.toNat fun _=>z) fun b m'=>K (.own b) m'
  | _,_=>False
 | _,_,_=>False
def ur(tt:TT)(t:TypeId)(len:Nat)(parts:List (Nat×A))(m:List aq)(K:KT):Prop :=
 match tt.lookup t with
 | none=>False
 | some ti=>match ti.kind,tt.lookup ti.aN,Nat.ble (len*ti.bB) 1000000 with
  | 3,some te,true=>nV ti parts (GL te.zero len) fun cs=>match cs.any (cL 4),Nat.beq cs.length (len*ti.bB) with
   | false,true=>dz ti.aN fun aN=>dz ti.bB fun bB=>lL m (.row aN bB len fun i=>iv bB (cs.drop (i*bB))) fun b m'=>K (.own b) m'
   | _,_=>False
  | _,_,_=>False
/-- A slice of a row of ours: the row itself, shorter. -/
def Db(tt:TT)(t:TypeId)(b:Nat)(lo hi:Option A)(s:List A)(m:List aq)(K:List A->A->List aq->Prop):Prop :=
 match tt.lookup t,lo with
 | some ti,none=>match ti.kind,m.getD b .dead with
  | 3,.row ty sz n row=>w9 hi n n fun h =>
   fd.qp 4 (s.map (uZ b 4)) fun s'=>qt ((m.map (AK b 4)).set b (.row ty sz h row)) fun m'=>K s' (.own b) m'
  | _,_=>False
 | some ti,some l=>match ti.kind,hi,m.getD b .dead with
  | 3,none,.row _ sz n _=>match Nat.beq sz ti.bB with
   | true=>w9 (some l) 0 n fun k=>dz b fun b'=>K s (.nw b' k) m
   | false=>False
  | _,_,_=>False
 | _,_=>False
/-- An operation that may strike names. -/
def pg(P:Program)(G:aG)(tt:TT)(o:Oper)(s:List A)(m:List aq)(K:List A->A->List aq->Prop):Prop :=
 match o.op with
 | .call { callee:=.builtin .append,args,argTypes }=>match args.toList,argTypes.toList with
  | [x,y],[t,t']=>match Nat.beq t' t with
   | true=>RH tt t (ev s x) (ev s y) s m K
   | false=>False
  | _,_=>False
 | .makeSlice t l k=>KK tt t (ev s l) (ev s k) m (K s)
 | .buildSlice t len ps=>ur tt t len (ps.toList.map fun p=>(p.1,ev s p.2)) m (K s)
 | .slice t x lo hi mx=>match mx,ev s x with
  | none,.own b=>Db tt t b (pf s lo) (pf s hi) s m K
  | _,_=>step P G tt o s m (K s)
 | _=>step P G tt o s m (K s)

section
variable {c:Ctx} {s:List A} {m:List aq} {a:Act} {w w':World} {ids ab:dE} {P:Program} {im bo:Nat->Prop} {tt:TT} {G:aG}
variable {next:Act->World->Prop} {Q:Exit->Act->World->Prop} {o:Oper}

theorem n9{z:Array Value}{sz n N:Nat}(hz:z.size=sz)(hn:n<=N)(fV:∀v∈z.toList,v.oneCell'=true):
  dM im w n sz (fun _=>z.toList.map ofConst) ((madeCells z (N*sz)).toList.take (n*sz)):=by
 have hle:n*sz<=N*sz:=Nat.mul_le_mul_right _ hn;have hl:((madeCells z (N*sz)).toList.take (n*sz)).length=n*sz:=by rw[List.length_take,Array.length_toList,size_madeCells];exact Nat.min_eq_left hle
 have gJ:∀k (h:k<((madeCells z (N*sz)).toList.take (n*sz)).length) (h':k%sz<z.toList.length),((madeCells z (N*sz)).toList.take (n*sz))[k]=z.toList[k%sz]:=by
  intro k h h';simp[madeCells,hz];rw[getElem!_pos z (k%sz) (by simpa using h')]
 refine⟨hl,?_,fun i _=>by simp[hz],?_⟩
 ·intro u hu;obtain⟨k,hk,rfl⟩:=List.getElem_of_mem hu;have ot:=hk;rw[hl] at ot;obtain⟨q1,q2,q3⟩:=ja ot rfl rfl;rw[gJ k hk (by simpa[hz] using q2)];exact fV _ (List.getElem_mem _)
 ·intro i j hi hj h';have NQ:j<sz:=by simpa[hz] using hj
  have e2:(i*sz+j)%sz=j:=by rw[Nat.mul_comm,Nat.mul_add_mod,Nat.mod_eq_of_lt NQ]
  rw[gJ _ h' (by rw[e2];simpa[hz] using NQ)];simp only[e2,List.getElem_map];exact eE _ _ _

theorem AN(aJ:bp P tt)(hs:aF c s m a w ids){t:TypeId}{L C:Operand}(ho:o.op=.makeSlice t L C){K:KT}(h:KK tt t (ev s L) (ev s C) m K)(hn:cq c s o K next):o.wp P a w next Q:=by
 have hl:=hs.ev L;have hc:=hs.ev C;unfold KK at h;split at h
 ·rename_i ti k1 l k2 k jn hL hC;rw[hL] at hl;rw[hC] at hc;obtain⟨i0,d,z0,_,hd,_,_,_,_,_,_,_,_,_,jt,_⟩:=aJ.facts jn;split at h
  ·rename_i te hk yC;obtain⟨ie,ze,gk,iT,bL,Br,hz,pC,hne⟩:=jt hk;subst gk;obtain⟨i1,d1,z1,dJ,_,Pk,_,fV,_,hzero,_⟩:=aJ.facts yC;have e1:i1=ie:=by rw[iT] at dJ;exact(Option.some.inj dJ).symm
   subst e1;have e2:z1=ze:=by rw[hz] at Pk;exact(Option.some.inj Pk).symm
   subst e2;simp only[aO,ck] at h;obtain⟨⟨c1,c2,c3,c4⟩,h⟩:=h;rw[fG] at h;have bW:=run_make (P:=P) w t ti.aN i1 z1 hd iT hz k1 k2 l k c1 c2 (by rw[Br,Int.mul_comm];omega) (by omega);refine xE hs hn (.row ti.aN ti.bB l.toNat fun _=>te.zero) (madeCells z1.cells (k.toNat*i1.size)) ti.aN l.toNat ti.bB (v:=.slice (some ⟨w.heap.size,0,none⟩) l.toNat k.toNat) ?_ h ?_ ?_
   ·unfold execOp;rw[ho];simp only[hl.bY,hc.bY,Sem.run_bind,bW];rfl
   ·intro ab bo w' g1 g2 g3 g4;rw[bL] at g4 ⊢;refine aX.ni (cap:=k.toNat) g4 (by simp[size_madeCells]) (by omega) rfl ?_;rw[hzero];exact n9 pC (by omega) fV
   ·intro ab bo w' g;refine .own _ k.toNat _ g ⟨by show l.toNat<=k.toNat;omega,by simp only[maxLen];omega⟩ ?_;simp[size_madeCells,bL]
  ·exact h.elim
 ·exact h.elim

/-- A slice literal: the new block, and what it stands for. -/
theorem E5(aJ:bp P tt)(hs:aF c s m a w ids){t:TypeId}{len:Nat}{ps:Array (Nat×Operand)}{ti te:TI}(jn:tt.lookup t=some ti)(hk:ti.kind=3)(yC:tt.lookup ti.aN=some te)(NV:len*ti.bB<=1000000)
  {K:List A->Prop} (h:nV ti (ps.toList.map fun p=>(p.1,ev s p.2)) (GL te.zero len) K) :
  ∃db dK,K db/\(db.any (cL 4)=false->db.length=len*ti.bB ->
   (Instr.buildSlice t len (ps.map fun p=>(p.1,a.eval p.2))).run P w=.ok (.slice (some ⟨w.heap.size,0,none⟩) len len) (w.alloc (.cells dK ti.aN))/\dK.size=len*ti.bB/\len<=maxLen /\
   ∀ab bo w',(∀b,au c ids w b->bo b)->(∀b,au c ids w b->w'.heap[b]?=w.heap[b]?)->(∀(b:Nat) p,ids[b]?=some p->p≠.dead->ab[b]?=some p) ->
    w'.heap[w.heap.size]?=some (.cells dK ti.aN (0,0))->aX ab bo w' (.row ti.aN ti.bB len fun i=>iv ti.bB (db.drop (i*ti.bB))) (.lv (mkId w.heap.size dK.size len ti.bB))):=by
 have hp:=vY hs ps.toList;obtain⟨i0,d,z0,_,hd,_,_,_,_,_,_,_,_,_,jt,_⟩:=aJ.facts jn;obtain⟨ie,ze,gk,iT,bL,Br,hz,pC,hne⟩:=jt hk;subst gk;obtain⟨i1,d1,z1,dJ,_,Pk,_,fV,_,hzero,_⟩:=aJ.facts yC;have e1:i1=ie:=by rw[iT] at dJ;exact(Option.some.inj dJ).symm
 subst e1;have e2:z1=ze:=by rw[hz] at Pk;exact(Option.some.inj Pk).symm
 subst e2;have VU:te.zero.length=ti.bB:=by rw[hzero];simp[pC]
 have hM:=n9 (im:=au c ids w) (w:=w) (n:=len) (N:=len) pC (Nat.le_refl _) fV;have wM:(madeCells z1.cells (len*ti.bB)).toList.length=len*ti.bB:=by simp[size_madeCells]
 rw[List.take_of_length_le (by omega)] at hM
 obtain⟨db,dK,f1,f2,f3,f4,f5⟩:=nY (ti:=ti) (ids:=ids) (im:=au c ids w) (w:=w) _ _ (GL te.zero len) (madeCells z1.cells (len*ti.bB)).toList _ hp (by rw[wM,E3,VU])
  hM.2.1 (fun j h1 h2=>by
   rw[wM] at h2;obtain⟨q1,q2,q3⟩:=ja h2 rfl rfl;have:=hM.2.2.2 (j/ti.bB) (j%ti.bB) q1 (by simp[pC];exact q2) (by rw[q3,wM];exact h2);rw[E4 _ _ _ h1 (by rw[VU];exact q2)];simp only[VU,q3] at this ⊢;have e:te.zero[j%ti.bB]'(by rw[VU];exact q2)=(z1.cells.toList.map ofConst)[j%ti.bB]'(by simp[pC];exact q2):=by simp only[hzero]
   rw[e];exact .aI this) h
 refine⟨db,dK.toArray,f2,fun aU hlen=>?_⟩;have vw:dK.length=len*ti.bB:=by rw[f3,hlen]
 have Pm:∀zero:Array Value,(len*ti.bB=0\/zero=z1.cells)->(Array.range (len*ti.bB)).map (zero[· % zero.size]!)=madeCells z1.cells (len*ti.bB):=by
  intro zero h;rcases h with h|h
  ·rw[h];simp[madeCells]
  ·rw[h];rfl
 have ON:(fun i=>some (i*ti.bB,ti.bB))=placeOf ti:=by
  funext x;unfold placeOf;rw[hk];rfl
 have bW:(Instr.buildSlice t len (ps.map fun p=>(p.1,a.eval p.2))).run P w=.ok (.slice (some ⟨w.heap.size,0,none⟩) len len) (w.alloc (.cells dK.toArray ti.aN)):=by
  have hf:Instr.fill (placeOf ti) (madeCells z1.cells (len*ti.bB)) (ps.toList.map fun p=>(p.1,a.eval p.2))=some dK.toArray:=by simpa using f1
  have hle:¬16777216<len*ti.bB:=by omega
  by_cases h0:len*ti.bB=0
  ·have:=Pm #[] (.inl h0);rw[<-this] at hf;simp[Instr.buildSlice,underlying,hd,sizeOf,typeInfo,iT,bL,h0,ON,newRow];rw[h0] at hf;simp at hf;simp[hf]
  ·have:=Pm z1.cells (.inr rfl);rw[<-this] at hf;simp[Instr.buildSlice,underlying,hd,sizeOf,typeInfo,iT,bL,hle,h0,ON,newRow,zeroValue,hz];simp[hf]
 refine⟨bW,by simpa using vw,?_,?_⟩
 ·have:len<=len*ti.bB:=Nat.le_mul_of_pos_right _ (Nat.pos_of_ne_zero hne);simp only[maxLen];omega
 ·intro ab bo w' g1 g2 g3 g4;refine aX.ni (cap:=len) (vs:=dK) g4 (by simpa using vw) (Nat.le_refl _) (by rw[<-vw];simp) ⟨vw,f4,?_,?_⟩
  ·intro i hi;simp only[ku];simp;have:=Nat.mul_le_mul_right ti.bB (show i+1<=len from hi);rw[Nat.add_mul] at this;omega
  ·intro i j hi hj h';have hc:i*ti.bB+j<db.length:=by omega
   have e:(iv ti.bB (db.drop (i*ti.bB)))[j]=db[i*ti.bB+j]:=by simp[ku]
   rw[e];refine(cz 4 _ _ ?_ (f5 _ hc h')).mono g1 g2;have:=List.any_eq_false.1 aU _ (List.getElem_mem hc);simpa using this

theorem uu(aJ:bp P tt)(hs:aF c s m a w ids){t:TypeId}{len:Nat}{ps:Array (Nat×Operand)}(ho:o.op=.buildSlice t len ps){K:KT}
  (h:ur tt t len (ps.toList.map fun p=>(p.1,ev s p.2)) m K) (hn:cq c s o K next):o.wp P a w next Q:=by
 unfold ur at h;split at h
 ·exact h.elim
 ·rename_i ti jn;split at h
  ·rename_i te hk yC NV;obtain⟨db,dK,f2,E6⟩:=E5 (P:=P) aJ hs jn hk yC (Nat.le_of_ble_eq_true NV) h;split at f2
   ·rename_i aU hlen;rw[aO,aO,fG] at f2;obtain⟨bW,vw,VV,hB⟩:=E6 aU (Nat.eq_of_beq_eq_true hlen);refine xE hs hn _ dK ti.aN len ti.bB (v:=.slice (some ⟨w.heap.size,0,none⟩) len len) ?_ f2 hB ?_
    ·unfold execOp;rw[ho];simp only[Sem.run_bind,bW];rfl
    ·intro ab bo w' g;exact .own _ len _ g ⟨Nat.le_refl _,VV⟩ vw.symm
   ·exact f2.elim
  ·exact h.elim

theorem xK(aJ:bp P tt)(hs:aF c s m a w ids){t:TypeId}{X:Operand}{lo hi:Option Operand}{b:Nat}(ho:o.op=.slice t X lo hi none)(hX:ev s X=.own b)
  {K:List A->A->List aq->Prop} (h:Db tt t b (pf s lo) (pf s hi) s m K)
  (hn:∀s1 v m' a' w' ab,K s1 v m'->aF c (bf s1 o.dst v) m' a' w' ab->next a' w'):o.wp P a w next Q:=by
 have hx:=hs.ev X;rw[hX] at hx;have e:execOp a.eval o=(do let z <-Instr.sliceAt t (a.eval X) (lo.map a.eval) (hi.map a.eval) none;pure (.value z)):=by unfold execOp;rw[ho];rfl
 unfold Db at h;split at h
 ·rename_i ti jn rT;have rT:lo=none:=by cases lo with|none=>rfl|some=>simp[pf] at rT
  subst rT;obtain⟨i0,d,z0,_,hd,_,_,_,_,_,_,_,_,_,jt,_⟩:=aJ.facts jn;split at h
  ·rename_i ty sz n row hk hb;obtain⟨ie,ze,gk,iT,bL,Br,hz,pC,hne⟩:=jt hk;subst gk
   have v8:P.underlying t=some (.slice (P.elem t)):=by
    have:P.elem t=ti.aN:=by simp[Program.elem,hd]
    rw[this];exact hd
   have GJ:P.elem t=ti.aN:=by simp[Program.elem,hd]
   obtain⟨aD,hm⟩:=jo hb;have eR:b<ids.length:=by rw[hs.aL];exact aD
   have hB:=hs.bC b aD eR;rw[hm] at hB;rcases hs.fL hx (by rw[hb];simp) with⟨h1,h2⟩|⟨p,cap,h1,h2,h3,h4⟩
   ·have:ids[b]=.aQ:=by rw[List.getElem?_eq_getElem eR] at h1;exact Option.some.inj h1
    rw[this] at hB;have hB:n=0:=hB;subst hB;obtain⟨gG,h,b1,b2,b3⟩:=fJ hs h (Nat.le_refl _);rw[cK,dQ] at h
    have h0:gG=0:=by
     cases hi with
     | none=>exact b1 rfl
     | some L=>have:=b2 rfl;omega
    subst h0;have bH:=hs.rebind (w':=w) b .aQ (.row ty sz 0 row) 4 aD rfl rfl rfl (Nat.le_refl _) (fun _ _ _=>rfl) (fun _ h=>by cases h) (fun p' h=>by cases h) (fun _=>rfl);refine aR ?_ (hn _ _ _ _ _ _ h (bH.bf o.dst (v:=.slice none 0 0) (.fX b ?_)))
    ·rw[e,h2,Sem.run_bind,run_sliceAt_slice _ _ _ _ _ _ v8,run_slice_any _ _ _ _ _ v8];have:=dH (P:=P) (w:=w) (a:=a) (LJ:=true) (len:=0) (cap:=0) (lo:=none) b1 (fun _=>rfl) b3 (fun X h=>by cases h);simp only[Option.map_none] at this;simp[this,GJ,sizeOf,typeInfo,iT,bL,sliced]
    ·rw[List.getElem?_set_self eR]
   ·have:ids[b]=.lv p:=by rw[List.getElem?_eq_getElem eR] at h1;exact Option.some.inj h1
    rw[this] at hB;obtain⟨gG,h,b1,b2,b3⟩:=fJ hs h (show n<=cap by have:=hB.2.1;omega);rw[cK,dQ] at h;obtain⟨e1,e2,vs,g1,g2,g3,g4,g5⟩:=hB
    have hle:gG<=n:=by
     cases hi with
     | none=>have:=b1 rfl;omega
     | some L=>exact b2 rfl
    have bH:=hs.rebind (w':=w) b (.lv (mkId p.ao p.k gG p.sz)) (.row ty sz gG row) 4 aD rfl rfl rfl (Nat.le_refl _) (fun _ _ _=>rfl) (fun _ h=>by cases h)
     (fun p' h x hx=>by cases h;rw[cw hx];exact⟨(hs.fresh p (List.mem_of_getElem? h1)).2,.inr ⟨p,h1,.inl rfl⟩⟩)
     (fun HT=>⟨e1,rfl,vs,g1,g2,Nat.le_trans (Nat.mul_le_mul_right _ hle) g3,fun i hi=>g4 i (by omega),fun i j hi h h'=>⟨HT _ _ (g5 i j (by omega) h h').1,(g5 i j (by omega) h h').2⟩⟩)
    refine aR ?_ (hn _ _ _ _ _ _ h (bH.bf o.dst (v:=.slice (some ⟨p.ao,0,none⟩) gG cap) (.own b cap (mkId p.ao p.k gG p.sz) ?_ ⟨by show gG<=cap;omega,h2.2⟩ h3)))
    ·rw[e,h4,Sem.run_bind,run_sliceAt_slice _ _ _ _ _ _ v8,run_slice_any _ _ _ _ _ v8,e2];have:=dH (P:=P) (w:=w) (a:=a) (LJ:=true) (len:=n) (cap:=cap) (lo:=none) b1 (fun _=>rfl) b3 (fun X h=>by cases h);simp only[Option.map_none] at this;have e3:(⟨p.ao,0,none⟩:Addr).add 0=⟨p.ao,0,none⟩:=rfl;simp[this,GJ,sizeOf,typeInfo,iT,bL,sliced,e3]
    ·rw[List.getElem?_set_self eR]
  ·exact h.elim
 ·rename_i ti l jn rT;obtain⟨L,rfl⟩:∃L,lo=some L:=by cases lo with|none=>simp[pf] at rT|some L=>exact⟨L,rfl⟩
  obtain⟨i0,d,z0,_,hd,_,_,_,_,_,_,_,_,_,jt,_⟩:=aJ.facts jn;split at h
  ·rename_i ty sz n row hk hh hb;have WO:hi=none:=by cases hi with|none=>rfl|some=>simp[pf] at hh
   subst WO;split at h
   ·rename_i XT;have XT:=Nat.eq_of_beq_eq_true XT;subst XT;obtain⟨ie,ze,gk,iT,bL,Br,hz,pC,hne⟩:=jt hk;subst gk
    have v8:P.underlying t=some (.slice (P.elem t)):=by
     have:P.elem t=ti.aN:=by simp[Program.elem,hd]
     rw[this];exact hd
    have GJ:P.elem t=ti.aN:=by simp[Program.elem,hd]
    obtain⟨aD,hm⟩:=jo hb;have eR:b<ids.length:=by rw[hs.aL];exact aD
    have hB:=hs.bC b aD eR;rw[hm] at hB;rw[<-rT] at h;rcases hs.fL hx (by rw[hb];simp) with⟨h1,h2⟩|⟨p,cap,h1,h2,h3,h4⟩
    ·have:ids[b]=.aQ:=by rw[List.getElem?_eq_getElem eR] at h1;exact Option.some.inj h1
     rw[this] at hB;have hB:n=0:=hB;subst hB;obtain⟨k,h,c1,c2,c3⟩:=fJ hs h (Nat.le_refl _);rw[aO] at h;have h0:k=0:=by have:=c2 rfl;omega
     subst h0;refine aR ?_ (hn _ _ _ _ _ _ h (hs.bf o.dst (v:=.slice none 0 0) (.qi b 0 h1)));rw[e,h2,Sem.run_bind,run_sliceAt_slice _ _ _ _ _ _ v8,run_slice_any _ _ _ _ _ v8];have:=dH (P:=P) (w:=w) (a:=a) (LJ:=true) (len:=0) (cap:=0) (hi:=none) (h:=0) (fun _=>rfl) c1 (fun X h=>by cases h) c3;simp only[Option.map_none,Option.map_some] at this;simp[this,GJ,sizeOf,typeInfo,iT,bL,sliced]
    ·have:ids[b]=.lv p:=by rw[List.getElem?_eq_getElem eR] at h1;exact Option.some.inj h1
     rw[this] at hB;obtain⟨k,h,c1,c2,c3⟩:=fJ hs h (Nat.le_refl _);rw[aO] at h;have e1:p.sz=ti.bB:=hB.1;have e2:p.n=n:=hB.2.1;refine aR ?_ (hn _ _ _ _ _ _ h (hs.bf o.dst (v:=.slice (some ⟨p.ao,if cap=k then 0 else k*p.sz,none⟩) (p.n-k) (cap-k)) (.nw b k _ _ p h1 (fun hk=>if_neg (by have:=h2.1;omega)))));rw[e,h4,Sem.run_bind,run_sliceAt_slice _ _ _ _ _ _ v8,run_slice_any _ _ _ _ _ v8,e2];have:=dH (P:=P) (w:=w) (a:=a) (LJ:=true) (len:=n) (cap:=cap) (hi:=none) (h:=n) (fun _=>rfl) c1 (fun X h=>by cases h) c3;simp only[Option.map_none,Option.map_some] at this;have e3:(⟨p.ao,0,none⟩:Addr).add (k*ti.bB)=⟨p.ao,k*ti.bB,none⟩:=by rw[sZ,Nat.zero_add]
     by_cases Zt:cap=k
     ·subst Zt;simp[this,GJ,sizeOf,typeInfo,iT,bL,sliced,e3,e1]
     ·simp[this,GJ,sizeOf,typeInfo,iT,bL,sliced,e3,e1,Zt]
   ·exact h.elim
  ·exact h.elim
 ·exact h.elim

theorem eJ(aJ:bp P tt)(hG:G.ok c)(hs:aF c s m a w ids){K:List A->A->List aq->Prop}(h:pg P G tt o s m K)
  (hn:∀s1 v m' a' w' ab,K s1 v m'->aF c (bf s1 o.dst v) m' a' w' ab->next a' w'):o.wp P a w next Q:=by
 unfold pg at h;split at h
 ·rename_i args ts ho;split at h
  ·rename_i x y t t' hx ht;split at h
   ·rename_i hb;have hb:=Nat.eq_of_beq_eq_true hb;subst hb;have e1:args = #[x,y]:=by apply Array.ext';simpa using hx
    have e2:ts = #[t',t']:=by apply Array.ext';simpa using ht
    rw[e1,e2] at ho;exact Da aJ hs ho h hn
   ·exact h.elim
  ·exact h.elim
 ·rename_i ho;exact AN aJ hs ho h (fun v m' a' w' ab=>hn s v m' a' w' ab)
 ·rename_i ho;exact uu aJ hs ho h (fun v m' a' w' ab=>hn s v m' a' w' ab)
 ·rename_i ho;split at h
  ·rename_i hX;exact xK aJ hs ho hX h hn
  ·exact n0 aJ hG hs h (fun v m' a' w' ab=>hn s v m' a' w' ab)
 ·exact n0 aJ hG hs h (fun v m' a' w' ab=>hn s v m' a' w' ab)
end
def Id.UO(p q:Id):Prop:=q.ao=p.ao/\q.k=p.k/\q.n=p.n/\q.sz=p.sz/\∀n k,p.uc n=some k->q.uc n=some k
def Id.UP(p q:Id):Prop:=q.ao=p.ao/\q.k=p.k/\q.n=p.n/\q.sz=p.sz
theorem Id.KL(p:Id):p.UO p:=⟨rfl,rfl,rfl,rfl,fun _ _ h=>h⟩
def iN:dT->dT->Prop
 | .dead,_=>True
 | .aQ,q=>q=.aQ
 | .av,q=>q=.av
 | .lv p,q=>∃p',q=.lv p'/\p.UO p'
 | .cE vs,q=>q=.cE vs
/-- As above, of names that no entry leans on. -/
def KM:dT->dT->Prop
 | .dead,_=>True
 | .aQ,q=>q=.aQ
 | .av,q=>q=.av
 | .lv p,q=>∃p',q=.lv p'/\p.UP p'
 | .cE vs,q=>q=.cE vs
theorem gU(p:dT):KM p p:=by
 cases p with
 | dead=>trivial
 | av=>trivial
 | aQ=>rfl
 | lv p=>exact⟨p,rfl,rfl,rfl,rfl,rfl⟩
 | cE vs=>rfl
theorem eU(p:dT):iN p p:=by
 cases p with
 | dead=>trivial
 | av=>trivial
 | aQ=>rfl
 | lv p=>exact⟨p,rfl,p.KL⟩
 | cE vs=>rfl

section
variable {c:Ctx} {s:List A} {m:List aq} {a:Act} {w w':World} {ids ab:dE} {P:Program} {im bo:Nat->Prop} {tt:TT} {G:aG}
variable {next:Act->World->Prop} {Q:Exit->Act->World->Prop} {o:Oper}

theorem Rel.mM(hi:∀b,im b->bo b)(hw:∀b,im b->w'.heap[b]?=w.heap[b]?)(hd:∀(b:Nat) p,ids[b]?=some p->p≠.dead->∃q,ab[b]?=some q/\iN p q)
  {x:A} {v:Value} (h:Rel ids im w x v):Rel ab bo w' x v:=by
 induction h with
 | aI h=>exact .aI (h.mono hi hw)
 | ref b off p h =>
  obtain⟨q,h1,p',rfl,h2⟩:=hd _ _ h (by simp);rw[<-h2.1];exact .ref b off p' h1
 | oref b i off p h =>
  obtain⟨q,h1,p',rfl,h2⟩:=hd _ _ h (by simp);rw[<-h2.1,<-h2.2.2.2.1];exact .oref b i off p' h1
 | kj b x n cap h =>
  obtain⟨q,h1,h2⟩:=hd _ _ h (by simp);have h2:q=.av:=h2;subst h2;exact .kj b x n cap h1
 | ki b off x y h =>
  obtain⟨q,h1,h2⟩:=hd _ _ h (by simp);have h2:q=.av:=h2;subst h2;exact .ki b off x y h1
 | gA b i off x y h =>
  obtain⟨q,h1,h2⟩:=hd _ _ h (by simp);have h2:q=.av:=h2;subst h2;exact .gA b i off x y h1
 | fS b x h =>
  obtain⟨q,h1,h2⟩:=hd _ _ h (by simp);have h2:q=.av:=h2;subst h2;exact .fS b x h1
 | fX b h =>
  obtain⟨q,h1,h2⟩:=hd _ _ h (by simp);have h2:q=.aQ:=h2;subst h2;exact .fX b h1
 | own b cap p h hn hm =>
  obtain⟨q,h1,p',rfl,h2⟩:=hd _ _ h (by simp);rw[<-h2.1,<-h2.2.2.1];exact .own b cap p' h1 (by rw[h2.2.2.1];exact hn) (by rw[h2.2.1,h2.2.2.2.1];exact hm)
 | omap b p h =>
  obtain⟨q,h1,p',rfl,h2⟩:=hd _ _ h (by simp);rw[<-h2.1];exact .omap b p' h1
 | qZ b k p n h hn =>
  obtain⟨q,h1,p',rfl,h2⟩:=hd _ _ h (by simp);exact .qZ b k p' n h1 (h2.2.2.2.2 _ _ hn)
 | qh b k n h =>
  obtain⟨q,h1,h2⟩:=hd _ _ h (by simp);have h2:q=.av:=h2;subst h2;exact .qh b k n h1
 | nw b k cap x p h hx =>
  obtain⟨q,h1,p',rfl,h2⟩:=hd _ _ h (by simp);rw[<-h2.1,<-h2.2.2.1];exact .nw b k cap x p' h1 (by rw[h2.2.2.1,h2.2.2.2.1];exact hx)
 | qi b k h =>
  obtain⟨q,h1,h2⟩:=hd _ _ h (by simp);have h2:q=.aQ:=h2;subst h2;exact .qi b k h1
 | nT b k x n cap h =>
  obtain⟨q,h1,h2⟩:=hd _ _ h (by simp);have h2:q=.av:=h2;subst h2;exact .nT b k x n cap h1
 | agg cs vs hl ho hr ih=>exact .agg cs vs hl ho ih
 | tup cs vs hl hr ih=>exact .tup cs vs hl ih
 | fn f cs vs hl hr ih=>exact .fn f cs vs hl ih

theorem mN{b:Nat}(hi:∀b,im b->bo b)(hw:∀b,im b->w'.heap[b]?=w.heap[b]?)(hd:∀(b':Nat) p,b'≠b->ids[b']?=some p->p≠.dead->∃q,ab[b']?=some q/\iN p q)
  (d:Nat) (x:A) (v:Value) (h:Rel ids im w x v):Rel ab bo w' (uZ b d x) v:=by
 have h1:Rel (ids.set b .dead) im w (uZ b d x) v:=jF (fun _ h=>h) (fun _ _=>rfl) (fun b' p hne h=>by rw[List.getElem?_set_ne (fun e=>hne e.symm)];exact h) d x v h;refine h1.mM hi hw ?_;intro b' p hp pH;by_cases hb:b'=b
 ·subst hb;rw[List.getElem?_set] at hp;split at hp
  ·split at hp
   ·cases hp;exact absurd rfl pH
   ·cases hp
  ·rename_i hne;exact absurd rfl hne
 ·rw[List.getElem?_set_ne (fun e=>hb e.symm)] at hp;exact hd b' p hb hp pH

theorem aX.mM(hi:∀b,im b->bo b)(hw:∀b,im b->w'.heap[b]?=w.heap[b]?)(hd:∀(b:Nat) p,ids[b]?=some p->p≠.dead->∃q,ab[b]?=some q/\iN p q)
  {x:aq} {p:dT} (hp:∀q,p=.lv q->∀k,q.has k->w'.heap[k]?=w.heap[k]?) (h:aX ids im w x p):aX ab bo w' x p:=by
 cases x with
 | box ty cs =>
  cases p with
  | dead=>exact h
  | av=>exact h
  | aQ=>exact h
  | cE vs=>exact h
  | lv q =>
   obtain⟨vs,h1,h2,h3,h4⟩:=h;exact⟨vs,by rw[hp _ rfl _ (.inl rfl)];exact h1,h2,h3,fun j h h'=>⟨(h4 j h h').1.mM hi hw hd,(h4 j h h').2⟩⟩
 | dead=>exact h
 | gone=>exact h
 | row ty sz n row=>have h:=aX.mono (ids:=ids) (ab:=ids) hi hw (fun _ _ h _=>h) hp h;cases p<;>exact h
 | nest ty aN sz n ho le row=>have h:=aX.mono (ids:=ids) (ab:=ids) hi hw (fun _ _ h _=>h) hp h;cases p<;>exact h
 | eP g n k v=>have h:=aX.mono (ids:=ids) (ab:=ids) hi hw (fun _ _ h _=>h) hp h;cases p<;>exact h
 | o7 g n k v=>have h:=aX.mono (ids:=ids) (ab:=ids) hi hw (fun _ _ h _=>h) hp h;cases p<;>exact h
 | GB g n k v se=>have h:=aX.mono (ids:=ids) (ab:=ids) hi hw (fun _ _ h _=>h) hp h;cases p<;>exact h
 | bF ty sz n Φ=>have h:=aX.mono (ids:=ids) (ab:=ids) hi hw (fun _ _ h _=>h) hp h;cases p<;>exact h
 | cM ty g sh n dB cs jA has val =>
  cases p with
  | dead=>exact h
  | av=>exact h
  | aQ=>exact h
  | cE vs=>exact h
  | lv q=>exact qj (hp _ rfl) (fun _ _ h=>h.mono hi hw) (fun _ _ h=>h.mM hi hw hd) h
 | ghost cs =>
  cases p with
  | dead=>exact h
  | av=>exact h
  | aQ=>exact h
  | lv q=>exact h
  | cE vs=>exact⟨h.1,fun j h1 h2=>(h.2 j h1 h2).mM hi hw hd⟩
theorem aX.Pn{b:Nat}(hi:∀b,im b->bo b)(hw:∀b,im b->w'.heap[b]?=w.heap[b]?)(hd:∀(b':Nat) p,b'≠b->ids[b']?=some p->p≠.dead->∃q,ab[b']?=some q/\iN p q)
  (d:Nat) {x:aq} {p:dT} (hp:∀q,p=.lv q->∀k,q.has k->w'.heap[k]?=w.heap[k]?) (h:aX ids im w x p):aX ab bo w' (AK b d x) p:=by
 cases x with
 | box ty cs =>
  cases p with
  | dead=>exact h
  | av=>exact h
  | aQ=>exact h
  | cE vs=>exact h
  | lv q =>
   obtain⟨vs,h1,h2,h3,h4⟩:=h;refine⟨vs,by rw[hp _ rfl _ (.inl rfl)];exact h1,h2,by simpa using h3,fun j h h'=>?_⟩;rw[List.getElem_map];exact⟨mN hi hw hd d _ _ (h4 j (by simpa using h) h').1,(h4 j (by simpa using h) h').2⟩
 | dead=>exact h
 | gone=>exact h
 | row ty sz n row=>have h:=aX.mono (ids:=ids) (ab:=ids) hi hw (fun _ _ h _=>h) hp h;cases p<;>exact h
 | nest ty aN sz n ho le row=>have h:=aX.mono (ids:=ids) (ab:=ids) hi hw (fun _ _ h _=>h) hp h;cases p<;>exact h
 | eP g n k v=>have h:=aX.mono (ids:=ids) (ab:=ids) hi hw (fun _ _ h _=>h) hp h;cases p<;>exact h
 | o7 g n k v=>have h:=aX.mono (ids:=ids) (ab:=ids) hi hw (fun _ _ h _=>h) hp h;cases p<;>exact h
 | GB g n k v se=>have h:=aX.mono (ids:=ids) (ab:=ids) hi hw (fun _ _ h _=>h) hp h;cases p<;>exact h
 | bF ty sz n Φ=>have h:=aX.mono (ids:=ids) (ab:=ids) hi hw (fun _ _ h _=>h) hp h;cases p<;>exact h
 | cM ty g sh n dB cs jA has val =>
  cases p with
  | dead=>exact h
  | av=>exact h
  | aQ=>exact h
  | cE vs=>exact h
  | lv q=>exact mG (uZ b d) (hp _ rfl) (fun _ _ h=>h.mono hi hw) (fun x v h=>mN hi hw hd d x v h) h
 | ghost cs =>
  cases p with
  | dead=>exact h
  | av=>exact h
  | aQ=>exact h
  | lv q=>exact h
  | cE vs =>
   refine⟨by simpa using h.1,fun j h1 h2=>?_⟩;rw[List.getElem_map];exact mN hi hw hd d _ _ (h.2 j (by simpa using h1) h2)

/-- What is read through values stays as it is. -/
theorem aF.cP(hs:aF c s m a w ids)(bL:w.heap.size<=w'.heap.size)
  (fI:∀k,k<w.heap.size->(∀(b:Nat) (p:Id),ids[b]?=some (.lv p)->¬p.has k)->w'.heap[k]?=w.heap[k]?)
  (aU:∀p',dT.lv p'∈ab->∀x,p'.has x->x<w'.heap.size/\(w.heap.size<=x\/∃(b:Nat) (p:Id),ids[b]?=some (.lv p)/\p.has x)) :
  (∀k,au c ids w k->au c ab w' k)/\(∀k,au c ids w k->w'.heap[k]?=w.heap[k]?):=by
 constructor
 ·intro k h;rcases h with h|⟨h1,h2,h3⟩
  ·exact .inl h
  ·refine .inr ⟨h1,Nat.lt_of_lt_of_le h2 bL,fun p hp hx=>?_⟩;rcases (aU p hp k hx).2 with h|⟨b,p0,h4,h5⟩
   ·omega
   ·exact h3 p0 (List.mem_of_getElem? h4) h5
 ·intro k h;refine fI k (cB hs h) (fun b p hp e=>?_);rcases h with h|⟨_,_,h3⟩
  ·exact hs.pJ h (hs.ar p (List.mem_of_getElem? hp) k e).1
  ·exact h3 p (List.mem_of_getElem? hp) e
/-- A state that follows on another one. -/
theorem aF.lU(hs:aF c s m a w ids){s':List A}{m':List aq}(Pj:w'.os=w.os)(UK:w'.tape=w.tape)(UL:w'.output=w.output)(bL:w.heap.size<=w'.heap.size)
  (fI:∀k,k<w.heap.size->(∀(b:Nat) (p:Id),ids[b]?=some (.lv p)->¬p.has k)->w'.heap[k]?=w.heap[k]?)
  (aU:∀p',dT.lv p'∈ab->∀x,p'.has x->x<w'.heap.size/\(w.heap.size<=x\/∃(b:Nat) (p:Id),ids[b]?=some (.lv p)/\p.has x))
  (XU:∀vs,dT.cE vs∈ab->dT.cE vs∈ids)
  (XV:∀(b b':Nat) p q x,ab[b]?=some (.lv p)->ab[b']?=some (.lv q)->p.has x->q.has x->b=b')
  (Bp:s'.length=s.length) (wM:ab.length=m'.length)
  (uz:∀i (h:i<s'.length) (h':i<a.tmps.size),Rel ab (au c ab w') w' s'[i] a.tmps[i])
  (UQ:∀b (h:b<m'.length) (h':b<ab.length),aX ab (au c ab w') w' m'[b] ab[b]) (yM:eM w.drawn w'.drawn:=by exact eM.refl _):aF c s' m' a w' ab where
 defers:=hs.defers
 len:=by rw[hs.len,Bp]
 bI:=uz
 aL:=wM
 bC:=UQ
 aj:=XV
 ar:=by
  intro p hp x hx;refine⟨?_,(aU p hp x hx).1⟩;rcases (aU p hp x hx).2 with h|⟨b,p0,h4,h5⟩
  ·exact .inl (Nat.le_trans hs.frame.size h)
  ·exact(hs.ar p0 (List.mem_of_getElem? h4) x h5).1
 frame:=by
  refine hs.frame.go Pj UK UL bL (fun k hk hm=>?_) yM;refine fI k (Nat.lt_of_lt_of_le hk hs.frame.size) (fun b p hp e=>?_);rcases (hs.ar p (List.mem_of_getElem? hp) k e).1 with h|h
  ·omega
  ·exact hm h
 dZ:=hs.dZ
 cE:=fun vs h=>hs.cE vs (XU vs h)
end
def gQ{α:Type}(f:Nat->α)(i:Nat)(x:α):Nat->α:=fun j=>if j=i then x else f j
/-- The inner row is taken out. -/
def Po(tt:TT)(t:TypeId)(b i:Nat)(ty aN:TypeId)(sz n:Nat)(hole:Option Nat)(len:Nat->Nat)(row:Nat->Nat->List A)(m:List aq)(K:KT):Prop :=
 match tt.lookup t with
 | none=>False
 | some ti=>match ti.kind,Nat.beq ti.aN aN,Nat.beq ti.bB sz,hole with
  | 3,true,true,none=>i<n/\qk m b (.nest ty aN sz n (some i) len row) fun m'=>lL m' (.row aN sz (len i) (row i)) fun k NW=>K (.own k) NW
  | _,_,_,_=>False
/-- It is put back. -/
def Pp(b i b':Nat)(ty aN:TypeId)(sz n:Nat)(hole:Option Nat)(len:Nat->Nat)(row:Nat->Nat->List A)(s:List A)(m:List aq)(K:List A->A->List aq->Prop):Prop :=
 match hole,m.getD b' .dead,Nat.beq b b' with
 | some j,.row vm sf n' dI,false=>match Nat.beq vm aN,Nat.beq sf sz with
  | true,true=>(i=j/\i<n)/\fd.qp 4 (s.map (uZ b' 4)) fun s'=>qt (((m.map (AK b' 4)).set b (.nest ty aN sz n none (gQ len j n') (gQ row j dI))).set b' .dead) fun m'=>K s' .af m'
  | _,_=>False
 | _,_,_=>False
def lO(P:Program)(G:aG)(tt:TT)(o:Oper)(s:List A)(m:List aq)(K:List A->A->List aq->Prop):Prop :=
 match o.op with
 | .indexAddr t x i=>match ev s x with
  | .own b=>match m.getD b .dead with
   | .nest _ _ _ n _ _ _=>match tt.lookup t,ev s i with
    | some ti,.int _ ix=>match ti.kind,Nat.beq ti.bB 1 with
     | 3,true=>(0<=ix/\ix<(n:Int))/\K s (.oref b ix.toNat 0) m
     | _,_=>False
    | _,_=>False
   | _=>pg P G tt o s m K
  | _=>pg P G tt o s m K
 | .load t x=>match ev s x with
  | .oref b i off=>match m.getD b .dead with
   | .nest ty aN sz n hole len row=>match off with
    | 0=>Po tt t b i ty aN sz n hole len row m (K s)
    | _=>False
   | _=>pg P G tt o s m K
  | _=>pg P G tt o s m K
 | .store t x y=>match ev s x with
  | .oref b i off=>match m.getD b .dead with
   | .nest ty aN sz n hole len row=>match off,ev s y,tt.lookup t with
    | 0,.own b',some ti=>match Nat.beq ti.size 1 with
     | true=>Pp b i b' ty aN sz n hole len row s m K
     | false=>False
    | _,_,_=>False
   | _=>pg P G tt o s m K
  | _=>pg P G tt o s m K
 | _=>pg P G tt o s m K

section
variable {c:Ctx} {s:List A} {m:List aq} {a:Act} {w w':World} {ids ab:dE} {P:Program} {im bo:Nat->Prop} {tt:TT} {G:aG}
variable {next:Act->World->Prop} {Q:Exit->Act->World->Prop} {o:Oper}

theorem getD_some{b:Nat}{x:aq}(hx:x≠.dead)(h:m.getD b .dead=x):∃hb:b<m.length,m[b]=x:=by
 rcases Nat.lt_or_ge b m.length with h'|h'
 ·exact⟨h',by rw[List.getD_eq_getElem?_getD,List.getElem?_eq_getElem h'] at h;exact h⟩
 ·rw[List.getD_eq_getElem?_getD,List.getElem?_eq_none h'] at h;exact absurd h.symm hx
theorem ph(hs:aF c s m a w ids){b:Nat}{ty aN:TypeId}{sz n:Nat}{hole:Option Nat}{len:Nat->Nat}{row:Nat->Nat->List A}(hb:m.getD b .dead=.nest ty aN sz n hole len row)(h0:0<n):
  ∃p,ids[b]?=some (.lv p)/\aX ids (au c ids w) w (.nest ty aN sz n hole len row) (.lv p)/\b<m.length/\b<ids.length:=by
 obtain⟨h1,h2⟩:=getD_some (by simp) hb;have h3:b<ids.length:=by rw[hs.aL];exact h1
 have hB:=hs.bC b h1 h3;rw[h2] at hB;cases hp:ids[b] with
 | dead=>rw[hp] at hB;exact hB.elim
 | av=>rw[hp] at hB;exact hB.elim
 | aQ=>rw[hp] at hB;have hB:n=0:=hB;omega
 | cE vs=>rw[hp] at hB;exact hB.elim
 | lv p=>rw[hp] at hB;exact⟨p,by rw[List.getElem?_eq_getElem h3,hp],hB,h1,h3⟩

/-- A nest from which an inner row is taken. -/
theorem aF.take(hs:aF c s m a w ids){b i:Nat}{ty aN:TypeId}{sz n:Nat}{len:Nat->Nat}{row:Nat->Nat->List A}(hb:m.getD b .dead=.nest ty aN sz n none len row)(hi:i<n):
  ∃p vs ab v,ids[b]?=some (.lv p)/\w.heap[p.ao]?=some (.cells vs ty (0,0))/\vs[i]?=some v/\p.sz=1 /\
   aF c s (m.set b (.nest ty aN sz n (some i) len row)++[.row aN sz (len i) (row i)]) a w ab/\Rel ab (au c ab w) w (.own m.length) v:=by
 obtain⟨p,bZ,hB,ly,eR⟩:=ph hs hb (by omega);obtain⟨g1,g2,g3,vs,h1,h2,h3,kb,h4⟩:=hB;have xL:i<vs.size:=by omega
 obtain⟨k1,k2,k3⟩:=h4 i hi (by simp) xL
 -- the new names
 let p':Id:=⟨p.ao,p.k,p.n,p.sz,fun x=>p.Ay x/\kb i≠some x,p.uc⟩
 have mO:∀x,p'.has x->p.has x:=by
  rintro x (h|h)
  ·exact .inl h
  ·exact .inr h.1
 have hq:∃q:dT,(∀q',q=.lv q'->∀x,q'.has x->kb i=some x)/\(∀im w',(∀x,kb i=some x->w'.heap[x]?=w.heap[x]?)->(∀u v,aw (au c ids w) w u v->aw im w' u v)->∀ab,aX ab im w' (.row aN sz (len i) (row i)) q) /\
   (∀ab im w' k,ab[k]?=some q->Rel ab im w' (.own k) vs[i]):=by
  rcases k1 with⟨e1,e2,e3⟩|⟨q,cap,us,e1,e2,e3,e4,e5,e6,e7,e8⟩
  ·exact⟨.aQ,(fun q' h=>by cases h),(fun _ _ _ _ _=>e2),(fun ab im w' k h=>by rw[e1];exact .fX k h)⟩
  ·refine⟨.lv (mkId q us.size (len i) sz),(fun q' h x hx=>by cases h;rw[cw hx];exact e2),?_,?_⟩
   ·intro im w' hk hm ab;refine⟨rfl,rfl,us,by show w'.heap[q]?=_;rw[hk q e2];exact e3,rfl,?_,e7,fun i' j bV h h'=>⟨hm _ _ (e8 i' j bV h h').1,(e8 i' j bV h h').2⟩⟩;show len i*sz<=us.size;rw[e4];exact Nat.mul_le_mul_right _ e5
   ·intro ab im w' k h;rw[e1];exact .own k cap (mkId q us.size (len i) sz) h ⟨e5,e6⟩ e4.symm
 obtain⟨q,Bv,D4,XW⟩:=hq
 let ab:=ids.set b (.lv p')++[q]
 have NN:ab.length=ids.length+1:=by simp[ab]
 have bG:∀k,k<ids.length->k≠b->ab[k]?=ids[k]?:=by
  intro k hk hne;simp only[ab];rw[List.getElem?_append_left (by simpa using hk),List.getElem?_set_ne (fun e=>hne e.symm)]
 have dS:ab[b]?=some (.lv p'):=by
  simp only[ab];rw[List.getElem?_append_left (by simpa using eR),List.getElem?_set_self eR]
 have jG:ab[ids.length]?=some q:=by
  simp only[ab];rw[List.getElem?_append_right (by simp)];simp
 have bg:∀(k:Nat) (r:Id),ab[k]?=some (.lv r)->(k=b/\r=p')\/(k=ids.length/\q=.lv r)\/(k≠b/\k<ids.length/\ids[k]?=some (.lv r)):=by
  intro k r h;by_cases qv:k=b
  ·subst qv;rw[dS] at h;cases h;exact .inl ⟨rfl,rfl⟩
  ·rcases Nat.lt_trichotomy k ids.length with hk|hk|hk
   ·rw[bG k hk qv] at h;exact .inr (.inr ⟨qv,hk,h⟩)
   ·subst hk;rw[jG] at h;exact .inr (.inl ⟨rfl,Option.some.inj h⟩)
   ·rw[List.getElem?_eq_none (by omega)] at h;cases h
 have aU:∀r,dT.lv r∈ab->∀x,r.has x->x<w.heap.size/\(w.heap.size<=x\/∃(b:Nat) (p:Id),ids[b]?=some (.lv p)/\p.has x):=by
  intro r hr x hx;obtain⟨k,hk⟩:=List.getElem?_of_mem hr;rcases bg k r hk with⟨_,rfl⟩|⟨_,e⟩|⟨_,_,e⟩
  ·exact⟨(hs.ar p (List.mem_of_getElem? bZ) x (mO x hx)).2,.inr ⟨b,p,bZ,mO x hx⟩⟩
  ·have EL:p.has x:=.inr (k2 x (Bv r e x hx));exact⟨(hs.ar p (List.mem_of_getElem? bZ) x EL).2,.inr ⟨b,p,bZ,EL⟩⟩
  ·exact⟨(hs.ar r (List.mem_of_getElem? e) x hx).2,.inr ⟨k,r,e,hx⟩⟩
 obtain⟨dJ,dB⟩:=hs.cP (w':=w) (ab:=ab) (Nat.le_refl _) (fun _ _ _=>rfl) aU
 have hd:∀(b':Nat) r,ids[b']?=some r->r≠.dead->∃q,ab[b']?=some q/\iN r q:=by
  intro b' r hr _
  have aD:b'<ids.length:=by
   rcases Nat.lt_or_ge b' ids.length with h'|h'
   ·exact h'
   ·rw[List.getElem?_eq_none h'] at hr;cases hr
  by_cases sN:b'=b
  ·subst sN;rw[bZ] at hr;cases hr;exact⟨_,dS,p',rfl,rfl,rfl,rfl,rfl,fun _ _ h=>h⟩
  ·exact⟨r,by rw[bG b' aD sN];exact hr,eU r⟩
 have lN:∀u v,aw (au c ids w) w u v->aw (au c ab w) w u v:=fun u v h=>h.mono dJ dB;refine⟨p,vs,ab,vs[i],bZ,h1,Array.getElem?_eq_getElem xL,g1,?_,XW _ _ _ _ (by rw[<-hs.aL];exact jG)⟩
 have XX:∀vs,q≠.cE vs:=fun vs e=>by
  have:=D4 (au c ids w) w (fun _ _=>rfl) (fun _ _ h=>h) [];rw[e] at this;exact this
 refine hs.lU rfl rfl rfl (Nat.le_refl _) (fun _ _ _=>rfl) aU (fun vs h=>by
  simp only[ab] at h;rcases List.mem_append.1 h with h|h
  ·rcases List.mem_or_eq_of_mem_set h with h|h
   ·exact h
   ·cases h
  ·simp at h;exact absurd h.symm (XX vs)) ?_ rfl (by simp[ab,hs.aL]) (fun i h h'=>(hs.bI i h h').mM dJ dB hd) ?_
 ·intro k k' r r' x e1 e2 x1 x2;have inb:∀y,q=.lv r->r.has y->p.Ay y:=fun y e hy=>k2 y (Bv r e y hy);rcases bg k r e1 with⟨rfl,rfl⟩|⟨rfl,e⟩|⟨ne,_,e⟩<;>rcases bg k' r' e2 with⟨rfl,rfl⟩|⟨rfl,e'⟩|⟨ne',_,e'⟩
  ·rfl
  ·exfalso;have hx:=Bv r' e' x x2;rcases x1 with h|h
   ·exact g3 (by rw[<-h];exact k2 x hx)
   ·exact h.2 hx
  ·exact absurd (hs.aj _ _ p r' x bZ e' (mO x x1) x2).symm ne'
  ·exfalso;have hx:=Bv r e x x1;rcases x2 with h|h
   ·exact g3 (by rw[<-h];exact k2 x hx)
   ·exact h.2 hx
  ·rfl
  ·exact absurd (hs.aj _ _ p r' x bZ e' (.inr (k2 x (Bv r e x x1))) x2).symm ne'
  ·exact absurd (hs.aj _ _ r p x e bZ x1 (mO x x2)) ne
  ·exact absurd (hs.aj _ _ r p x e bZ x1 (.inr (k2 x (Bv r' e' x x2)))) ne
  ·exact hs.aj k k' r r' x e e' x1 x2
 ·intro k hk gv;simp only[List.length_append,List.length_set,List.length_singleton] at hk;have gJ:ab[k]?=some ab[k]:=List.getElem?_eq_getElem gv;rcases Nat.lt_or_ge k m.length with pF|pF
  ·rw[List.getElem_append_left (by simpa using pF),List.getElem_set];split
   ·rename_i he;subst he;rw[dS] at gJ;rw[<-Option.some.inj gJ];refine⟨g1,g2,(fun h=>g3 h.1),vs,h1,h2,h3,kb,?_⟩;intro j hj KN NX;obtain⟨j1,j2,j3⟩:=h4 j hj (by simp) NX;have Bz:j≠i:=fun e=>KN (by rw[e]);refine⟨j1.mono dJ dB (fun _ _=>rfl),fun x hx=>⟨j2 x hx,fun e=>?_⟩,fun j' cj _ e1 e2=>j3 j' cj (by simp) e1 e2⟩;exact Bz (k3 j hj (by simp) (by rw[hx,e]) (by rw[e];simp))
   ·rename_i he;have pj:k<ids.length:=by rw[hs.aL];exact pF
    rw[bG k pj (fun e=>he e.symm),List.getElem?_eq_getElem pj] at gJ;rw[<-Option.some.inj gJ];exact(hs.bC k pF pj).mM dJ dB hd (fun _ _ _ _=>rfl)
  ·have LL:ab[k]?=some q:=by rw[show k=ids.length by rw[hs.aL];omega];exact jG
   rw[LL] at gJ;rw[<-Option.some.inj gJ,List.getElem_append_right (by simpa using pF)];simp only[List.length_set,show k-m.length=0 by omega,List.getElem_cons_zero];exact D4 _ _ (fun _ _=>rfl) lN _

/-- An inner row is put back. -/
theorem aF.NY(hs:aF c s m a w ids){b b' i:Nat}{ty aN:TypeId}{sz n n':Nat}{len:Nat->Nat}{row:Nat->Nat->List A}{dI:Nat->List A}(hb:m.getD b .dead=.nest ty aN sz n (some i) len row)
  (gG:m.getD b' .dead=.row aN sz n' dI) (hne:b≠b') (hi:i<n) {v:Value} (hv:Rel ids (au c ids w) w (.own b') v) :
  ∃p vs ab,ids[b]?=some (.lv p)/\w.heap[p.ao]?=some (.cells vs ty (0,0))/\i<vs.size/\p.sz=1 /\
   aF c (s.map (uZ b' 4)) (((m.map (AK b' 4)).set b (.nest ty aN sz n none (gQ len i n') (gQ row i dI))).set b' .dead) a (w.setRow p.ao (vs.setIfInBounds i v)) ab:=by
 obtain⟨p,bZ,hB,ly,eR⟩:=ph hs hb (by omega);obtain⟨g1,g2,g3,vs,h1,h2,h3,kb,h4⟩:=hB;have xL:i<vs.size:=by omega
 obtain⟨AO,KO⟩:=getD_some (by simp) gG;have oa:b'<ids.length:=by rw[hs.aL];exact AO
 let w':=w.setRow p.ao (vs.setIfInBounds i v)
 have bL:w'.heap.size=w.heap.size:=by simp[w',World.setRow]
 -- the inner E7 name
 have hx:∃x:Option Nat,(∀y,x=some y->∃q,ids[b']?=some (.lv q)/\q.ao=y) /\
   (∀im w',(∀y,x=some y->w'.heap[y]?=w.heap[y]?)->(∀u v,aw (au c ids w) w u v->aw im w' u v)->nI im w' aN sz n' dI v x):=by
  rcases nh hs hv gG with⟨e1,e2,e3⟩|⟨q,cap,e1,e2,e3,e4,e5,e6⟩
  ·exact⟨none,(fun y h=>by cases h),fun _ _ _ _=>.inl ⟨e2,e1,rfl⟩⟩
  ·have Hp:=hs.bC b' AO oa;rw[List.getElem?_eq_getElem oa] at e1;rw[KO,Option.some.inj e1] at Hp;obtain⟨q1,q2,us,q3,q4,q5,q6,q7⟩:=Hp;refine⟨some q.ao,(fun y h=>by cases h;exact⟨q,by rw[List.getElem?_eq_getElem oa];exact e1,rfl⟩),fun im w' hk hm=>.inr ⟨q.ao,cap,us,e6,rfl,by rw[hk _ rfl];exact q3,by rw[q4,e3],e2.1,e2.2,q6,fun i' j bV h h'=>⟨hm _ _ (q7 i' j bV h h').1,(q7 i' j bV h h').2⟩⟩⟩
 obtain⟨x,wa,UR⟩:=hx
 let p':Id:=⟨p.ao,p.k,p.n,p.sz,fun y=>p.Ay y\/x=some y,p.uc⟩
 have mO:∀y,p'.has y->p.has y\/x=some y:=by
  rintro y (h|h|h)
  ·exact .inl (.inl h)
  ·exact .inl (.inr h)
  ·exact .inr h
 let ab:=(ids.set b (.lv p')).set b' .dead
 have NN:ab.length=ids.length:=by simp[ab]
 have bG:∀k,k≠b->k≠b'->ab[k]?=ids[k]?:=by
  intro k h1 h2;simp only[ab];rw[List.getElem?_set_ne (fun e=>h2 e.symm),List.getElem?_set_ne (fun e=>h1 e.symm)]
 have dS:ab[b]?=some (.lv p'):=by
  simp only[ab];rw[List.getElem?_set_ne (fun e=>hne e.symm),List.getElem?_set_self eR]
 have iK:ab[b']?=some .dead:=by
  simp only[ab];rw[List.getElem?_set_self (by simpa using oa)]
 have bg:∀(k:Nat) (r:Id),ab[k]?=some (.lv r)->(k=b/\r=p')\/(k≠b/\k≠b'/\ids[k]?=some (.lv r)):=by
  intro k r h;by_cases qv:k=b
  ·subst qv;rw[dS] at h;cases h;exact .inl ⟨rfl,rfl⟩
  ·by_cases uA:k=b'
   ·subst uA;rw[iK] at h;cases h
   ·rw[bG k qv uA] at h;exact .inr ⟨qv,uA,h⟩
 have aU:∀r,dT.lv r∈ab->∀y,r.has y->y<w'.heap.size/\(w.heap.size<=y\/∃(b:Nat) (p:Id),ids[b]?=some (.lv p)/\p.has y):=by
  intro r hr y hy;rw[bL];obtain⟨k,hk⟩:=List.getElem?_of_mem hr;rcases bg k r hk with⟨_,rfl⟩|⟨_,_,e⟩
  ·rcases mO y hy with h|h
   ·exact⟨(hs.ar p (List.mem_of_getElem? bZ) y h).2,.inr ⟨b,p,bZ,h⟩⟩
   ·obtain⟨q,q1,q2⟩:=wa y h;have:q.has y:=.inl q2.symm;exact⟨(hs.ar q (List.mem_of_getElem? q1) y this).2,.inr ⟨b',q,q1,this⟩⟩
  ·exact⟨(hs.ar r (List.mem_of_getElem? e) y hy).2,.inr ⟨k,r,e,hy⟩⟩
 have fI:∀k,k<w.heap.size->(∀(b:Nat) (p:Id),ids[b]?=some (.lv p)->¬p.has k)->w'.heap[k]?=w.heap[k]?:=by
  intro k _ hk;exact setRow_other w p.ao k _ (fun e=>hk b p bZ (.inl e))
 obtain⟨dJ,dB⟩:=hs.cP (w':=w') (ab:=ab) (by rw[bL];exact Nat.le_refl _) fI aU
 have hd:∀(k:Nat) r,k≠b'->ids[k]?=some r->r≠.dead->∃q,ab[k]?=some q/\iN r q:=by
  intro k r hk hr _;by_cases sN:k=b
  ·subst sN;rw[bZ] at hr;cases hr;exact⟨_,dS,p',rfl,rfl,rfl,rfl,rfl,fun _ _ h=>h⟩
  ·exact⟨r,by rw[bG k sN hk];exact hr,eU r⟩
 have lN:∀u v,aw (au c ids w) w u v->aw (au c ab w') w' u v:=fun u v h=>h.mono dJ dB
 have US:∀(k:Nat) (r:Id) y,ids[k]?=some (.lv r)->k≠b->r.has y->w'.heap[y]?=w.heap[y]?:=by
  intro k r y hr hk hy;refine setRow_other w p.ao y _ (fun e=>hk ?_);exact hs.aj k b r p y hr bZ hy (.inl e)
 refine⟨p,vs,ab,bZ,h1,xL,g1,?_⟩
 refine hs.lU rfl rfl rfl (by show w.heap.size<=w'.heap.size;rw[bL];exact Nat.le_refl _) fI aU (fun vs h=>by
  simp only[ab] at h;rcases List.mem_or_eq_of_mem_set h with h|h
  ·rcases List.mem_or_eq_of_mem_set h with h|h
   ·exact h
   ·cases h
  ·cases h) ?_ (by simp) (by simp[ab,hs.aL]) ?_ ?_
 ·intro k k' r r' y e1 e2 x1 x2;rcases bg k r e1 with⟨rfl,rfl⟩|⟨ne,KP,e⟩<;>rcases bg k' r' e2 with⟨rfl,rfl⟩|⟨ne',KQ,e'⟩
  ·rfl
  ·rcases mO y x1 with h|h
   ·exact absurd (hs.aj _ _ p r' y bZ e' h x2).symm ne'
   ·obtain⟨q,q1,q2⟩:=wa y h;exact absurd (hs.aj _ _ q r' y q1 e' (.inl q2.symm) x2).symm KQ
  ·rcases mO y x2 with h|h
   ·exact absurd (hs.aj _ _ r p y e bZ x1 h) ne
   ·obtain⟨q,q1,q2⟩:=wa y h;exact absurd (hs.aj _ _ r q y e q1 x1 (.inl q2.symm)) KP
  ·exact hs.aj k k' r r' y e e' x1 x2
 ·intro k h h';rw[List.getElem_map];exact mN dJ dB hd 4 _ _ (hs.bI k (by simpa using h) h')
 ·intro k hk gv;have gJ:ab[k]?=some ab[k]:=List.getElem?_eq_getElem gv;simp only[List.length_set,List.length_map] at hk;rw[List.getElem_set];split
  ·rename_i he;subst he;rw[iK] at gJ;rw[<-Option.some.inj gJ];exact rfl
  ·rename_i he;rw[List.getElem_set];split
   ·rename_i gL;subst gL;rw[dS] at gJ;rw[<-Option.some.inj gJ]
    have Jl:∀j (h:j<(vs.setIfInBounds i v).size) (h':j<vs.size),(vs.setIfInBounds i v)[j]=if i=j then v else vs[j]:=by
     intro j h h';rw[Array.getElem_setIfInBounds]
    have RL:∀y,x=some y->w'.heap[y]?=w.heap[y]?:=by
     intro y hy;obtain⟨q,q1,q2⟩:=wa y hy;exact US b' q y q1 (fun e=>hne e.symm) (.inl q2.symm)
    have XY:∀y,p.Ay y->w'.heap[y]?=w.heap[y]?:=by
     intro y hy;exact setRow_other w p.ao y _ (fun e=>g3 (by rw[<-e];exact hy))
    refine⟨g1,g2,?_,vs.setIfInBounds i v,setRow_heap w p.ao vs _ ty _ h1,by simp[h2];rfl,h3,gQ kb i x,?_⟩
    ·rintro(h|h)
     ·exact g3 h
     ·obtain⟨q,q1,q2⟩:=wa _ h;exact hne (hs.aj b b' p q p.ao bZ q1 (.inl rfl) (.inl q2.symm))
    ·intro j hj _ NX;have KR:j<vs.size:=by simpa using NX
     rw[Jl j NX KR];by_cases Bz:j=i
     ·subst Bz;rw[if_pos rfl];simp only[gQ,if_pos];refine⟨UR _ _ RL lN,(fun y hy=>.inr hy),?_⟩;intro j' cj _ e1 e2;by_cases oN:j'=j
      ·exact oN
      ·exfalso;rw[if_neg oN] at e1;cases vU:x with
       | none=>exact e2 vU
       | some y =>
        have RM:j'<vs.size:=by omega
        obtain⟨_,k2,_⟩:=h4 j' cj (by simp;exact fun e=>oN e.symm) RM;obtain⟨q,q1,q2⟩:=wa y vU;exact hne (hs.aj b b' p q y bZ q1 (.inr (k2 y (by rw[e1,vU]))) (.inl q2.symm))
     ·rw[if_neg (fun e=>Bz e.symm)];simp only[gQ,if_neg Bz];obtain⟨k1,k2,k3⟩:=h4 j hj (by simp;exact fun e=>Bz e.symm) KR;refine⟨k1.mono dJ dB (fun y hy=>XY y (k2 y hy)),(fun y hy=>.inl (k2 y hy)),?_⟩;intro j' cj _ e1 e2;by_cases oN:j'=i
      ·exfalso;subst oN;rw[if_pos rfl] at e1;cases vU:x with
       | none=>rw[vU] at e1;exact e2 e1.symm
       | some y =>
        obtain⟨q,q1,q2⟩:=wa y vU;exact hne (hs.aj b b' p q y bZ q1 (.inr (k2 y (by rw[<-e1,vU]))) (.inl q2.symm))
      ·rw[if_neg oN] at e1;exact k3 j' cj (by simp;exact fun e=>oN e.symm) e1 e2
   ·rename_i gL;have pF:k<m.length:=hk;have pj:k<ids.length:=by rw[hs.aL];exact pF
    rw[bG k (fun e=>gL e.symm) (fun e=>he e.symm),List.getElem?_eq_getElem pj] at gJ;rw[<-Option.some.inj gJ,List.getElem_map];refine(hs.bC k pF pj).Pn dJ dB hd 4 ?_;intro q hq y hy;exact US k q y (by rw[List.getElem?_eq_getElem pj,hq]) (fun e=>gL e.symm) hy
end
section
variable {c:Ctx} {s:List A} {m:List aq} {a:Act} {w w':World} {ids ab:dE} {P:Program} {im bo:Nat->Prop} {tt:TT} {G:aG}
variable {next:Act->World->Prop} {Q:Exit->Act->World->Prop} {o:Oper}

theorem AP(vs:Array Value)(i:Nat)(v:Value)(h:i<vs.size):(vs.toList.take i++[v]++vs.toList.drop (i+[v].length)).toArray=vs.setIfInBounds i v:=by
 apply Array.ext';simp only[List.length_singleton,Array.toList_setIfInBounds];rw[List.set_eq_take_append_cons_drop,if_pos (by simpa using h)];simp

theorem cN(aJ:bp P tt)(hG:G.ok c)(hs:aF c s m a w ids){K:List A->A->List aq->Prop}(h:lO P G tt o s m K)
  (hn:∀s1 v m' a' w' ab,K s1 v m'->aF c (bf s1 o.dst v) m' a' w' ab->next a' w'):o.wp P a w next Q:=by
 unfold lO at h;split at h
 ·rename_i t X Y ho;split at h
  ·rename_i b hX;split at h
   ·rename_i ty aN sz n hole len row hb;split at h
    ·rename_i ti kk ix jn hY;split at h
     ·rename_i hk he;obtain⟨VW,h⟩:=h;obtain⟨i,d,z,hi,hd,_,_,_,_,_,_,_,_,ot,jt,_⟩:=aJ.facts jn;obtain⟨ie,ze,CZ,iT,nZ,_⟩:=jt hk;subst CZ;have hx:=hs.ev X;have hy:=hs.ev Y;rw[hX] at hx;rw[hY] at hy;obtain⟨p,bZ,hB,_,_⟩:=ph hs hb (by omega);obtain⟨g1,g2,g3,vs,h1,h2,h3,kb,h4⟩:=hB;have e:execOp a.eval o=(do let z <-Instr.indexAt t (a.eval X) (a.eval Y);pure (.value z)):=by unfold execOp;rw[ho]
      have UT:ti.bB=1:=Nat.eq_of_beq_eq_true he;rcases hs.fL hx (by rw[hb];simp) with⟨q1,_⟩|⟨p',cap,q1,q2,q3,q4⟩
      ·rw[bZ] at q1;cases q1
      ·rw[bZ] at q1;cases q1;refine aR (v:=.pointer (some ⟨p.ao,0+ix.toNat*1,none⟩)) (w':=w) ?_ (hn s _ m _ _ ids h (hs.bf o.dst ?_))
       ·rw[e,q4,hy.bY,g2];simp[Instr.indexAt,asIntOf,underlying,hd,VW.1,VW.2,sizeOf,typeInfo,iT,nZ,UT,uk]
       ·have:=Rel.oref (ids:=ids) (im:=au c ids w) (w:=w) b ix.toNat 0 p bZ;rw[g1] at this;simpa using this
     ·exact h.elim
    ·exact h.elim
   ·exact eJ aJ hG hs h hn
  ·exact eJ aJ hG hs h hn
 ·rename_i t X ho;split at h
  ·rename_i b i off hX;split at h
   ·rename_i ty aN sz n hole len row hb;split at h
    ·unfold Po at h;split at h
     ·exact h.elim
     ·rename_i ti jn;split at h
      ·rename_i hk yI gL;obtain⟨qu,h⟩:=h;rw[eQ,fG] at h;obtain⟨i0,d,z,hi,hd,_,_,_,_,_,Hn,_,_,ot,jt,_⟩:=aJ.facts jn;obtain⟨ie,ze,CZ,iT,nZ,_⟩:=jt hk;subst CZ;obtain⟨p,vs,ab,v,q1,q2,q3,q4,q5,q6⟩:=hs.take hb qu;have hx:=hs.ev X;rw[hX] at hx;obtain⟨p',r1,r2⟩:=hs.ll hx (by rw[hb];simp);rw[q1] at r1;cases r1
       have hc:w.cell? ⟨p.ao,i*p.sz+0,none⟩=some v:=by
        rw[q4,cell_of_row w p.ao _ vs ty (0,0) q2];simpa using q3
       have bW:=iJ (P:=P) (w:=w) hd (by rfl) p.ao (i*p.sz+0) v hc;refine aR (v:=v) (w':=w) ?_ (hn s _ _ _ _ ab h (q5.bf o.dst ?_))
       ·have e1:execOp a.eval o=(do let z <-loadVar t ⟨p.ao,i*p.sz+0,none⟩;pure (.value z)):=by
         unfold execOp;rw[ho];simp only[r2];rfl
        rw[e1];simp at bW;simp[bW]
       ·simpa using q6
      ·exact h.elim
    ·exact h.elim
   ·exact eJ aJ hG hs h hn
  ·exact eJ aJ hG hs h hn
 ·rename_i t X Y ho;split at h
  ·rename_i b i off hX;split at h
   ·rename_i ty aN sz n hole len row hb;split at h
    ·rename_i b' ti hY jn;split at h
     ·rename_i sg;have sg:ti.size=1:=Nat.eq_of_beq_eq_true sg;unfold Pp at h;split at h
      ·rename_i j vm sf n' dI gG sN;split at h
       ·rename_i yI gL;have yI:=Nat.eq_of_beq_eq_true yI;have gL:=Nat.eq_of_beq_eq_true gL;subst yI;subst gL;obtain⟨⟨kK,qu⟩,h⟩:=h;subst kK;rw[cK,dQ] at h;have hne:b≠b':=fun e=>by subst e;rw[Nat.beq_refl] at sN;cases sN
        have hx:=hs.ev X;have hy:=hs.ev Y;rw[hX] at hx;rw[hY] at hy;obtain⟨i0,d,z,hi,hd,_,RN,_⟩:=aJ.facts jn;obtain⟨p,vs,ab,q1,q2,q3,q4,q5⟩:=hs.NY hb gG hne qu hy;obtain⟨p',r1,r2⟩:=hs.ll hx (by rw[hb];simp);rw[q1] at r1;cases r1;obtain⟨o1,o2⟩:=pe (by rfl) hy;have pQ:=gl (P:=P) (w:=w) hi p.ao (i*p.sz+0) ty vs (a.eval Y) [a.eval Y] o2 (by rw[RN,sg];rfl) (by intro u hu;rw[List.mem_singleton.1 hu];exact o1) q2 (by rw[q4];simp;omega);rw[q4] at pQ;simp only[Nat.mul_one,Nat.add_zero] at pQ;rw[AP vs i _ q3] at pQ;refine gS (w':=w.setRow p.ao (vs.setIfInBounds i (a.eval Y))) ?_ (hn _ _ _ _ _ ab h (q5.kv o.dst _))
        have e1:execOp a.eval o=(do storeVar t ⟨p.ao,i*p.sz+0,none⟩ (a.eval Y);pure .skip):=by
         unfold execOp;rw[ho];simp only[r2];rfl
        rw[e1,q4];simp[pQ]
       ·exact h.elim
      ·exact h.elim
     ·exact h.elim
    ·exact h.elim
   ·exact eJ aJ hG hs h hn
  ·exact eJ aJ hG hs h hn
 ·exact eJ aJ hG hs h hn
end
end Go.Proofs.YtijddijloelacaaGreat.Am

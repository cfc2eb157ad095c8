/-
  THE ENGINE, part 2: an abstract machine of symbolic values, each step proved sound.
-/
import Derived.Test.YtijddijloelacaaGreatNetPiecesm1
import Derived.MapKept
import Derived.WideKeyRuns
import Derived.Carry
import Derived.Maps.RangeRun
import Derived.Laws.BytesArg
set_option linter.unusedSimpArgs false
set_option linter.unusedSectionVars false
set_option linter.unusedVariables false
set_option maxHeartbeats 4000000
namespace Go.Proofs.YtijddijloelacaaGreat.Am
variable [Inhabited cc]
open Go.RowKit (Below)
structure Ren where
 r:Nat->Option Nat
 o:Nat->Option Nat
 m:Nat->Option Nat
def iL(τ:Ren):Nat->A->A
 | 0,_=>.af
 | d+1,x=>match x with
  | .ref b o=>match τ.r b with
   | some b'=>.ref b' o
   | none=>.af
  | .oref b i o=>match τ.o b with
   | some b'=>.oref b' i o
   | none=>.af
  | .own b=>match τ.o b with
   | some b'=>.own b'
   | none=>.af
  | .omap b=>match τ.m b with
   | some b'=>.omap b'
   | none=>.af
  | .qZ _ _=>.af
  | .nw _ _=>.af
  | .agg cs=>.agg (cs.map (iL τ d))
  | .tup cs=>.tup (cs.map (iL τ d))
  | .fn f cs=>.fn f (cs.map (iL τ d))
  | x=>x
def gV(τ:Ren)(d:Nat):aq->aq
 | .box ty cs=>.box ty (cs.map (iL τ d))
 | .ghost cs=>.ghost (cs.map (iL τ d))
 | .cM ty g sh n hi cs jA has val=>.cM ty g sh n hi (cs.map (iL τ d)) jA has val
 | x=>x
/-- What a renaming must keep. -/
structure rn (τ:Ren) (ids ab:dE):Prop where
 r:∀b b' p,τ.r b=some b'->ids[b]?=some (.lv p)->∃p',ab[b']?=some (.lv p')/\p'.ao=p.ao
 o:∀b b' p,τ.o b=some b'->ids[b]?=some p->p≠.dead->∃q,ab[b']?=some q/\KM p q
 m:∀b b' p,τ.m b=some b'->ids[b]?=some (.lv p)->∃p',ab[b']?=some (.lv p')/\p'.ao=p.ao
 rs:∀b b',τ.r b=some b'->ids[b]?=some .av->ab[b']?=some .av
 ms:∀b b',τ.m b=some b'->ids[b]?=some .av->ab[b']?=some .av

section
variable {c:Ctx} {s:List A} {m:List aq} {a:Act} {w w':World} {ids ab:dE} {P:Program} {im bo:Nat->Prop} {tt:TT} {G:aG}

theorem dN{τ:Ren}(hi:∀b,im b->bo b)(hw:∀b,im b->w'.heap[b]?=w.heap[b]?)(ht:rn τ ids ab):
  ∀(d:Nat) (x:A) (v:Value),Rel ids im w x v->Rel ab bo w' (iL τ d x) v
 | 0,x,v,_=>.aI (.af _)
 | d+1,x,v,h=>by
  have keep:∀y,aw im w y v->Rel ab bo w' y v:=fun y hy=>.aI (hy.mono hi hw);cases x with
  | ref b o =>
   simp only[iL];split
   ·rename_i b' hb;rcases h.ic with⟨p,h1,rfl⟩|⟨h1,x,y,rfl⟩;rotate_left
    ·exact .ki _ _ x y (ht.rs _ _ hb h1)
    obtain⟨p',h2,h3⟩:=ht.r _ _ _ hb h1;rw[<-h3];exact .ref _ _ p' h2
   ·exact .aI (.af _)
  | oref b i o =>
   simp only[iL];split
   ·rename_i b' hb;rcases h.iy with⟨p,h1,rfl⟩|⟨h1,x,y,rfl⟩;rotate_left
    ·obtain⟨q,h4,h5⟩:=ht.o _ _ _ hb h1 (by simp);have h5:q=.av:=h5;subst h5;exact .gA _ _ _ x y h4
    obtain⟨q,h2,p',rfl,h3⟩:=ht.o _ _ _ hb h1 (by simp);rw[<-h3.1,<-h3.2.2.2];exact .oref _ _ _ p' h2
   ·exact .aI (.af _)
  | own b =>
   simp only[iL];split
   ·rename_i b' hb;rcases h.jB with⟨h1,rfl⟩|⟨p,cap,h1,h2,h3,rfl⟩|⟨h1,x,n,cap,rfl⟩
    ·obtain⟨q,h4,h5⟩:=ht.o _ _ _ hb h1 (by simp);have h5:q=.aQ:=h5;subst h5;exact .fX _ h4
    ·obtain⟨q,h4,p',rfl,h5⟩:=ht.o _ _ _ hb h1 (by simp);rw[<-h5.1,<-h5.2.2.1];exact .own _ cap p' h4 (by rw[h5.2.2.1];exact h2) (by rw[h5.2.1,h5.2.2.2];exact h3)
    ·obtain⟨q,h4,h5⟩:=ht.o _ _ _ hb h1 (by simp);have h5:q=.av:=h5;subst h5;exact .kj _ x n cap h4
   ·exact .aI (.af _)
  | omap b =>
   simp only[iL];split
   ·rename_i b' hb;rcases h.jh with⟨p,h1,rfl⟩|⟨h1,x,rfl⟩;rotate_left
    ·exact .fS _ x (ht.ms _ _ hb h1)
    obtain⟨p',h2,h3⟩:=ht.m _ _ _ hb h1;rw[<-h3];exact .omap _ p' h2
   ·exact .aI (.af _)
  | agg cs =>
   obtain⟨vs,rfl,hl,ho,hr⟩:=h.ig;exact .agg _ vs (by simpa using hl) ho (fun j h h'=>by rw[List.getElem_map];exact dN hi hw ht d _ _ (hr j (by simpa using h) h'))
  | tup cs =>
   obtain⟨vs,rfl,hl,hr⟩:=h.jC;exact .tup _ vs (by simpa using hl) (fun j h h'=>by rw[List.getElem_map];exact dN hi hw ht d _ _ (hr j (by simpa using h) h'))
  | fn f cs =>
   obtain⟨vs,rfl,hl,hr⟩:=h.gi;exact .fn f _ vs (by simpa using hl) (fun j h h'=>by rw[List.getElem_map];exact dN hi hw ht d _ _ (hr j (by simpa using h) h'))
  | int k n=>cases h with|aI h=>exact keep _ h
  | bool k=>cases h with|aI h=>exact keep _ h
  | sb k=>cases h with|aI h=>exact keep _ h
  | str k=>cases h with|aI h=>exact keep _ h
  | gH=>cases h with|aI h=>exact keep _ h
  | bref cs off=>cases h with|aI h=>exact keep _ h
  | aV=>cases h with|aI h=>exact keep _ h
  | sl n sz row=>cases h with|aI h=>exact keep _ h
  | bz=>cases h with|aI h=>exact keep _ h
  | fU=>cases h with|aI h=>exact keep _ h
  | mv g n k v=>cases h with|aI h=>exact keep _ h
  | af=>exact .aI (.af _)
  | qZ=>exact .aI (.af _)
  | nw=>exact .aI (.af _)

theorem kz{τ:Ren}(hi:∀b,im b->bo b)(hw:∀b,im b->w'.heap[b]?=w.heap[b]?)(ht:rn τ ids ab)(d:Nat)
  {x:aq} {p:dT} (hp:∀q,p=.lv q->∀k,q.has k->w'.heap[k]?=w.heap[k]?) (h:aX ids im w x p):aX ab bo w' (gV τ d x) p:=by
 cases x with
 | box ty cs =>
  cases p with
  | dead=>exact h
  | av=>exact h
  | aQ=>exact h
  | cE vs=>exact h
  | lv q =>
   obtain⟨vs,h1,h2,h3,h4⟩:=h;refine⟨vs,by rw[hp _ rfl _ (.inl rfl)];exact h1,h2,by simpa using h3,fun j h h'=>?_⟩;rw[List.getElem_map];exact⟨dN hi hw ht d _ _ (h4 j (by simpa using h) h').1,(h4 j (by simpa using h) h').2⟩
 | ghost cs =>
  cases p with
  | dead=>exact h
  | av=>exact h
  | aQ=>exact h
  | lv q=>exact h
  | cE vs =>
   refine⟨by simpa using h.1,fun j h1 h2=>?_⟩;rw[List.getElem_map];exact dN hi hw ht d _ _ (h.2 j (by simpa using h1) h2)
 | dead=>exact h
 | gone=>exact h
 | row ty sz n row=>have h:=aX.mono (ids:=ids) (ab:=ids) hi hw (fun _ _ h _=>h) hp h;cases p<;>exact h
 | nest ty aN sz n ho le row=>have h:=aX.mono (ids:=ids) (ab:=ids) hi hw (fun _ _ h _=>h) hp h;cases p<;>exact h
 | eP g n k v=>have h:=aX.mono (ids:=ids) (ab:=ids) hi hw (fun _ _ h _=>h) hp h;cases p<;>exact h
 | o7 g n k v=>have h:=aX.mono (ids:=ids) (ab:=ids) hi hw (fun _ _ h _=>h) hp h;cases p<;>exact h
 | GB g n k v se=>have h:=aX.mono (ids:=ids) (ab:=ids) hi hw (fun _ _ h _=>h) hp h;cases p<;>exact h
 | bF ty sz n Φ=>have h:=aX.mono (ids:=ids) (ab:=ids) hi hw (fun _ _ h _=>h) hp h;cases p<;>exact h
 | cM ty g sh n dB cs jA has val =>
  cases p with
  | dead=>exact h
  | av=>exact h
  | aQ=>exact h
  | cE vs=>exact h
  | lv q=>exact mG (iL τ d) (hp _ rfl) (fun _ _ h=>h.mono hi hw) (fun x v h=>dN hi hw ht d x v h) h
end

def setMany{α:Type}:List Nat->List α->List α->List α
 | b::bs,x::xs,m=>setMany bs xs (m.set b x)
 | _,_,m=>m
theorem cm{α:Type}:∀(ρ:List Nat) (xs m:List α),(setMany ρ xs m).length=m.length
 | [],xs,m=>by cases xs<;>rfl
 | b::bs,[],m=>rfl
 | b::bs,x::xs,m=>by rw[setMany,cm bs xs];simp
theorem lB{α:Type}:∀(ρ:List Nat) (xs m:List α) (b:Nat),b∉ρ->(setMany ρ xs m)[b]?=m[b]?
 | [],xs,m,b,_=>by cases xs<;>rfl
 | b'::bs,[],m,b,_=>rfl
 | b'::bs,x::xs,m,b,h=>by
  rw[setMany,lB bs xs _ b (fun h'=>h (by simp[h'])),List.getElem?_set_ne (fun e=>h (by simp[e]))]
theorem od{α:Type}:∀(ρ:List Nat) (xs m:List α) (k b:Nat) (x:α),ρ.Nodup->ρ[k]?=some b->xs[k]?=some x->b<m.length->(setMany ρ xs m)[b]?=some x
 | [],xs,m,k,b,x,_,h,_,_=>by simp at h
 | b'::bs,[],m,k,b,x,_,_,h,_=>by simp at h
 | b'::bs,y::xs,m,k,b,x,hn,h1,h2,hb=>by
  rw[setMany];cases k with
  | zero =>
   simp at h1 h2;subst h1;subst h2;rw[lB _ _ _ _ (List.nodup_cons.1 hn).1,List.getElem?_set_self hb]
  | succ k=>exact od bs xs _ k b x (List.nodup_cons.1 hn).2 (by simpa using h1) (by simpa using h2) (by simpa using hb)

def eZ:List Nat->Nat->Nat->Option Nat
 | [],_,_=>none
 | x::xs,k,b=>match Nat.beq b x with
  | true=>some k
  | false=>eZ xs (k+1) b
theorem fT:∀(l:List Nat) (k b j:Nat),eZ l k b=some j->k<=j/\l[j-k]?=some b
 | [],k,b,j,h=>by simp[eZ] at h
 | x::xs,k,b,j,h=>by
  unfold eZ at h;split at h
  ·rename_i e;cases h;have:=Nat.eq_of_beq_eq_true e;subst this;simp
  ·obtain⟨h1,h2⟩:=fT xs (k+1) b j h;refine⟨by omega,?_⟩;rw[show j-k=(j-(k+1))+1 by omega];simpa using h2
theorem kA:∀(l:List Nat) (k b:Nat),eZ l k b=none->b∉l
 | [],_,_,_=>by simp
 | x::xs,k,b,h=>by
  unfold eZ at h;split at h
  ·cases h
  ·rename_i e;have:=kA xs (k+1) b h;simp only[List.mem_cons,not_or];exact⟨fun e'=>by subst e';simp at e,this⟩
def reach(m:List aq):Nat->A->List Nat
 | 0,_=>[]
 | d+1,x=>match x with
  | .ref b _=>b::match m.getD b .dead with
   | .box _ cs=>(cs.map (reach m d)).flatten
   | _=>[]
  | .oref b _ _=>[b]
  | .own b=>[b]
  | .omap b=>[b]
  | .agg cs=>(cs.map (reach m d)).flatten
  | .tup cs=>(cs.map (reach m d)).flatten
  | .fn _ cs=>(cs.map (reach m d)).flatten
  | _=>[]
def LM:List Nat->List Nat->List Nat
 | _,[]=>[]
 | acc,x::xs=>match wb x acc with
  | true=>LM acc xs
  | false=>x::LM (x::acc) xs
where wb (i:Nat):List Nat->Bool
 | []=>false
 | j::js=>match Nat.beq i j with
  | true=>true
  | false=>wb i js
def SS:List Nat->(List Nat->Prop)->Prop
 | [],K=>K []
 | x::xs,K=>dz x fun y=>SS xs fun ys=>K (y::ys)
theorem xM:∀(l:List Nat) (K:List Nat->Prop),SS l K=K l
 | [],_=>rfl
 | x::xs,K=>by simp only[SS,aO,xM xs]
def oe:List Nat->Bool
 | []=>true
 | x::xs=>match LM.wb x xs with
  | true=>false
  | false=>oe xs
theorem wc{i:Nat}:∀ {l:List Nat},LM.wb i l=true↔i∈l
 | []=>by simp[LM.wb]
 | x::xs=>by
  unfold LM.wb;split
  ·rename_i h;have:=Nat.eq_of_beq_eq_true h;simp[this]
  ·rename_i h;have hne:i≠x:=fun e=>by subst e;simp at h
   simp[hne,wc (l:=xs)]
theorem iV:∀ {l:List Nat},oe l=true->l.Nodup
 | [],_=>List.nodup_nil
 | x::xs,h=>by
  unfold oe at h;split at h
  ·cases h
  ·rename_i hn;refine List.nodup_cons.2 ⟨fun hm=>?_,iV h⟩;rw[wc.2 hm] at hn;cases hn
def kB:aq->Bool
 | .box _ _=>true
 | .row _ _ _ _=>true
 | .nest _ _ _ _ _ _ _=>true
 | .eP _ _ _ _=>true
 | .cM _ _ _ _ _ cs _ _ _=>cs.isEmpty
 | .bF _ _ _ _=>true
 | _=>false
def VX(m:List aq):List Nat->Bool
 | []=>true
 | b::bs=>match kB (m.getD b .dead) with
  | true=>VX m bs
  | false=>false
theorem we{m:List aq}:∀ {l:List Nat},VX m l=true->∀b∈l,kB (m.getD b .dead)=true/\b<m.length
 | [],_,b,hb=>by simp at hb
 | x::xs,h,b,hb=>by
  unfold VX at h;split at h
  ·rename_i hx;rcases List.mem_cons.1 hb with rfl|hb
   ·refine⟨hx,?_⟩;rcases Nat.lt_or_ge b m.length with h'|h'
    ·exact h'
    ·rw[List.getD_eq_getElem?_getD,List.getElem?_eq_none h'] at hx;simp[kB] at hx
   ·exact we h b hb
  ·cases h
/-- The names that are watched: rows that are handed as they are, and all boxes and maps. -/
def XZ:A->A
 | .own b=>.own b
 | _=>.af
def Hq(m:List aq):Nat->List Nat->List A
 | _,[]=>[]
 | k,b::bs=>(match m.getD b .dead with
  | .box _ _=>.ref k 0
  | .eP _ _ _ _=>.omap k
  | _=>.af)::Hq m (k+1) bs
abbrev bU(f:Nat->Option Nat):Ren:=⟨f,f,f⟩
def jH(ρ:List Nat)(M:Nat):Nat->Option Nat
 | 0=>none
 | j+1=>match Nat.blt j ρ.length with
  | true=>some (ρ.getD j 0)
  | false=>some (M+(j-ρ.length))
def pk(ρ:List Nat)(go:List A)(n:Nat)(b:Nat):Option Nat :=
 match eZ ρ 0 b with
 | none=>some b
 | some k=>match go.getD (n+k) .af with
  | .ref k' o=>match Nat.beq k' (k+1),o with
   | true,0=>some b
   | _,_=>none
  | _=>none
def pn(ρ:List Nat)(go:List A)(n:Nat)(b:Nat):Option Nat :=
 match eZ ρ 0 b with
 | none=>some b
 | some k=>match go.getD (n+k) .af with
  | .omap k'=>match Nat.beq k' (k+1) with
   | true=>some b
   | false=>none
  | _=>none
def lC(k:Nat):List A->List A->Bool
 | .own b::as,g::gs=>match Nat.beq b k,g with
  | true,.own b'=>match Nat.beq b' k with
   | true=>true
   | false=>lC k as gs
  | _,_=>lC k as gs
 | _::as,_::gs=>lC k as gs
 | _,_=>false
def xN(x y:aq):Bool :=
 match x,y with
 | .row _ sz _ _,.row _ sf _ _=>Nat.beq sz sf
 | .nest _ _ _ _ _ _ _,.nest _ _ _ _ _ _ _=>true
 | .row _ sz _ _,.bF _ sf _ _=>Nat.beq sz sf
 | .cM _ _ _ _ _ _ _ _ _,.cM _ _ _ _ _ _ _ _ _=>true
 | _,_=>false
def uB(ρ:List Nat)(as go:List A)(m mo:List aq)(b:Nat):Option Nat :=
 match eZ ρ 0 b with
 | none=>some b
 | some k=>match lC (k+1) as go,xN (m.getD b .dead) (mo.getD k .dead) with
  | true,true=>some b
  | _,_=>none
def gC:List aq->Bool
 | []=>true
 | .ghost _::_=>false
 | .gone::_=>false
 | _::xs=>gC xs

def gj(ids:dE):Nat->Prop:=fun x=>∃p,dT.lv p∈ids/\p.has x
/-- A function that is handed blocks, and hands some back. -/
def aM(P:Program)(G:aG)(f:FuncId)(args:List A)(mi:List aq)(r:A)(mo:List aq):Prop :=
 (∃ fn cd, P.funcs[f]? = some fn ∧ fn.body = some cd ∧ (fn.name == "runtime.NumGoroutine") = false) ∧
 ∀(im:Nat->Prop) (w:World) (vs gs:List Value) (ids:dE),G.ok ⟨w,im,gj ids,gs⟩->aF ⟨w,im,gj ids,gs⟩ args mi ⟨vs.toArray,[]⟩ w ids ->
  Calls P f vs.toArray w fun e w'=>∃v ab,e=.returned v/\aF ⟨w,im,gj ids,gs⟩ [r] mo ⟨#[v],[]⟩ w' ab
def Dc(P:Program)(G:aG)(f:A)(args:List A)(s:List A)(m:List aq)(K:List A->A->List aq->Prop):Prop :=
 match f with
 | .fn g cap=>fd.qp 4 (args++cap) fun as=>SS (LM [] ((as.map (reach m 8)).flatten)) fun ρ=>match VX m ρ,oe ρ with
  | true,true=>fd.qp 4 (as.map (iL (bU (eZ ρ 1)) 4)) fun jl =>
   qt (.ghost (jl.map XZ++Hq m 1 ρ)::ρ.map fun b=>gV (bU (eZ ρ 1)) 4 (m.getD b .dead)) fun mi =>
   ∃r mo,aM P G g jl mi r mo/\match mo with
    | .ghost go::iY=>match gC iY,Nat.ble ρ.length iY.length with
     | true,true =>
      fd.qp 4 (s.map (iL ⟨pk ρ go jl.length,uB ρ jl go m iY,pn ρ go jl.length⟩ 4)) fun s' =>
      qt (setMany ρ (iY.map (gV (bU (jH ρ m.length)) 4)) (m.map (gV ⟨pk ρ go jl.length,uB ρ jl go m iY,pn ρ go jl.length⟩ 4))++(iY.drop ρ.length).map (gV (bU (jH ρ m.length)) 4)) fun m' =>
      fd 4 (iL (bU (jH ρ m.length)) 4 r) fun r'=>K s' r' m'
     | _,_=>False
    | _=>False
  | _,_=>False
 | _=>False
section
variable {c:Ctx} {s:List A} {m:List aq} {a:Act} {w w':World} {ids ab:dE} {P:Program} {im bo:Nat->Prop} {tt:TT} {G:aG}
variable {next:Act->World->Prop} {Q:Exit->Act->World->Prop} {o:Oper}

theorem xO{x:aq}{vs:List Value}(h:kB x=true)(hb:aX ids im w x (.cE vs)):False:=by
 cases x<;>first|exact hb|(simp[kB] at h)
theorem aF.Dd(hs:aF c s m a w ids){b:Nat}(hb:b<m.length):∃p,ids[b]?=some p/\aX ids (au c ids w) w (m.getD b .dead) p:=by
 have h1:b<ids.length:=by rw[hs.aL];exact hb
 refine⟨ids[b],List.getElem?_eq_getElem h1,?_⟩;have:=hs.bC b hb h1
 rwa [show m.getD b .dead=m[b] by rw[List.getD_eq_getElem?_getD,List.getElem?_eq_getElem hb];rfl]
theorem aT{α:Type}{l:List α}{i:Nat}{x:α}(h:l[i]?=some x):i<l.length:=by
 rcases Nat.lt_or_ge i l.length with h'|h'
 ·exact h'
 ·rw[List.getElem?_eq_none h'] at h;cases h
/-- What stands for a watched name. -/
def NZ(m:List aq)(ids:dE)(b:Nat):Value :=
 match m.getD b .dead,ids.getD b .dead with
 | .box _ _,.lv p=>.pointer (some ⟨p.ao,0,none⟩)
 | .eP _ _ _ _,.lv p=>.map (some p.ao)
 | _,_=>.bool false
theorem sT(m:List aq):∀(ρ:List Nat) (k:Nat),(Hq m k ρ).length=ρ.length
 | [],_=>rfl
 | _::ρ,k=>by simp[Hq,sT m ρ]
theorem E8(hs:aF c s m a w ids){qw:dE}{bo:Nat->Prop}:∀(ρ:List Nat) (k:Nat),(∀j b,ρ[j]?=some b->qw[k+j]?=ids[b]?/\b<m.length) ->
  ∀j (h:j<(Hq m k ρ).length) (h':j<(ρ.map (NZ m ids)).length),Rel qw bo w (Hq m k ρ)[j] (ρ.map (NZ m ids))[j]
 | [],k,_,j,h,_=>by simp[Hq] at h
 | b::ρ,k,hi,0,h,h'=>by
  obtain⟨e1,e2⟩:=hi 0 b rfl;obtain⟨p,hp,hb⟩:=hs.Dd e2;have Pq:ids.getD b .dead=p:=by rw[List.getD_eq_getElem?_getD,hp];rfl
  simp only[Hq,List.map_cons,List.getElem_cons_zero];unfold NZ;rw[Pq];split
  ·rename_i ty cs hm;rw[hm] at hb ⊢;cases p with
   | lv p=>exact .ref k 0 p (by rw[Nat.add_zero] at e1;rw[e1,hp])
   | dead=>exact hb.elim
   | av=>exact hb.elim
   | aQ=>exact hb.elim
   | cE vs=>exact hb.elim
  ·rename_i g n kk vv hm;rw[hm] at hb ⊢;cases p with
   | lv p=>exact .omap k p (by rw[Nat.add_zero] at e1;rw[e1,hp])
   | dead=>exact hb.elim
   | av=>exact hb.elim
   | aQ=>exact hb.elim
   | cE vs=>exact hb.elim
  ·exact .aI (.af _)
 | b::ρ,k,hi,j+1,h,h'=>by
  simp only[Hq,List.map_cons,List.getElem_cons_succ]
  exact E8 hs ρ (k+1) (fun j b hj=>by
   have:=hi (j+1) b (by simpa using hj)
   rwa [show k+(j+1)=k+1+j by omega] at this) j (by simpa[Hq] using h) (by simpa using h')
theorem po(k:Nat):∀(as gs:List A),lC k as gs=true->∃j:Nat,as[j]?=some (A.own k)/\gs[j]?=some (A.own k)
 | [],_,h=>by simp[lC] at h
 | x::as,[],h=>by cases x<;>simp[lC] at h
 | x::as,g::gs,h=>by
  have rest:lC k as gs=true->∃j:Nat,(x::as)[j]?=some (A.own k)/\(g::gs)[j]?=some (A.own k):=fun h=>by
   obtain⟨j,h1,h2⟩:=po k as gs h;exact⟨j+1,by simpa using h1,by simpa using h2⟩
  unfold lC at h;split at h
  ·rename_i b jl g' RO e1 e2;cases e1;cases e2;split at h
   ·rename_i b' hb;have:=Nat.eq_of_beq_eq_true hb;subst this;split at h
    ·rename_i gG;have:=Nat.eq_of_beq_eq_true gG;subst this;exact⟨0,rfl,rfl⟩
    ·exact rest h
   ·exact rest h
  ·rename_i e1 e2;cases e1;cases e2;exact rest h
  ·cases h
theorem jR:∀ {l:List aq},gC l=true->∀x∈l,∀cs,x≠.ghost cs
 | [],_,x,h=>by simp at h
 | y::ys,h,x,hx=>by
  rcases List.mem_cons.1 hx with rfl|hx
  ·intro cs e;subst e;simp[gC] at h
  ·exact jR (l:=ys) (by cases y<;>simp[gC] at h<;>exact h) x hx

theorem lD:∀ {l:List aq},gC l=true->∀x∈l,x≠.gone
 | [],_,x,h=>by simp at h
 | y::ys,h,x,hx=>by
  rcases List.mem_cons.1 hx with rfl|hx
  ·intro e;subst e;simp[gC] at h
  ·exact lD (l:=ys) (by cases y<;>simp[gC] at h<;>exact h) x hx

theorem xP(hs:aF c s m a w ids)(hG:G.ok c){F:Operand}{xs:Array Operand}{ts:Array TypeId}(ho:o.op=.call { callee:=.value F,args:=xs,argTypes:=ts }){K:List A->A->List aq->Prop}
  (h:Dc P G (ev s F) (xs.toList.map (ev s)) s m K)
  (hn:∀s1 v m' a' w' ab,K s1 v m'->aF c (bf s1 o.dst v) m' a' w' ab->next a' w'):o.wp P a w next Q:=by
 have hf:=hs.ev F;have VS:G.G w:=hG.now hs.frame;unfold Dc at h;split at h
 ·rename_i g cap hv;rw[hv] at hf;obtain⟨us,Jk,yz,Ho⟩:=hf.gi;rw[cK,xM] at h;generalize has:xs.toList.map (ev s)++cap=as at h;generalize hρ:LM [] ((as.map (reach m 8)).flatten)=ρ at h;generalize LU:xs.toList.map a.eval++us=vs
  have hrel:∀j (h:j<as.length) (h':j<vs.length),Rel ids (au c ids w) w as[j] vs[j]:=by
   subst has;subst LU;intro j h h';by_cases hj:j<xs.toList.length
   ·rw[List.getElem_append_left (by simpa using hj),List.getElem_append_left (by simpa using hj)];exact lz hs xs.toList j (by simpa using hj) (by simpa using hj)
   ·rw[List.getElem_append_right (by simpa using hj),List.getElem_append_right (by simpa using hj)];simp at h h' hj;have:=Ho (j-xs.size) (by omega) (by omega);simpa using this
  have hlen:vs.length=as.length:=by subst has;subst LU;simp[yz]
  have run : ∀ fn cd, P.funcs[g]? = some fn → fn.body = some cd → (fn.name == "runtime.NumGoroutine") = false → (execOp a.eval o).run P w = .ok (.enter g vs.toArray) w := by
   intro fn cd h1 h2 h3;have e:execOp a.eval o=(do let d <-resolve a.eval { callee:=.value F,args:=xs,argTypes:=ts } o.type;invoke d.target d.args):=by unfold execOp;rw[ho]
   have e2:(xs.map a.eval++us.toArray)=vs.toArray:=by subst LU;apply Array.ext';simp
   have h4 : ¬ fn.name = "runtime.NumGoroutine" := by simpa using h3
   rw[e];simp[resolve,Jk,Deferred.ofValue,invoke,callFunc,h1,h2,h4,e2]
  split at h
  ·rename_i xi pH;have xi:=we xi;have pH:=iV pH;rw[cK,dQ] at h;generalize UU:as.map (iL (bU (eZ ρ 1)) 4)=jl at h;obtain⟨r,mo,hc,h⟩:=h;split at h
   ·rename_i go iY;split at h
    ·rename_i yR hle;have hle:ρ.length<=iY.length:=Nat.le_of_ble_eq_true hle;have hgn:=lD yR;have yR:=jR yR;rw[cK,dQ,eI] at h
     -- the UW names
     let gs:List Value:=vs++ρ.map (NZ m ids)
     let qw:dE:=.cE gs::ρ.map fun b=>ids.getD b .dead
     let c':Ctx:=⟨w,au c ids w,gj qw,gs⟩
     have xQ:∀b,b∈ρ->∃p,ids[b]?=some p/\ids.getD b .dead=p/\aX ids (au c ids w) w (m.getD b .dead) p/\∀vs,p≠.cE vs:=by
      intro b hb;obtain⟨p,h1,h2⟩:=hs.Dd (xi b hb).2;refine⟨p,h1,by rw[List.getD_eq_getElem?_getD,h1];rfl,h2,?_⟩;rintro vs rfl;exact xO (xi b hb).1 h2
     have rp:∀j b,ρ[j]?=some b->qw[j+1]?=ids[b]?:=by
      intro j b hj;obtain⟨p,h1,h2,_⟩:=xQ b (List.mem_of_getElem? hj);show(ρ.map fun b=>ids.getD b .dead)[j]?=_;rw[List.getElem?_map,hj,h1];simp only[Option.map_some,h2]
     have jS:∀(i:Nat) p,qw[i]?=some (.lv p)->∃j b,i=j+1/\ρ[j]?=some b/\ids[b]?=some (.lv p):=by
      intro i p hi;cases i with
      | zero=>simp[qw] at hi
      | succ j =>
       have bV:(ρ.map fun b=>ids.getD b .dead)[j]?=some (.lv p):=hi;rw[List.getElem?_map] at bV;cases hj:ρ[j]? with
       | none=>rw[hj] at bV;cases bV
       | some b=>exact⟨j,b,rfl,hj,by rw[<-rp j b hj];exact hi⟩
     have KU:∀x,gj qw x->∃b p,b∈ρ/\ids[b]?=some (.lv p)/\p.has x:=by
      rintro x ⟨p,hp,hx⟩;obtain⟨i,hi⟩:=List.getElem?_of_mem hp;obtain⟨j,b,_,h2,h3⟩:=jS i p hi;exact⟨b,p,List.mem_of_getElem? h2,h3,hx⟩
     have Zu:∀b p x,b∈ρ->ids[b]?=some (.lv p)->p.has x->gj qw x:=by
      intro b p x hb hp hx;obtain⟨j,hj⟩:=List.getElem?_of_mem hb;exact⟨p,List.mem_of_getElem? (by rw[rp j b hj];exact hp),hx⟩
     have KW:∀b,au c ids w b->¬gj qw b:=by
      intro b hb hm;obtain⟨b',p,_,h2,h3⟩:=KU b hm;rcases hb with hb|⟨_,_,hb⟩
      ·exact hs.pJ hb (hs.ar p (List.mem_of_getElem? h2) b h3).1
      ·exact hb p (List.mem_of_getElem? h2) h3
     have hτ:rn (bU (eZ ρ 1)) ids qw:=by
      have key:∀b b',eZ ρ 1 b=some b'->qw[b']?=ids[b]?:=by
       intro b b' hb;obtain⟨h1,h2⟩:=fT _ _ _ _ hb;have:=rp _ _ h2
       rwa [show b'-1+1=b' by omega] at this
      exact⟨fun b b' p h1 h2=>⟨p,by rw[key b b' h1];exact h2,rfl⟩,fun b b' p h1 h2 _=>⟨p,by rw[key b b' h1];exact h2,gU p⟩,fun b b' p h1 h2=>⟨p,by rw[key b b' h1];exact h2,rfl⟩,fun b b' h1 h2=>by rw[key b b' h1];exact h2,fun b b' h1 h2=>by rw[key b b' h1];exact h2⟩
     have LN:jl.length=as.length:=by rw[<-UU];simp
     have uz:∀j (h:j<jl.length) (h':j<vs.length),Rel qw (au c' qw w) w jl[j] vs[j]:=by
      intro j h h';have:jl[j]=iL (bU (eZ ρ 1)) 4 (as[j]'(by omega)):=by simp[<-UU]
      rw[this];exact dN (fun _ h=>.inl h) (fun _ _=>rfl) hτ 4 _ _ (hrel j (by omega) h')
     have hsc:aF c' jl (.ghost (jl.map XZ++Hq m 1 ρ)::ρ.map fun b=>gV (bU (eZ ρ 1)) 4 (m.getD b .dead)) ⟨vs.toArray,[]⟩ w qw:=by
      refine⟨rfl,by simp[hlen,LN],fun i h h'=>by simpa using uz i h (by simpa using h'),by simp[qw],?_,?_,?_,Fr.refl _ _ _ _,?_,?_⟩
      ·intro i h1 h2;cases i with
       | zero =>
        show aX qw (au c' qw w) w (.ghost (jl.map XZ++Hq m 1 ρ)) (.cE gs);refine⟨by simp[gs,sT,hlen,LN],fun j g1 g2=>?_⟩;by_cases hj:j<jl.length
        ·rw[List.getElem_append_left (by simpa using hj)];simp only[gs];rw[List.getElem_append_left (by omega),List.getElem_map];have:=uz j hj (by omega);generalize jl[j]=x at this ⊢;cases x<;>first|exact this|exact .aI (.af _)
        ·rw[List.getElem_append_right (by simpa using hj)];simp only[gs];rw[List.getElem_append_right (by omega)];have:=E8 (qw:=qw) (bo:=au c' qw w) hs ρ 1 (fun j b hj=>⟨by rw[Nat.add_comm];exact rp j b hj,(xi b (List.mem_of_getElem? hj)).2⟩) (j-jl.length) (by simp at g1;rw[sT] at *;omega) (by simp;simp[sT] at g1;omega);simpa[hlen,LN] using this
       | succ i =>
        have hi:i<ρ.length:=by simpa using h1
        obtain⟨p,q1,q2,q3,q4⟩:=xQ ρ[i] (List.getElem_mem hi);show aX qw (au c' qw w) w ((ρ.map fun b=>gV (bU (eZ ρ 1)) 4 (m.getD b .dead))[i]'(by simpa using hi)) ((ρ.map fun b=>ids.getD b .dead)[i]'(by simpa using hi));rw[List.getElem_map,List.getElem_map,q2];exact kz (fun _ h=>.inl h) (fun _ _=>rfl) hτ 4 (fun _ _ _ _=>rfl) q3
      ·intro i j p q x h1 h2 h3 h4;obtain⟨i',b1,rfl,e1,e2⟩:=jS i p h1;obtain⟨j',b2,rfl,e3,e4⟩:=jS j q h2;have:=hs.aj b1 b2 p q x e2 e4 h3 h4;subst this;have:=(List.getElem?_inj (aT e1) pH).1 (e1.trans e3.symm);omega
      ·intro p hp x hx;obtain⟨i,hi⟩:=List.getElem?_of_mem hp;obtain⟨j,b,_,h2,h3⟩:=jS i p hi;exact⟨.inr ⟨p,hp,hx⟩,(hs.ar p (List.mem_of_getElem? h3) x hx).2⟩
      ·exact fun b hb=>⟨cB hs hb,KW b hb⟩
      ·intro dK FX;rcases List.mem_cons.1 FX with e|e
       ·cases e;rfl
       ·simp only[List.mem_map] at e;obtain⟨b,hb,e⟩:=e;obtain⟨p,_,q2,_,q4⟩:=xQ b hb;exact absurd (q2.symm.trans e) (q4 dK)
     have hGc:G.ok c':=by
      refine⟨VS,fun b hb=>?_⟩;obtain⟨b',p,_,h2,h3⟩:=KU b hb;rcases (hs.ar p (List.mem_of_getElem? h2) b h3).1 with h|h
      ·exact Nat.le_trans (G.lt _ hG.1) h
      ·exact hG.2 b h
     obtain⟨⟨fn,cd,f1,f2,f3⟩,hc⟩:=hc;unfold Oper.wp;rw[run fn cd f1 f2 f3];show Calls P g _ w _;refine bl (hc (au c ids w) w vs gs qw hGc hsc) ?_;rintro e w' ⟨v,Ps,rfl,hr⟩;have hr:aF c' [r] (.ghost go::iY) ⟨#[v],[]⟩ w' Ps:=hr
     -- behind the call
     match Ps,hr with
     | [],hr=>have:=hr.aL;simp at this
     | g0::iz,hr =>
     have wM:iz.length=iY.length:=by have:=hr.aL;simpa using this
     have GM:=hr.bC 0 (by simp) (by simp);simp only[List.getElem_cons_zero] at GM
     have hgh:∃RO,g0=.cE RO:=by
      cases g0 with
      | cE RO=>exact⟨RO,rfl⟩
      | dead=>exact GM.elim
      | av=>exact GM.elim
      | aQ=>exact GM.elim
      | lv p=>exact GM.elim
     obtain⟨RO,rfl⟩:=hgh;have hgs:RO=gs:=hr.cE RO (by simp);subst hgs;obtain⟨Vw,Lz⟩:=GM
     have RP:∀(j:Nat) x v,go[j]?=some x->gs[j]?=some v->Rel (.cE gs::iz) (au c' (.cE gs::iz) w') w' x v:=by
      intro j x v e1 e2;have g1:=aT e1;have g2:=aT e2;have:=Lz j g1 g2;rw[List.getElem?_eq_getElem g1] at e1;rw[List.getElem?_eq_getElem g2] at e2;cases e1;cases e2;exact this
     have rq:∀b,b<w.heap.size->¬gj qw b->w'.heap[b]?=w.heap[b]?:=fun b h1 h2=>hr.frame.block b h1 h2;have X3:w.heap.size<=w'.heap.size:=hr.frame.size;have yu:ids.length=m.length:=hs.aL;generalize AQ:setMany ρ iz ids++iz.drop ρ.length=jv
     have UX:∀(k b:Nat) p,ρ[k]?=some b->iz[k]?=some p->jv[b]?=some p:=by
      intro k b p h1 h2;have hb:=(xi b (List.mem_of_getElem? h1)).2;rw[<-AQ,List.getElem?_append_left (by rw[cm,yu];exact hb)];exact od ρ iz ids k b p pH h1 h2 (by rw[yu];exact hb)
     have KP:∀b,b∉ρ->b<m.length->jv[b]?=ids[b]?:=by
      intro b h1 h2;rw[<-AQ,List.getElem?_append_left (by rw[cm,yu];exact h2)];exact lB _ _ _ _ h1
     have ex2:∀(k:Nat) p,ρ.length<=k->iz[k]?=some p->jv[m.length+(k-ρ.length)]?=some p:=by
      intro k p h1 h2;rw[<-AQ,List.getElem?_append_right (by rw[cm,yu];omega),cm,yu,List.getElem?_drop];rw[show ρ.length+(m.length+(k-ρ.length)-m.length)=k by omega];exact h2
     have inv2:∀(i:Nat) p,jv[i]?=some p->(i∉ρ/\i<m.length/\ids[i]?=some p)\/∃k:Nat,iz[k]?=some p/\((ρ[k]?=some i)\/(ρ.length<=k/\i=m.length+(k-ρ.length))):=by
      intro i p hi;rcases Nat.lt_or_ge i m.length with aD|I9
      ·by_cases hm:i∈ρ
       ·obtain⟨k,hk⟩:=List.getElem?_of_mem hm;have jY:=aT hk;have:iz[k]?=some (iz[k]'(by omega)):=List.getElem?_eq_getElem _;rw[UX k i _ hk this] at hi;exact .inr ⟨k,by rw[this];exact hi,.inl hk⟩
       ·rw[KP i hm aD] at hi;exact .inl ⟨hm,aD,hi⟩
      ·rw[<-AQ,List.getElem?_append_right (by rw[cm,yu];exact I9),cm,yu,List.getElem?_drop] at hi;exact .inr ⟨ρ.length+(i-m.length),hi,.inr ⟨by omega,by omega⟩⟩
     have UY:∀x,c'.new x->c.new x:=by
      rintro x (h|h)
      ·exact .inl (Nat.le_trans hs.frame.size h)
      ·obtain⟨b,p,_,h2,h3⟩:=KU x h;exact(hs.ar p (List.mem_of_getElem? h2) x h3).1
     have RQ:∀p,dT.lv p∈jv->∀x,p.has x->(∃i,i∉ρ/\ids[i]?=some (.lv p))\/(c'.new x/\x<w'.heap.size/\dT.lv p∈iz):=by
      intro p hp x hx;obtain⟨i,hi⟩:=List.getElem?_of_mem hp;rcases inv2 i _ hi with⟨h1,_,h3⟩|⟨k,h1,_⟩
      ·exact .inl ⟨i,h1,h3⟩
      ·have:=hr.ar p (List.mem_cons_of_mem _ (List.mem_of_getElem? h1)) x hx;exact .inr ⟨this.1,this.2,List.mem_of_getElem? h1⟩
     have De:∀(i:Nat) p x,i∉ρ->ids[i]?=some (.lv p)->p.has x->x<w.heap.size/\¬gj qw x:=by
      intro i p x h1 h2 h3;refine⟨(hs.ar p (List.mem_of_getElem? h2) x h3).2,fun hm=>?_⟩;obtain⟨b,q,h4,h5,h6⟩:=KU x hm;have:=hs.aj i b p q x h2 h5 h3 h6;subst this;exact h1 h4
     have hA:∀b,au c ids w b->au c jv w' b:=by
      intro b hb;have hnm:=KW b hb;have aD:=cB hs hb;rcases hb with hb|⟨h1,h2,h3⟩
      ·exact .inl hb
      ·refine .inr ⟨h1,by omega,fun p hp hx=>?_⟩;rcases RQ p hp b hx with⟨i,_,h5⟩|⟨h4|h4,_,_⟩
       ·exact h3 p (List.mem_of_getElem? h5) hx
       ·have h4:w.heap.size<=b:=h4;omega
       ·exact hnm h4
     have hB:∀b,au c' (.cE gs::iz) w' b->au c jv w' b:=by
      rintro b (hb|⟨h1,h2,h3⟩)
      ·exact hA b hb
      ·refine .inr ⟨UY b h1,h2,fun p hp hx=>?_⟩;rcases RQ p hp b hx with⟨i,h4,h5⟩|⟨_,_,h4⟩
       ·obtain⟨g1,g2⟩:=De i p b h4 h5 hx;rcases h1 with h1|h1
        ·have h1:w.heap.size<=b:=h1;omega
        ·exact g2 h1
       ·exact h3 p (List.mem_cons_of_mem _ h4) hx
     have hH:∀b,au c ids w b->w'.heap[b]?=w.heap[b]?:=fun b hb=>rq b (cB hs hb) (KW b hb)
     have hυ:rn (bU (jH ρ m.length)) (.cE gs::iz) jv:=by
      have key:∀b b' p,jH ρ m.length b=some b'->(dT.cE gs::iz)[b]?=some p->jv[b']?=some p:=by
       intro b b' p h1 h2;cases b with
       | zero=>simp[jH] at h1
       | succ j =>
        have h2:iz[j]?=some p:=by simpa using h2
        simp only[jH] at h1;split at h1
        ·rename_i hj;have hj:j<ρ.length:=Nat.le_of_ble_eq_true hj;cases h1;exact UX j _ p (by rw[List.getD_eq_getElem?_getD,List.getElem?_eq_getElem hj];rfl) h2
        ·rename_i hj;have hj:¬j<ρ.length:=fun h'=>by rw[show Nat.blt j ρ.length=true from Nat.ble_eq_true_of_le h'] at hj;cases hj
         cases h1;exact ex2 j p (by omega) h2
      exact⟨fun b b' p h1 h2=>⟨p,key b b' _ h1 h2,rfl⟩,fun b b' p h1 h2 _=>⟨p,key b b' _ h1 h2,gU p⟩,fun b b' p h1 h2=>⟨p,key b b' _ h1 h2,rfl⟩,fun b b' h1 h2=>key b b' _ h1 h2,fun b b' h1 h2=>key b b' _ h1 h2⟩
     have UZ:∀(k b:Nat),ρ[k]?=some b->gs[jl.length+k]?=some (NZ m ids b):=by
      intro k b hk;show(vs++ρ.map (NZ m ids))[jl.length+k]?=_;rw[List.getElem?_append_right (by omega),List.getElem?_map,show jl.length+k-vs.length=k by omega,hk];rfl
     have hκ:rn ⟨pk ρ go jl.length,uB ρ jl go m iY,pn ρ go jl.length⟩ ids jv:=by
      have U0:∀k:Nat,iz[k]?≠some .av:=by
       intro k b1;have jY:=aT b1;have ox:=hr.bC (k+1) (by simp;omega) (by simp;omega);rw[List.getElem?_eq_getElem jY] at b1;simp only[List.getElem_cons_succ,Option.some.inj b1] at ox;have h2:=hgn _ (List.getElem_mem (show k<iY.length by omega));generalize iY[k]'(by omega)=x at ox h2;cases x<;>first|exact ox.elim|exact absurd rfl h2|cases ox
      have Kr:∀b,ids[b]?=some .av->eZ ρ 0 b=none->jv[b]?=some .av:=fun b h2 hp=>by
       rw[KP b (kA _ _ _ hp) (by rw[<-yu];exact aT h2)];exact h2
      have Zv:∀b k,ids[b]?=some .av->eZ ρ 0 b=some k->False:=fun b k h2 hp=>by
       obtain⟨_,hk⟩:=fT _ _ _ _ hp;obtain⟨p',q1,q2,q3,_⟩:=xQ b (List.mem_of_getElem? hk);rw[h2] at q1;cases q1;have:=(xi b (List.mem_of_getElem? hk)).1;cases hx:m.getD b .dead<;>rw[hx] at q3 this<;>first|exact q3.elim|(simp[kB] at this)
      refine⟨?_,?_,?_,?_,?_⟩;rotate_left 3
      ·intro b b' h1 h2;have h1:pk ρ go jl.length b=some b':=h1;unfold pk at h1;split at h1
       ·rename_i hp;cases h1;exact Kr b h2 hp
       ·rename_i k hp;exact(Zv b k h2 hp).elim
      ·intro b b' h1 h2;have h1:pn ρ go jl.length b=some b':=h1;unfold pn at h1;split at h1
       ·rename_i hp;cases h1;exact Kr b h2 hp
       ·rename_i k hp;exact(Zv b k h2 hp).elim
      ·intro b b' p h1 h2;have h1:pk ρ go jl.length b=some b':=h1;unfold pk at h1;split at h1
       ·rename_i hp;cases h1;exact⟨p,by rw[KP b (kA _ _ _ hp) (by rw[<-yu];exact aT h2)];exact h2,rfl⟩
       ·rename_i k hp;obtain⟨_,hk⟩:=fT _ _ _ _ hp;rw[Nat.sub_zero] at hk;split at h1
        ·rename_i k' o' KX;split at h1
         ·rename_i gv;cases h1;have gv:=Nat.eq_of_beq_eq_true gv;subst gv
          have RR:go[jl.length+k]?=some (.ref (k+1) 0):=by
           rw[List.getD_eq_getElem?_getD] at KX;cases hx:go[jl.length+k]? with
           | none=>rw[hx] at KX;cases KX
           | some y=>rw[hx] at KX;simpa using KX
          obtain⟨p',e1,e2⟩:=(RP _ _ _ RR (UZ k b hk)).ic.resolve_right (fun h=>U0 k (by simpa using h.1));have e1:iz[k]?=some (.lv p'):=by simpa using e1
          refine⟨p',UX k b _ hk e1,?_⟩;have Pq:ids.getD b .dead=.lv p:=by rw[List.getD_eq_getElem?_getD,h2];rfl
          unfold NZ at e2;rw[Pq] at e2;split at e2
          ·rename_i q _ he;cases he;simp only[Value.pointer.injEq,Option.some.injEq,Addr.mk.injEq] at e2;exact e2.1.symm
          ·cases e2
          ·cases e2
         ·cases h1
        ·cases h1
      ·intro b b' p h1 h2 Pq;have h1:uB ρ jl go m iY b=some b':=h1;unfold uB at h1;split at h1
       ·rename_i hp;cases h1;exact⟨p,by rw[KP b (kA _ _ _ hp) (by rw[<-yu];exact aT h2)];exact h2,gU p⟩
       ·rename_i k hp;obtain⟨_,hk⟩:=fT _ _ _ _ hp;rw[Nat.sub_zero] at hk;split at h1
        ·rename_i X4 BE;cases h1;obtain⟨j,e1,e2⟩:=po _ _ _ X4;have hj:=aT e1
         have hva:gs[j]?=some (vs[j]'(by omega)):=by
          show(vs++ρ.map (NZ m ids))[j]?=_;rw[List.getElem?_append_left (by omega),List.getElem?_eq_getElem]
         have R1:=uz j hj (by omega);rw[List.getElem?_eq_getElem hj] at e1;rw[Option.some.inj e1] at R1;have R2:=RP j _ _ e2 hva;have RT:qw[k+1]?=some p:=by rw[rp k b hk];exact h2
         have jY:k<iz.length:=by have:=aT hk;omega
         have Uc:iz[k]?=some iz[k]:=List.getElem?_eq_getElem jY;refine⟨iz[k],UX k b _ hk Uc,?_⟩
         have U0:iz[k]?≠some .av:=by
          intro b1;rw[Uc] at b1;have b1:=Option.some.inj b1;have ox:=hr.bC (k+1) (by simp;omega) (by simp;omega);simp only[List.getElem_cons_succ,b1] at ox;have Pg:iY.getD k .dead=iY[k]'(by omega):=by rw[List.getD_eq_getElem?_getD,List.getElem?_eq_getElem];rfl
          rw[<-Pg] at ox;unfold xN at BE;split at BE
          ·rename_i xR qO;rw[qO] at ox;exact ox
          ·rename_i xR qO;rw[qO] at ox;exact ox
          ·rename_i xR qO;rw[qO] at ox;exact ox
          ·rename_i xR qO;rw[qO] at ox;exact ox
          ·cases BE
         rcases R1.jB with⟨a1,a2⟩|⟨p1,cap1,a1,a2,a3,a4⟩|⟨a1,_⟩
         rotate_right
         ·rw[RT] at a1;cases a1;obtain⟨p',q1,q2,q3,_⟩:=xQ b (List.mem_of_getElem? hk);rw[h2] at q1;cases q1;unfold xN at BE;split at BE
          ·rename_i xR qO;rw[xR] at q3;exact q3.elim
          ·rename_i xR qO;rw[xR] at q3;exact q3.elim
          ·rename_i xR qO;rw[xR] at q3;exact q3.elim
          ·rename_i xR qO;rw[xR] at q3;exact q3.elim
          ·cases BE
         ·rw[RT] at a1;cases a1;rcases R2.jB with⟨b1,b2⟩|⟨p2,RU,b1,b2,b3,b4⟩|⟨b1,_⟩
          rotate_right
          ·exact absurd (by simpa using b1) U0
          ·have b1:iz[k]?=some .aQ:=by simpa using b1
           rw[Uc] at b1;exact Option.some.inj b1
          ·rw[a2] at b4;cases b4
         ·rw[RT] at a1;cases a1;rcases R2.jB with⟨b1,b2⟩|⟨p2,RU,b1,b2,b3,b4⟩|⟨b1,_⟩
          rotate_right
          ·exact absurd (by simpa using b1) U0
          ·rw[a4] at b2;cases b2
          ·have b1:iz[k]?=some (.lv p2):=by simpa using b1
           rw[Uc] at b1;have b1:=Option.some.inj b1;rw[a4] at b4;simp only[Value.slice.injEq,Option.some.injEq,Addr.mk.injEq] at b4;obtain⟨⟨c1,_⟩,c2,c3⟩:=b4;obtain⟨p',q1,q2,q3,_⟩:=xQ b (List.mem_of_getElem? hk);rw[h2] at q1;cases q1;have ox:=hr.bC (k+1) (by simp;omega) (by simp;omega);simp only[List.getElem_cons_succ,b1] at ox;have Pg:iY.getD k .dead=iY[k]'(by omega):=by rw[List.getD_eq_getElem?_getD,List.getElem?_eq_getElem];rfl
           rw[<-Pg] at ox
           have bL:p2.sz=p1.sz:=by
            unfold xN at BE;split at BE
            ·rename_i xR qO;rw[xR] at q3;rw[qO] at ox;have:=Nat.eq_of_beq_eq_true BE;rw[ox.1,q3.1,this]
            ·rename_i xR qO;rw[xR] at q3;rw[qO] at ox;rw[ox.1,q3.1]
            ·rename_i xR qO;rw[xR] at q3;rw[qO] at ox;obtain⟨_,_,e9,_⟩:=ox;have:=Nat.eq_of_beq_eq_true BE;rw[e9,q3.1,this]
            ·rename_i xR qO;rw[xR] at q3;rw[qO] at ox;rw[ox.1,q3.1]
            ·cases BE
           rw[b1];exact⟨p2,rfl,c1.symm,by rw[<-b3,<-a3,bL,c3],c2.symm,bL⟩
        ·cases h1
      ·intro b b' p h1 h2;have h1:pn ρ go jl.length b=some b':=h1;unfold pn at h1;split at h1
       ·rename_i hp;cases h1;exact⟨p,by rw[KP b (kA _ _ _ hp) (by rw[<-yu];exact aT h2)];exact h2,rfl⟩
       ·rename_i k hp;obtain⟨_,hk⟩:=fT _ _ _ _ hp;rw[Nat.sub_zero] at hk;split at h1
        ·rename_i k' KX;split at h1
         ·rename_i gv;cases h1;have gv:=Nat.eq_of_beq_eq_true gv;subst gv
          have RR:go[jl.length+k]?=some (.omap (k+1)):=by
           rw[List.getD_eq_getElem?_getD] at KX;cases hx:go[jl.length+k]? with
           | none=>rw[hx] at KX;cases KX
           | some y=>rw[hx] at KX;simpa using KX
          obtain⟨p',e1,e2⟩:=(RP _ _ _ RR (UZ k b hk)).jh.resolve_right (fun h=>U0 k (by simpa using h.1));have e1:iz[k]?=some (.lv p'):=by simpa using e1
          refine⟨p',UX k b _ hk e1,?_⟩;have Pq:ids.getD b .dead=.lv p:=by rw[List.getD_eq_getElem?_getD,h2];rfl
          unfold NZ at e2;rw[Pq] at e2;split at e2
          ·cases e2
          ·rename_i q _ he;cases he;simp only[Value.map.injEq,Option.some.injEq] at e2;exact e2.symm
          ·cases e2
         ·cases h1
        ·cases h1
     refine hn _ _ _ _ w' jv h (aF.bf ?_ o.dst (dN hB (fun _ _=>rfl) hυ 4 _ _ (by simpa using hr.bI 0 (by simp) (by simp))))
     have X5:jv.length=(setMany ρ (iY.map (gV (bU (jH ρ m.length)) 4)) (m.map (gV ⟨pk ρ go jl.length,uB ρ jl go m iY,pn ρ go jl.length⟩ 4))++(iY.drop ρ.length).map (gV (bU (jH ρ m.length)) 4)).length:=by
      rw[<-AQ];simp[cm,yu,wM]
     have back:∀(k:Nat) x p,iY[k]?=some x->iz[k]?=some p->aX jv (au c jv w') w' (gV (bU (jH ρ m.length)) 4 x) p:=by
      intro k x p h1 h2;have g1:=aT h1;have g2:=aT h2;have:=hr.bC (k+1) (by simp;omega) (by simp;omega);simp only[List.getElem_cons_succ] at this;rw[List.getElem?_eq_getElem g1] at h1;rw[List.getElem?_eq_getElem g2] at h2;cases h1;cases h2;exact kz hB (fun _ _=>rfl) hυ 4 (fun _ _ _ _=>rfl) this
     refine⟨hs.defers,by simp[hs.len],?_,X5,?_,?_,?_,?_,hs.dZ,?_⟩
     ·intro i h1 h2;rw[List.getElem_map];exact dN hA hH hκ 4 _ _ (hs.bI i (by simpa using h1) h2)
     ·intro i h1 h2;have e2:jv[i]?=some jv[i]:=List.getElem?_eq_getElem h2;have e1:=List.getElem?_eq_getElem h1;generalize jv[i]=p at e2 ⊢;generalize Nu:(setMany ρ (iY.map (gV (bU (jH ρ m.length)) 4)) (m.map (gV ⟨pk ρ go jl.length,uB ρ jl go m iY,pn ρ go jl.length⟩ 4))++(iY.drop ρ.length).map (gV (bU (jH ρ m.length)) 4))[i]=x at e1 ⊢;rcases inv2 i p e2 with⟨g1,g2,g3⟩|⟨k,g1,g2|⟨g2,g3⟩⟩
      ·rw[List.getElem?_append_left (by rw[cm];simpa using g2),lB _ _ _ _ g1,List.getElem?_map,List.getElem?_eq_getElem g2] at e1;cases e1;have hb:=hs.bC i g2 (by rw[yu];exact g2);rw[List.getElem?_eq_getElem (by rw[yu];exact g2)] at g3;cases g3;refine kz hA hH hκ 4 ?_ hb;intro q hq y hy;obtain⟨f1,f2⟩:=De i q y g1 (by rw[List.getElem?_eq_getElem (by rw[yu];exact g2),hq]) hy;exact rq y f1 f2
      ·have RG:=(xi i (List.mem_of_getElem? g2)).2;have pF:k<iY.length:=by have:=aT g1;omega
       rw[List.getElem?_append_left (by rw[cm];simpa using RG),
        od ρ (iY.map (gV (bU (jH ρ m.length)) 4)) _ k i (gV (bU (jH ρ m.length)) 4 iY[k]) pH g2 (by rw[List.getElem?_map,List.getElem?_eq_getElem pF];rfl) (by simpa using RG)] at e1
       cases e1;exact back k _ p (List.getElem?_eq_getElem pF) g1
      ·have pF:k<iY.length:=by have:=aT g1;omega
       rw[g3,List.getElem?_append_right (by rw[cm];simp),cm,List.getElem?_map,List.getElem?_drop,List.length_map,
        show ρ.length+(m.length+(k-ρ.length)-m.length)=k by omega,List.getElem?_eq_getElem pF] at e1
       cases e1;exact back k _ p (List.getElem?_eq_getElem pF) g1
     ·intro i j p q x h1 h2 h3 h4
      have mix:∀(i:Nat) p (k:Nat) q,i∉ρ->ids[i]?=some (.lv p)->iz[k]?=some (.lv q)->p.has x->q.has x->False:=by
       intro i p k q g1 g2 g3 g4 g5;obtain⟨f1,f2⟩:=De i p x g1 g2 g4;rcases (hr.ar q (List.mem_cons_of_mem _ (List.mem_of_getElem? g3)) x g5).1 with f|f
       ·have f:w.heap.size<=x:=f;omega
       ·exact f2 f
      rcases inv2 i _ h1 with⟨g1,g2,g3⟩|⟨k,g1,g2⟩<;>rcases inv2 j _ h2 with⟨e1,e2,e3⟩|⟨k',e1,e2⟩
      ·exact hs.aj i j p q x g3 e3 h3 h4
      ·exact(mix i p k' q g1 g3 e1 h3 h4).elim
      ·exact(mix j q k p e1 e3 g1 h4 h3).elim
      ·have:=hr.aj (k+1) (k'+1) p q x (by simpa using g1) (by simpa using e1) h3 h4;have:k=k':=by omega
       subst this;rcases g2 with g2|⟨g2,g3⟩<;>rcases e2 with e2|⟨e2,e3⟩
       ·rw[g2] at e2;exact Option.some.inj e2
       ·have:=aT g2;omega
       ·have:=aT e2;omega
       ·omega
     ·intro p hp x hx;rcases RQ p hp x hx with⟨i,h1,h2⟩|⟨h1,h2,_⟩
      ·have:=hs.ar p (List.mem_of_getElem? h2) x hx;exact⟨this.1,by omega⟩
      ·exact⟨UY x h1,h2⟩
     ·refine hs.frame.go hr.frame.os hr.frame.tape hr.frame.output X3 (fun k hk hm=>?_) hr.frame.drawn;refine rq k (Nat.lt_of_lt_of_le hk hs.frame.size) (fun Ta=>?_);obtain⟨b,p,_,h2,h3⟩:=KU k Ta;rcases (hs.ar p (List.mem_of_getElem? h2) k h3).1 with f|f
      ·omega
      ·exact hm f
     ·intro dK FX;obtain⟨i,hi⟩:=List.getElem?_of_mem FX;rcases inv2 i _ hi with⟨_,_,h3⟩|⟨k,h1,_⟩
      ·exact hs.cE dK (List.mem_of_getElem? h3)
      ·have pF:k<iY.length:=by have:=aT h1;omega
       have:=hr.bC (k+1) (by simp;omega) (by simp;have:=aT h1;omega);simp only[List.getElem_cons_succ] at this;rw[List.getElem?_eq_getElem (aT h1)] at h1;rw[Option.some.inj h1] at this;have U1:=yR _ (List.getElem_mem pF);generalize iY[k]=x at this U1;cases x<;>first|exact this.elim|(rename_i cs;exact absurd rfl (U1 cs))|(have this:dT.cE dK=.dead:=this;cases this)|(have this:dT.cE dK=.av:=this;cases this)
    ·exact h.elim
   ·exact h.elim
  ·exact h.elim
 ·exact h.elim
end
section
variable {c:Ctx} {s:List A} {m:List aq} {a:Act} {w w':World} {ids ab:dE} {P:Program} {im bo:Nat->Prop} {tt:TT} {G:aG}
variable {next:Act->World->Prop} {Q:Exit->Act->World->Prop} {o:Oper}

/-- A row of ours, taken for a value that nobody writes. -/
theorem N4(hs:aF c s m a w ids){b:Nat}{v:Value}(hA:∀x,au c ids w x->bo x)(hZ:∀p,ids[b]?=some (.lv p)->∀x,p.has x->bo x)(hr:Rel ids (au c ids w) w (.own b) v):
  aw bo w (wk m 1 (.own b)) v:=by
 cases hr with
 | aI h=>cases h
 | kj b x n cap h=>simp only[wk,hs.dn h];exact .af _
 | fX b h =>
  simp only[wk];split
  ·rename_i ty sz n row hb;rcases nh hs (.fX b h) hb with⟨rfl,_,_⟩|⟨p,cap,g1,_⟩
   ·exact .sn _ _
   ·rw[h] at g1;cases g1
  ·rename_i hb
   have aD:b<ids.length:=by
    rcases Nat.lt_or_ge b ids.length with h'|h'
    ·exact h'
    ·rw[List.getElem?_eq_none h'] at h;cases h
   have:=hs.bC b (by rw[<-hs.aL];exact aD) aD;rw[List.getElem?_eq_getElem aD] at h
   have e:m[b]'(by rw[<-hs.aL];exact aD)=m.getD b .dead:=by
    rw[List.getD_eq_getElem?_getD,List.getElem?_eq_getElem (by rw[<-hs.aL];exact aD)];rfl
   rw[e,hb,Option.some.inj h] at this;have this:_=0:=this;subst this;split
   ·exact .sn _ _
   ·exact .af _
  ·rename_i ty agg sh n dB cs jA has val hb
   have aD:b<ids.length:=by
    rcases Nat.lt_or_ge b ids.length with h'|h'
    ·exact h'
    ·rw[List.getElem?_eq_none h'] at h;cases h
   have:=hs.bC b (by rw[<-hs.aL];exact aD) aD;rw[List.getElem?_eq_getElem aD] at h
   have e:m[b]'(by rw[<-hs.aL];exact aD)=m.getD b .dead:=by
    rw[List.getD_eq_getElem?_getD,List.getElem?_eq_getElem (by rw[<-hs.aL];exact aD)];rfl
   rw[e,hb,Option.some.inj h] at this;have this:_=0:=this;subst this;split
   ·exact .sn _ _
   ·exact .af _
  ·exact .af _
 | own b cap p h hn hm =>
  simp only[wk];split
  ·rename_i ty sz n row hb;obtain⟨x,lV,lJ⟩:=hs.eF h;rw[bj lV] at hb;subst hb;obtain⟨q1,q2,sd,g1,g2,g3,hl,g5⟩:=lJ;subst q1;subst q2
   have aD:∀i j,i<p.n->j<p.sz->i*p.sz+j<sd.size:=by
    intro i j hi hj;have:=Nat.mul_le_mul_right p.sz (show i+1<=p.n from hi);rw[Nat.add_mul] at this;omega
   refine .sl p.n p.sz row p.ao 0 cap (fun i j=>sd.getD (i*p.sz+j) undef) (hZ p h _ (.inl rfl)) hn.1 hl ?_ ?_ ?_
   ·intro i j hi hj;have hk:=aD i j hi hj;rw[Nat.zero_add,cell_of_row w p.ao _ sd ty (0,0) g1];simp[Array.getD_eq_getD_getElem?,hk]
   ·intro i j hi hj;have hk:=aD i j hi hj;have:=(g5 i j hi (by rw[hl i hi];exact hj) hk).2;simpa[Array.getD_eq_getD_getElem?,hk] using this
   ·intro i j hi hj;have hk:=aD i j hi (by rw[<-hl i hi];exact hj);have:=(g5 i j hi hj hk).1;simp only[Array.getD_eq_getD_getElem?,Array.getElem?_eq_getElem hk,Option.getD_some];exact this.mono hA (fun _ _=>rfl)
  ·rename_i ty aN sz n hole len row hb;split
   ·skip
    obtain⟨x,lV,lJ⟩:=hs.eF h;rw[bj lV] at hb;subst hb;obtain⟨q1,q2,q3,sd,g1,g2,g3,kb,g5⟩:=lJ;subst q2;refine .sl p.n 1 _ p.ao 0 cap (fun i j=>sd.getD (i*1+j) undef) (hZ p h _ (.inl rfl)) hn.1 (fun _ _=>rfl) ?_ ?_ ?_
    ·intro i j hi hj;rw[Nat.zero_add,cell_of_row w p.ao _ sd ty (0,0) g1];simp[Array.getD_eq_getD_getElem?,show i+j<sd.size by omega]
    ·intro i j hi hj;have KG:j=0:=by omega
     subst KG;have hk:i<sd.size:=by omega
     simp only[Nat.mul_one,Nat.add_zero,Array.getD_eq_getD_getElem?,Array.getElem?_eq_getElem hk,Option.getD_some];rcases (g5 i hi (by simp) hk).1 with⟨e,_⟩|⟨q,nM,dK,e,_⟩<;>rw[e]<;>rfl
    ·intro i j hi hj;have KG:j=0:=by simp at hj;omega
     subst KG;have hk:i<sd.size:=by omega
     simp only[Nat.mul_one,Nat.add_zero,Array.getD_eq_getD_getElem?,Array.getElem?_eq_getElem hk,Option.getD_some,List.getElem_cons_zero];obtain⟨k1,k2,_⟩:=g5 i hi (by simp) hk;rcases k1 with⟨e1,e2,_⟩|⟨q,nM,dK,e1,e2,e3,e4,e5,e6,e7,e8⟩
     ·rw[e1,e2];exact .sn _ _
     ·rw[e1]
      have aD:∀i' j,i'<len i->j<sz->i'*sz+j<dK.size:=by
       intro i' j bV hj;have h1:=Nat.mul_le_mul_right sz (show i'+1<=len i from bV);have h2:=Nat.mul_le_mul_right sz e5;rw[Nat.add_mul] at h1;omega
      refine .sl (len i) sz (row i) q 0 nM (fun i' j=>dK.getD (i'*sz+j) undef) (hZ p h _ (.inr (k2 q e2))) e5 e7 ?_ ?_ ?_
      ·intro i' j bV hj;have hk:=aD i' j bV hj;rw[Nat.zero_add,cell_of_row w q _ dK aN (0,0) e3];simp[Array.getD_eq_getD_getElem?,hk]
      ·intro i' j bV hj;have hk:=aD i' j bV hj;have:=(e8 i' j bV (by rw[e7 i' bV];exact hj) hk).2;simpa[Array.getD_eq_getD_getElem?,hk] using this
      ·intro i' j bV hj;have hk:=aD i' j bV (by rw[<-e7 i' bV];exact hj);have:=(e8 i' j bV hj hk).1;simp only[Array.getD_eq_getD_getElem?,Array.getElem?_eq_getElem hk,Option.getD_some];exact this.mono hA (fun _ _=>rfl)
   ·exact .af _
  ·rename_i ty agg sh n dB cs jA has val hb;split
   ·rename_i he;obtain⟨x,lV,lJ⟩:=hs.eF h;rw[bj lV] at hb;subst hb;exact AJ lJ he hn.1 hA (hZ p h)
   ·exact .af _
  ·exact .af _
theorem KY(hs:aF c s m a w ids){b:Nat}{v:Value}(hA:∀x,au c ids w x->bo x)(hZ:∀p,ids[b]?=some (.lv p)->∀x,p.has x->bo x)(hr:Rel ids (au c ids w) w (.omap b) v):
  aw bo w (wk m 1 (.omap b)) v:=by
 cases hr with
 | fS b x h=>simp only[wk,hs.dn h];exact .af _
 | aI h=>cases h
 | omap b p h =>
  simp only[wk];split
  ·rename_i g n key val hb;obtain⟨x,lV,lJ⟩:=hs.eF h;rw[bj lV] at hb;subst hb;obtain⟨es,clock,f,g1,g2,g3,g4,g5,g6,g7⟩:=lJ;exact .mv g n key val p.ao es clock f (hZ p h _ (.inl rfl)) g1 g2 g3 g4 (fun i hi=>(g5 i hi).mono hA (fun _ _=>rfl)) g6 g7
  ·exact .af _

def AR(b:Nat)(q:Option (List A))(y z:A):Nat->A->A
 | 0,_=>.af
 | d+1,x=>match x with
  | .ref b' o=>match Nat.beq b' b with
   | true=>match q with
    | some cs=>.bref cs o
    | none=>.af
   | false=>.ref b' o
  | .oref b' i o=>match Nat.beq b' b with
   | true=>.af
   | false=>.oref b' i o
  | .own b'=>match Nat.beq b' b with
   | true=>y
   | false=>.own b'
  | .omap b'=>match Nat.beq b' b with
   | true=>z
   | false=>.omap b'
  | .qZ _ _=>.af
  | .nw _ _=>.af
  | .agg cs=>.agg (cs.map (AR b q y z d))
  | .tup cs=>.tup (cs.map (AR b q y z d))
  | .fn f cs=>.fn f (cs.map (AR b q y z d))
  | x=>x
def KZ(b:Nat)(q:Option (List A))(y z:A)(d:Nat):aq->aq
 | .box ty cs=>.box ty (cs.map (AR b q y z d))
 | .ghost cs=>.ghost (cs.map (AR b q y z d))
 | .cM ty g sh n hi cs jA has val=>.cM ty g sh n hi (cs.map (AR b q y z d)) jA has val
 | x=>x
theorem lE{b:Nat}{q:Option (List A)}{y z:A}(hq:∀cs o v,q=some cs->Rel ids im w (.ref b o) v->aw bo w (.bref cs o) v)(hi:∀b,im b->bo b)(hd:∀(b':Nat) p,b'≠b->ids[b']?=some p->ab[b']?=some p)
  (hy:∀v,Rel ids im w (.own b) v->aw bo w y v) (FV:∀v,Rel ids im w (.omap b) v->aw bo w z v) :
  ∀(d:Nat) (x:A) (v:Value),Rel ids im w x v->Rel ab bo w (AR b q y z d x) v
 | 0,x,v,_=>.aI (.af _)
 | d+1,x,v,h=>by
  have keep:∀y,aw im w y v->Rel ab bo w y v:=fun y hy=>.aI (hy.mono hi (fun _ _=>rfl));cases x with
  | ref b' o =>
   simp only[AR];split
   ·rename_i hb;have:=Nat.eq_of_beq_eq_true hb;subst this;split
    ·exact .aI (hq _ _ _ rfl h)
    ·exact .aI (.af _)
   ·rename_i hb;rcases h.ic with⟨p,h1,rfl⟩|⟨h1,x,y,rfl⟩;rotate_left
    ·exact .ki _ _ x y (hd b' _ (fun e=>by subst e;simp at hb) h1)
    exact .ref _ _ p (hd b' _ (fun e=>by subst e;simp at hb) h1)
  | oref b' i o =>
   simp only[AR];split
   ·exact .aI (.af _)
   ·rename_i hb;rcases h.iy with⟨p,h1,rfl⟩|⟨h1,x,y,rfl⟩;rotate_left
    ·exact .gA _ _ _ x y (hd b' _ (fun e=>by subst e;simp at hb) h1)
    exact .oref _ _ _ p (hd b' _ (fun e=>by subst e;simp at hb) h1)
  | own b' =>
   simp only[AR];split
   ·rename_i hb;have:=Nat.eq_of_beq_eq_true hb;subst this;exact .aI (hy v h)
   ·rename_i hb;have hne:b'≠b:=fun e=>by subst e;simp at hb
    rcases h.jB with⟨h1,rfl⟩|⟨p,cap,h1,h2,h3,rfl⟩|⟨h1,x,n,cap,rfl⟩
    ·exact .fX _ (hd b' _ hne h1)
    ·exact .own _ cap p (hd b' _ hne h1) h2 h3
    ·exact .kj _ x n cap (hd b' _ hne h1)
  | omap b' =>
   simp only[AR];split
   ·rename_i hb;have:=Nat.eq_of_beq_eq_true hb;subst this;exact .aI (FV v h)
   ·rename_i hb;rcases h.jh with⟨p,h1,rfl⟩|⟨h1,x,rfl⟩;rotate_left
    ·exact .fS _ x (hd b' _ (fun e=>by subst e;simp at hb) h1)
    exact .omap _ p (hd b' _ (fun e=>by subst e;simp at hb) h1)
  | agg cs =>
   obtain⟨vs,rfl,hl,ho,hr⟩:=h.ig;exact .agg _ vs (by simpa using hl) ho (fun j h h'=>by rw[List.getElem_map];exact lE hq hi hd hy FV d _ _ (hr j (by simpa using h) h'))
  | tup cs =>
   obtain⟨vs,rfl,hl,hr⟩:=h.jC;exact .tup _ vs (by simpa using hl) (fun j h h'=>by rw[List.getElem_map];exact lE hq hi hd hy FV d _ _ (hr j (by simpa using h) h'))
  | fn f cs =>
   obtain⟨vs,rfl,hl,hr⟩:=h.gi;exact .fn f _ vs (by simpa using hl) (fun j h h'=>by rw[List.getElem_map];exact lE hq hi hd hy FV d _ _ (hr j (by simpa using h) h'))
  | int k n=>cases h with|aI h=>exact keep _ h
  | bool k=>cases h with|aI h=>exact keep _ h
  | sb k=>cases h with|aI h=>exact keep _ h
  | str k=>cases h with|aI h=>exact keep _ h
  | gH=>cases h with|aI h=>exact keep _ h
  | bref cs off=>cases h with|aI h=>exact keep _ h
  | aV=>cases h with|aI h=>exact keep _ h
  | sl n sz row=>cases h with|aI h=>exact keep _ h
  | bz=>cases h with|aI h=>exact keep _ h
  | fU=>cases h with|aI h=>exact keep _ h
  | mv g n k v=>cases h with|aI h=>exact keep _ h
  | af=>exact .aI (.af _)
  | qZ=>exact .aI (.af _)
  | nw=>exact .aI (.af _)

theorem aF.freeze(hs:aF c s m a w ids)(b:Nat)(q:Option (List A))(y z:A)(d:Nat)(hq:q=none\/∃ty cs,q=some cs/\m.getD b .dead=.box ty cs/\cs.any (cL 4)=false)(hy:y=wk m 1 (.own b)\/y=.af)(FV:z=wk m 1 (.omap b)\/z=.af):
  aF c (s.map (AR b q y z d)) ((m.map (KZ b q y z d)).set b .dead) a w (ids.set b .dead):=by
 have mem:∀(k:Nat) r,(ids.set b .dead)[k]?=some (dT.lv r)->k≠b/\ids[k]?=some (.lv r):=by
  intro k r h;rw[List.getElem?_set] at h;split at h
  ·split at h<;>cases h
  ·rename_i hne;exact⟨fun e=>hne e.symm,h⟩
 have aU:∀r,dT.lv r∈ids.set b .dead->∀x,r.has x->x<w.heap.size/\(w.heap.size<=x\/∃(b:Nat) (p:Id),ids[b]?=some (.lv p)/\p.has x):=by
  intro r hr x hx;obtain⟨k,hk⟩:=List.getElem?_of_mem hr;obtain⟨_,e⟩:=mem k r hk;exact⟨(hs.ar r (List.mem_of_getElem? e) x hx).2,.inr ⟨k,r,e,hx⟩⟩
 obtain⟨dJ,dB⟩:=hs.cP (w':=w) (ab:=ids.set b .dead) (Nat.le_refl _) (fun _ _ _=>rfl) aU
 have hZ:∀p,ids[b]?=some (.lv p)->∀x,p.has x->au c (ids.set b .dead) w x:=by
  intro p hp x hx;have hf:=hs.ar p (List.mem_of_getElem? hp) x hx;refine .inr ⟨hf.1,hf.2,fun q hq EL=>?_⟩;obtain⟨k,hk⟩:=List.getElem?_of_mem hq;obtain⟨e1,e2⟩:=mem k q hk;exact e1 (hs.aj k b q p x e2 hp EL hx)
 have hd:∀(b':Nat) p,b'≠b->ids[b']?=some p->(ids.set b .dead)[b']?=some p:=by
  intro b' p hne h;rw[List.getElem?_set_ne (fun e=>hne e.symm)];exact h
 have LL:∀cs o v,q=some cs->Rel ids (au c ids w) w (.ref b o) v->aw (au c (ids.set b .dead) w) w (.bref cs o) v:=by
  intro cs o v he hv;rcases hq with h|⟨ty,db,h,K0,lW⟩
  ·rw[h] at he;cases he
  ·rw[h] at he;cases he;obtain⟨p,bZ,rfl⟩:=hs.xA hv (by rw[K0];simp);obtain⟨vs,h1,h2,h3,h4⟩:=hs.sS bZ K0
   have:=aw.bref (im:=au c (ids.set b .dead) w) (w:=w) p.ao 0 o cs (fun j=>vs.getD j undef) (hZ p bZ _ (.inl rfl))
    (fun j hj=>by have:=h2 j (by omega);simpa[List.getD_eq_getElem?_getD,show j<vs.length by omega] using this)
    (fun j hj=>by have:=h3 _ (List.getElem_mem (show j<vs.length by omega));simpa[List.getD_eq_getElem?_getD,show j<vs.length by omega] using this)
    (fun j hj=>by
     have g1:cL 4 cs[j]=false:=by
      have:=List.any_eq_false.1 lW _ (List.getElem_mem hj);simpa using this
     have g2:=cz 4 _ _ g1 (h4 j hj (by omega));have g3:=g2.mono dJ (fun _ _=>rfl);simpa[List.getD_eq_getElem?_getD,show j<vs.length by omega] using g3)
   simpa using this
 have VY:∀v,Rel ids (au c ids w) w (.own b) v->aw (au c (ids.set b .dead) w) w y v:=by
  intro v hv;rcases hy with h|h
  ·rw[h];exact N4 hs dJ hZ hv
  ·rw[h];exact .af _
 have Oa:∀v,Rel ids (au c ids w) w (.omap b) v->aw (au c (ids.set b .dead) w) w z v:=by
  intro v hv;rcases FV with h|h
  ·rw[h];exact KY hs dJ hZ hv
  ·rw[h];exact .af _
 refine hs.lU rfl rfl rfl (Nat.le_refl _) (fun _ _ _=>rfl) aU (fun vs h=>by
  rcases List.mem_or_eq_of_mem_set h with h|h
  ·exact h
  ·cases h) ?_ (by simp) (by simp[hs.aL]) ?_ ?_
 ·intro k k' r r' x e1 e2 x1 x2;exact hs.aj k k' r r' x (mem k r e1).2 (mem k' r' e2).2 x1 x2
 ·intro k h h';rw[List.getElem_map];exact lE LL dJ hd VY Oa d _ _ (hs.bI k (by simpa using h) h')
 ·intro k hk gv;simp only[List.length_set,List.length_map] at hk gv;rw[List.getElem_set,List.getElem_set];split
  ·exact rfl
  ·rename_i he;rw[List.getElem_map];have hB:=hs.bC k hk gv;cases hm:m[k] with
   | box ty cs =>
    rw[hm] at hB;cases hp:ids[k] with
    | dead=>rw[hp] at hB;exact hB.elim
    | av=>rw[hp] at hB;exact hB.elim
    | aQ=>rw[hp] at hB;exact hB.elim
    | cE vs=>rw[hp] at hB;exact hB.elim
    | lv p =>
     rw[hp] at hB;obtain⟨vs,g1,g2,g3,g4⟩:=hB;refine⟨vs,g1,g2,by simpa using g3,?_⟩;intro j hj cj;have:=g4 j (by simpa using hj) cj;rw[List.getElem_map];exact⟨lE LL dJ hd VY Oa d _ _ this.1,this.2⟩
   | dead=>rw[hm] at hB;exact hB
   | gone=>rw[hm] at hB;exact hB
   | ghost cs =>
    rw[hm] at hB;cases hp:ids[k] with
    | dead=>rw[hp] at hB;exact hB.elim
    | av=>rw[hp] at hB;exact hB.elim
    | aQ=>rw[hp] at hB;exact hB.elim
    | lv p=>rw[hp] at hB;exact hB.elim
    | cE vs =>
     rw[hp] at hB;refine⟨by simpa using hB.1,fun j hj cj=>?_⟩;rw[List.getElem_map];exact lE LL dJ hd VY Oa d _ _ (hB.2 j (by simpa using hj) cj)
   | row ty sz n row=>rw[hm] at hB;exact aX.mM (ids:=[]) (ab:=_) dJ dB (fun _ _ h=>by simp at h) (fun _ _ _ _=>rfl) (by cases h:ids[k]<;>rw[h] at hB<;>exact hB)
   | nest ty aN sz n ho le row=>rw[hm] at hB;exact aX.mM (ids:=[]) (ab:=_) dJ dB (fun _ _ h=>by simp at h) (fun _ _ _ _=>rfl) (by cases h:ids[k]<;>rw[h] at hB<;>exact hB)
   | eP g n key val=>rw[hm] at hB;exact aX.mM (ids:=[]) (ab:=_) dJ dB (fun _ _ h=>by simp at h) (fun _ _ _ _=>rfl) (by cases h:ids[k]<;>rw[h] at hB<;>exact hB)
   | o7 g n key val=>rw[hm] at hB;exact aX.mM (ids:=[]) (ab:=_) dJ dB (fun _ _ h=>by simp at h) (fun _ _ _ _=>rfl) (by cases h:ids[k]<;>rw[h] at hB<;>exact hB)
   | cM ty g sh n dB cs jA has val =>
    rw[hm] at hB;cases hp:ids[k] with
    | dead=>rw[hp] at hB;exact hB.elim
    | av=>rw[hp] at hB;exact hB.elim
    | aQ=>rw[hp] at hB;exact hB
    | cE vs=>rw[hp] at hB;exact hB.elim
    | lv p =>
     rw[hp] at hB;exact mG (AR b q y z d) (fun _ _=>rfl) (fun _ _ h=>h.mono dJ (fun _ _=>rfl)) (fun x v h=>lE LL dJ hd VY Oa d x v h) hB
   | bF ty sz n Φ=>rw[hm] at hB;exact aX.mM (ids:=[]) (ab:=_) dJ dB (fun _ _ h=>by simp at h) (fun _ _ _ _=>rfl) (by cases h:ids[k]<;>rw[h] at hB<;>exact hB)
   | GB g n key val se=>rw[hm] at hB;exact aX.mM (ids:=[]) (ab:=_) dJ dB (fun _ _ h=>by simp at h) (fun _ _ _ _=>rfl) (by cases h:ids[k]<;>rw[h] at hB<;>exact hB)

def Ob(b:Nat)(s:List A)(m:List aq)(K:List A->List aq->Prop):Prop :=
 match m.getD b .dead with
 | .row _ sz n row=>fd.qp 4 (s.map (AR b none (.sl n sz row) .af 4)) fun s'=>qt ((m.map (KZ b none (.sl n sz row) .af 4)).set b .dead) fun m'=>K s' m'
 | .nest _ _ sz n hole len row=>match hole with
  | none=>fd.qp 4 (s.map (AR b none (.sl n 1 fun i=>[.sl (len i) sz (row i)]) .af 4)) fun s'=>qt ((m.map (KZ b none (.sl n 1 fun i=>[.sl (len i) sz (row i)]) .af 4)).set b .dead) fun m'=>K s' m'
  | some _=>False
 | .eP g n key val=>fd.qp 4 (s.map (AR b none .af (.mv g n key val) 4)) fun s'=>qt ((m.map (KZ b none .af (.mv g n key val) 4)).set b .dead) fun m'=>K s' m'
 | .box _ cs=>match cs.any (cL 4) with
  | false=>fd.qp 4 (s.map (AR b (some cs) .af .af 4)) fun s'=>qt ((m.map (KZ b (some cs) .af .af 4)).set b .dead) fun m'=>K s' m'
  | true=>False
 | _=>False
theorem uC(hs:aF c s m a w ids){b:Nat}{K:List A->List aq->Prop}(h:Ob b s m K):∃s' m' ab,K s' m'/\aF c s' m' a w ab:=by
 unfold Ob at h;split at h
 ·rename_i ty sz n row hb;rw[cK,dQ] at h;exact⟨_,_,_,h,hs.freeze b none _ _ 4 (.inl rfl) (.inl (by simp only[wk,hb])) (.inr rfl)⟩
 ·rename_i ty aN sz n hole len row hb;split at h
  ·rw[cK,dQ] at h;exact⟨_,_,_,h,hs.freeze b none _ _ 4 (.inl rfl) (.inl (by simp only[wk,hb])) (.inr rfl)⟩
  ·exact h.elim
 ·rename_i g n key val hb;rw[cK,dQ] at h;exact⟨_,_,_,h,hs.freeze b none _ _ 4 (.inl rfl) (.inr rfl) (.inl (by simp only[wk,hb]))⟩
 ·rename_i ty cs hb;split at h
  ·rename_i aU;rw[cK,dQ] at h;exact⟨_,_,_,h,hs.freeze b (some cs) _ _ 4 (.inr ⟨ty,cs,rfl,hb,aU⟩) (.inr rfl) (.inr rfl)⟩
  ·exact h.elim
 ·exact h.elim
def oZ:List Nat->List A->List aq->(List A->List aq->Prop)->Prop
 | [],s,m,K=>K s m
 | b::bs,s,m,K=>Ob b s m fun s' m'=>oZ bs s' m' K
theorem gZ:∀(bs:List Nat) {s:List A} {m:List aq} {ids:dE} {K:List A->List aq->Prop},aF c s m a w ids->oZ bs s m K->∃s' m' ab,K s' m'/\aF c s' m' a w ab
 | [],s,m,ids,K,hs,h=>⟨s,m,ids,h,hs⟩
 | b::bs,s,m,ids,K,hs,h=>by
  obtain⟨s',m',ab,h',bH⟩:=uC hs h;exact gZ bs bH h'
end
section
variable {c:Ctx} {s:List A} {m:List aq} {a:Act} {w w':World} {ids ab:dE} {P:Program} {im bo:Nat->Prop} {tt:TT} {G:aG}
variable {next:Act->World->Prop} {Q:Exit->Act->World->Prop} {o:Oper}

theorem Rel.fK{b:Nat}(hi:∀b,im b->bo b)(hw:∀b,im b->w'.heap[b]?=w.heap[b]?)(hd:∀(b':Nat) p,b'≠b->ids[b']?=some p->p≠.dead->∃q,ab[b']?=some q/\iN p q)
  (hb:ab[b]?=some .av) {x:A} {v:Value} (h:Rel ids im w x v):Rel ab bo w' x v:=by
 have st:∀b1,b1≠b->ids[b1]?=some .av->ab[b1]?=some .av:=fun b1 e h=>by
  obtain⟨q,h1,h2⟩:=hd _ _ e h (by simp);have h2:q=.av:=h2;rw[h1,h2]
 induction h with
 | aI h=>exact .aI (h.mono hi hw)
 | ref b1 off p h =>
  by_cases e:b1=b
  ·subst e;exact .ki _ _ _ _ hb
  ·obtain⟨q,h1,p',rfl,h2⟩:=hd _ _ e h (by simp);rw[<-h2.1];exact .ref _ off p' h1
 | oref b1 i off p h =>
  by_cases e:b1=b
  ·subst e;exact .gA _ _ _ _ _ hb
  ·obtain⟨q,h1,p',rfl,h2⟩:=hd _ _ e h (by simp);rw[<-h2.1,<-h2.2.2.2.1];exact .oref _ i off p' h1
 | fX b1 h =>
  by_cases e:b1=b
  ·subst e;exact .kj _ _ _ _ hb
  ·obtain⟨q,h1,h2⟩:=hd _ _ e h (by simp);have h2:q=.aQ:=h2;subst h2;exact .fX _ h1
 | own b1 cap p h hn hm =>
  by_cases e:b1=b
  ·subst e;exact .kj _ _ _ _ hb
  ·obtain⟨q,h1,p',rfl,h2⟩:=hd _ _ e h (by simp);rw[<-h2.1,<-h2.2.2.1];exact .own _ cap p' h1 (by rw[h2.2.2.1];exact hn) (by rw[h2.2.1,h2.2.2.2.1];exact hm)
 | kj b1 x n cap h =>
  by_cases e:b1=b
  ·subst e;exact .kj _ _ _ _ hb
  ·exact .kj _ _ _ _ (st _ e h)
 | ki b1 off x y h =>
  by_cases e:b1=b
  ·subst e;exact .ki _ _ _ _ hb
  ·exact .ki _ _ _ _ (st _ e h)
 | gA b1 i off x y h =>
  by_cases e:b1=b
  ·subst e;exact .gA _ _ _ _ _ hb
  ·exact .gA _ _ _ _ _ (st _ e h)
 | fS b1 x h =>
  by_cases e:b1=b
  ·subst e;exact .fS _ _ hb
  ·exact .fS _ _ (st _ e h)
 | omap b1 p h =>
  by_cases e:b1=b
  ·subst e;exact .fS _ _ hb
  ·obtain⟨q,h1,p',rfl,h2⟩:=hd _ _ e h (by simp);rw[<-h2.1];exact .omap _ p' h1
 | qZ b1 k p n h hn =>
  by_cases e:b1=b
  ·subst e;exact .qh _ _ _ hb
  ·obtain⟨q,h1,p',rfl,h2⟩:=hd _ _ e h (by simp);exact .qZ _ _ p' n h1 (h2.2.2.2.2 _ _ hn)
 | qh b1 k n h =>
  by_cases e:b1=b
  ·subst e;exact .qh _ _ _ hb
  ·exact .qh _ _ _ (st _ e h)
 | nw b1 k cap x p h hx =>
  by_cases e:b1=b
  ·subst e;exact .nT _ _ _ _ _ hb
  ·obtain⟨q,h1,p',rfl,h2⟩:=hd _ _ e h (by simp);rw[<-h2.1,<-h2.2.2.1];exact .nw _ k cap x p' h1 (by rw[h2.2.2.1,h2.2.2.2.1];exact hx)
 | qi b1 k h =>
  by_cases e:b1=b
  ·subst e;exact .nT _ _ _ _ _ hb
  ·obtain⟨q,h1,h2⟩:=hd _ _ e h (by simp);have h2:q=.aQ:=h2;subst h2;exact .qi _ _ h1
 | nT b1 k x n cap h =>
  by_cases e:b1=b
  ·subst e;exact .nT _ _ _ _ _ hb
  ·exact .nT _ _ _ _ _ (st _ e h)
 | agg cs vs hl ho hr ih=>exact .agg cs vs hl ho ih
 | tup cs vs hl hr ih=>exact .tup cs vs hl ih
 | fn f cs vs hl hr ih=>exact .fn f cs vs hl ih

theorem aX.fK{b:Nat}(hi:∀b,im b->bo b)(hw:∀b,im b->w'.heap[b]?=w.heap[b]?)(hd:∀(b':Nat) p,b'≠b->ids[b']?=some p->p≠.dead->∃q,ab[b']?=some q/\iN p q)
  (hb:ab[b]?=some .av) {x:aq} {p:dT} (hp:∀q,p=.lv q->∀k,q.has k->w'.heap[k]?=w.heap[k]?) (h:aX ids im w x p):aX ab bo w' x p:=by
 cases x with
 | box ty cs =>
  cases p with
  | dead=>exact h
  | av=>exact h
  | aQ=>exact h
  | cE vs=>exact h
  | lv q =>
   obtain⟨vs,h1,h2,h3,h4⟩:=h;exact⟨vs,by rw[hp _ rfl _ (.inl rfl)];exact h1,h2,h3,fun j h h'=>⟨(h4 j h h').1.fK hi hw hd hb,(h4 j h h').2⟩⟩
 | dead=>exact h
 | gone=>exact h
 | row ty sz n row=>have h:=aX.mono (ids:=ids) (ab:=ids) hi hw (fun _ _ h _=>h) hp h;cases p<;>exact h
 | nest ty aN sz n ho le row=>have h:=aX.mono (ids:=ids) (ab:=ids) hi hw (fun _ _ h _=>h) hp h;cases p<;>exact h
 | eP g n k v=>have h:=aX.mono (ids:=ids) (ab:=ids) hi hw (fun _ _ h _=>h) hp h;cases p<;>exact h
 | o7 g n k v=>have h:=aX.mono (ids:=ids) (ab:=ids) hi hw (fun _ _ h _=>h) hp h;cases p<;>exact h
 | GB g n k v se=>have h:=aX.mono (ids:=ids) (ab:=ids) hi hw (fun _ _ h _=>h) hp h;cases p<;>exact h
 | bF ty sz n Φ=>have h:=aX.mono (ids:=ids) (ab:=ids) hi hw (fun _ _ h _=>h) hp h;cases p<;>exact h
 | cM ty g sh n dB cs jA has val =>
  cases p with
  | dead=>exact h
  | av=>exact h
  | aQ=>exact h
  | cE vs=>exact h
  | lv q=>exact qj (hp _ rfl) (fun _ _ h=>h.mono hi hw) (fun _ _ h=>h.fK hi hw hd hb) h
 | ghost cs =>
  cases p with
  | dead=>exact h
  | av=>exact h
  | aQ=>exact h
  | lv q=>exact h
  | cE vs=>exact⟨h.1,fun j h1 h2=>(h.2 j h1 h2).fK hi hw hd hb⟩

/-- Block b is gone; what it was, changed, lies at a place that was kept. -/
theorem aF.xT(hs:aF c s m a w ids)(b aA:Nat)(hb:b<m.length)(ly:m[b]?≠some .dead)(dO:m[aA]?=some .dead)(q:dT)(x:aq)
  (Pj:w'.os=w.os) (UK:w'.tape=w.tape) (UL:w'.output=w.output) (bL:w.heap.size<=w'.heap.size)
  (fI:∀k,k<w.heap.size->(∀p,ids[b]?=some (.lv p)->¬p.has k)->w'.heap[k]?=w.heap[k]?)
  (XI:∀vs,q≠.cE vs)
  (hq:∀p',q=.lv p'->∀x,p'.has x->x<w'.heap.size/\(w.heap.size<=x\/∃p,ids[b]?=some (.lv p)/\p.has x))
  (hx:(∀u v,aw (au c ids w) w u v->aw (au c ((ids.set b .av).set aA q) w') w' u v)->aX ((ids.set b .av).set aA q) (au c ((ids.set b .av).set aA q) w') w' x q)
  (yM:eM w.drawn w'.drawn:=by exact eM.refl _) :
  aF c s ((m.set b .gone).set aA x) a w' ((ids.set b .av).set aA q):=by
 have eR:b<ids.length:=by rw[hs.aL];exact hb
 obtain⟨U2,X6⟩:=List.getElem?_eq_some_iff.1 dO;have RV:aA<ids.length:=by rw[hs.aL];exact U2
 have VZ:ids[aA]?=some .dead:=by
  have:=hs.bC aA U2 RV;rw[X6] at this;rw[List.getElem?_eq_getElem RV,show ids[aA]=.dead from this]
 have yw:aA≠b:=fun e=>by subst e;exact ly dO
 have bG:∀k,k≠aA->k≠b->((ids.set b .av).set aA q)[k]?=ids[k]?:=by
  intro k hk hne;rw[List.getElem?_set_ne (fun e=>hk e.symm),List.getElem?_set_ne (fun e=>hne e.symm)]
 have dS:((ids.set b .av).set aA q)[b]?=some .av:=by rw[List.getElem?_set_ne yw,List.getElem?_set_self eR]
 have jG:((ids.set b .av).set aA q)[aA]?=some q:=by rw[List.getElem?_set_self (by simpa using RV)]
 have bg:∀(k:Nat) (r:Id),((ids.set b .av).set aA q)[k]?=some (.lv r)->(k=aA/\q=.lv r)\/(k≠b/\k≠aA/\ids[k]?=some (.lv r)):=by
  intro k r h;by_cases RW:k=aA
  ·subst RW;rw[jG] at h;exact .inl ⟨rfl,Option.some.inj h⟩
  ·by_cases qv:k=b
   ·subst qv;rw[dS] at h;cases h
   ·rw[bG k RW qv] at h;exact .inr ⟨qv,RW,h⟩
 have aU:∀r,dT.lv r∈((ids.set b .av).set aA q)->∀y,r.has y->y<w'.heap.size/\(w.heap.size<=y\/∃(b:Nat) (p:Id),ids[b]?=some (.lv p)/\p.has y):=by
  intro r hr y hy;obtain⟨k,hk⟩:=List.getElem?_of_mem hr;rcases bg k r hk with⟨_,e⟩|⟨_,_,e⟩
  ·obtain⟨h1,h2⟩:=hq r e y hy;exact⟨h1,h2.imp id fun⟨p,h3,h4⟩=>⟨b,p,h3,h4⟩⟩
  ·exact⟨Nat.lt_of_lt_of_le (hs.ar r (List.mem_of_getElem? e) y hy).2 bL,.inr ⟨k,r,e,hy⟩⟩
 have U3:∀k,k<w.heap.size->(∀(b:Nat) (p:Id),ids[b]?=some (.lv p)->¬p.has k)->w'.heap[k]?=w.heap[k]?:=fun k hk h=>fI k hk (fun p hp=>h b p hp);obtain⟨dJ,dB⟩:=hs.cP (w':=w') (ab:=(ids.set b .av).set aA q) bL U3 aU
 have hd:∀(b':Nat) r,b'≠b->ids[b']?=some r->r≠.dead->∃q',((ids.set b .av).set aA q)[b']?=some q'/\iN r q':=by
  intro b' r sN hr Hr;exact⟨r,by rw[bG b' (fun e=>by subst e;rw[VZ] at hr;exact Hr (Option.some.inj hr).symm) sN];exact hr,eU r⟩
 refine hs.lU (yM:=yM) Pj UK UL bL U3 aU (fun vs h=>?_) ?_ rfl (by simp[hs.aL]) (fun i h h'=>(hs.bI i h h').fK dJ dB hd dS) ?_
 ·rcases List.mem_or_eq_of_mem_set h with h|h
  ·rcases List.mem_or_eq_of_mem_set h with h|h
   ·exact h
   ·cases h
  ·exact absurd h.symm (XI vs)
 ·intro k k' r r' y e1 e2 x1 x2;rcases bg k r e1 with⟨rfl,e⟩|⟨ne,_,e⟩<;>rcases bg k' r' e2 with⟨rfl,e'⟩|⟨ne',_,e'⟩
  ·rfl
  ·rcases (hq r e y x1).2 with h|⟨p,h1,h2⟩
   ·have:=(hs.ar r' (List.mem_of_getElem? e') y x2).2;omega
   ·exact absurd (hs.aj _ _ p r' y h1 e' h2 x2).symm ne'
  ·rcases (hq r' e' y x2).2 with h|⟨p,h1,h2⟩
   ·have:=(hs.ar r (List.mem_of_getElem? e) y x1).2;omega
   ·exact absurd (hs.aj _ _ r p y e h1 x1 h2) ne
  ·exact hs.aj k k' r r' y e e' x1 x2
 ·intro k hk gv;simp only[List.length_set] at hk;have gJ:((ids.set b .av).set aA q)[k]?=some ((ids.set b .av).set aA q)[k]:=List.getElem?_eq_getElem gv;rw[List.getElem_set];split
  ·rename_i he;subst he;rw[jG] at gJ;rw[<-Option.some.inj gJ];exact hx (fun u v h=>h.mono dJ dB)
  ·rename_i X7;rw[List.getElem_set];split
   ·rename_i he;subst he;rw[dS] at gJ;rw[<-Option.some.inj gJ];exact rfl
   ·rename_i he;have pj:k<ids.length:=by rw[hs.aL];exact hk
    rw[bG k (fun e=>X7 e.symm) (fun e=>he e.symm),List.getElem?_eq_getElem pj] at gJ;rw[<-Option.some.inj gJ];refine(hs.bC k hk pj).fK dJ dB hd dS ?_;intro q' LL y hy;have UM:ids[k]?=some (.lv q'):=by rw[List.getElem?_eq_getElem pj,LL]
    refine fI y (hs.ar q' (List.mem_of_getElem? UM) y hy).2 (fun p0 Qm e=>?_);exact he (hs.aj b k p0 q' y Qm UM e hy)
/-- A nest from which an inner row is taken. -/
theorem aF.RX(hs:aF c s m a w ids){b i:Nat}{aA:Nat}(dO:m[aA]?=some .dead){ty aN:TypeId}{sz n:Nat}{len:Nat->Nat}{row:Nat->Nat->List A}(hb:m.getD b .dead=.nest ty aN sz n none len row)(hi:i<n):
  ∃p vs ab v,ids[b]?=some (.lv p)/\w.heap[p.ao]?=some (.cells vs ty (0,0))/\vs[i]?=some v/\p.sz=1 /\
   aF c s ((m.set b (.nest ty aN sz n (some i) len row)).set aA (.row aN sz (len i) (row i))) a w ab/\Rel ab (au c ab w) w (.own aA) v:=by
 obtain⟨p,bZ,hB,ly,eR⟩:=ph hs hb (by omega);obtain⟨g1,g2,g3,vs,h1,h2,h3,kb,h4⟩:=hB;have xL:i<vs.size:=by omega
 obtain⟨k1,k2,k3⟩:=h4 i hi (by simp) xL
 -- the new names
 let p':Id:=⟨p.ao,p.k,p.n,p.sz,fun x=>p.Ay x/\kb i≠some x,p.uc⟩
 have mO:∀x,p'.has x->p.has x:=by
  rintro x (h|h)
  ·exact .inl h
  ·exact .inr h.1
 have hq:∃q:dT,(∀q',q=.lv q'->∀x,q'.has x->kb i=some x)/\(∀im w',(∀x,kb i=some x->w'.heap[x]?=w.heap[x]?)->(∀u v,aw (au c ids w) w u v->aw im w' u v)->∀ab,aX ab im w' (.row aN sz (len i) (row i)) q) /\
   (∀ab im w' k,ab[k]?=some q->Rel ab im w' (.own k) vs[i]):=by
  rcases k1 with⟨e1,e2,e3⟩|⟨q,cap,us,e1,e2,e3,e4,e5,e6,e7,e8⟩
  ·exact⟨.aQ,(fun q' h=>by cases h),(fun _ _ _ _ _=>e2),(fun ab im w' k h=>by rw[e1];exact .fX k h)⟩
  ·refine⟨.lv (mkId q us.size (len i) sz),(fun q' h x hx=>by cases h;rw[cw hx];exact e2),?_,?_⟩
   ·intro im w' hk hm ab;refine⟨rfl,rfl,us,by show w'.heap[q]?=_;rw[hk q e2];exact e3,rfl,?_,e7,fun i' j bV h h'=>⟨hm _ _ (e8 i' j bV h h').1,(e8 i' j bV h h').2⟩⟩;show len i*sz<=us.size;rw[e4];exact Nat.mul_le_mul_right _ e5
   ·intro ab im w' k h;rw[e1];exact .own k cap (mkId q us.size (len i) sz) h ⟨e5,e6⟩ e4.symm
 obtain⟨q,Bv,D4,XW⟩:=hq;obtain⟨U2,X6⟩:=List.getElem?_eq_some_iff.1 dO;have RV:aA<ids.length:=by rw[hs.aL];exact U2
 have VZ:ids[aA]?=some .dead:=by
  have:=hs.bC aA U2 RV;rw[X6] at this;rw[List.getElem?_eq_getElem RV,show ids[aA]=.dead from this]
 have yw:aA≠b:=fun e=>by subst e;rw[VZ] at bZ;cases bZ
 let ab:=(ids.set b (.lv p')).set aA q
 have NN:ab.length=ids.length:=by simp[ab]
 have bG:∀k,k≠aA->k≠b->ab[k]?=ids[k]?:=by
  intro k hk hne;simp only[ab];rw[List.getElem?_set_ne (fun e=>hk e.symm),List.getElem?_set_ne (fun e=>hne e.symm)]
 have dS:ab[b]?=some (.lv p'):=by
  simp only[ab];rw[List.getElem?_set_ne yw,List.getElem?_set_self eR]
 have jG:ab[aA]?=some q:=by
  simp only[ab];rw[List.getElem?_set_self (by simpa using RV)]
 have bg:∀(k:Nat) (r:Id),ab[k]?=some (.lv r)->(k=b/\r=p')\/(k=aA/\q=.lv r)\/(k≠b/\k≠aA/\ids[k]?=some (.lv r)):=by
  intro k r h;by_cases RW:k=aA
  ·subst RW;rw[jG] at h;exact .inr (.inl ⟨rfl,Option.some.inj h⟩)
  ·by_cases qv:k=b
   ·subst qv;rw[dS] at h;cases h;exact .inl ⟨rfl,rfl⟩
   ·rw[bG k RW qv] at h;exact .inr (.inr ⟨qv,RW,h⟩)
 have aU:∀r,dT.lv r∈ab->∀x,r.has x->x<w.heap.size/\(w.heap.size<=x\/∃(b:Nat) (p:Id),ids[b]?=some (.lv p)/\p.has x):=by
  intro r hr x hx;obtain⟨k,hk⟩:=List.getElem?_of_mem hr;rcases bg k r hk with⟨_,rfl⟩|⟨_,e⟩|⟨_,_,e⟩
  ·exact⟨(hs.ar p (List.mem_of_getElem? bZ) x (mO x hx)).2,.inr ⟨b,p,bZ,mO x hx⟩⟩
  ·have EL:p.has x:=.inr (k2 x (Bv r e x hx));exact⟨(hs.ar p (List.mem_of_getElem? bZ) x EL).2,.inr ⟨b,p,bZ,EL⟩⟩
  ·exact⟨(hs.ar r (List.mem_of_getElem? e) x hx).2,.inr ⟨k,r,e,hx⟩⟩
 obtain⟨dJ,dB⟩:=hs.cP (w':=w) (ab:=ab) (Nat.le_refl _) (fun _ _ _=>rfl) aU
 have hd:∀(b':Nat) r,ids[b']?=some r->r≠.dead->∃q,ab[b']?=some q/\iN r q:=by
  intro b' r hr Hr;by_cases sN:b'=b
  ·subst sN;rw[bZ] at hr;cases hr;exact⟨_,dS,p',rfl,rfl,rfl,rfl,rfl,fun _ _ h=>h⟩
  ·exact⟨r,by rw[bG b' (fun e=>by subst e;rw[VZ] at hr;exact Hr (Option.some.inj hr).symm) sN];exact hr,eU r⟩
 have lN:∀u v,aw (au c ids w) w u v->aw (au c ab w) w u v:=fun u v h=>h.mono dJ dB;refine⟨p,vs,ab,vs[i],bZ,h1,Array.getElem?_eq_getElem xL,g1,?_,XW _ _ _ _ jG⟩
 have XX:∀vs,q≠.cE vs:=fun vs e=>by
  have:=D4 (au c ids w) w (fun _ _=>rfl) (fun _ _ h=>h) [];rw[e] at this;exact this
 refine hs.lU rfl rfl rfl (Nat.le_refl _) (fun _ _ _=>rfl) aU (fun vs h=>by
  simp only[ab] at h;rcases List.mem_or_eq_of_mem_set h with h|h
  ·rcases List.mem_or_eq_of_mem_set h with h|h
   ·exact h
   ·cases h
  ·exact absurd h.symm (XX vs)) ?_ rfl (by simp[ab,hs.aL]) (fun i h h'=>(hs.bI i h h').mM dJ dB hd) ?_
 ·intro k k' r r' x e1 e2 x1 x2;have inb:∀y,q=.lv r->r.has y->p.Ay y:=fun y e hy=>k2 y (Bv r e y hy);rcases bg k r e1 with⟨rfl,rfl⟩|⟨rfl,e⟩|⟨ne,_,e⟩<;>rcases bg k' r' e2 with⟨rfl,rfl⟩|⟨rfl,e'⟩|⟨ne',_,e'⟩
  ·rfl
  ·exfalso;have hx:=Bv r' e' x x2;rcases x1 with h|h
   ·exact g3 (by rw[<-h];exact k2 x hx)
   ·exact h.2 hx
  ·exact absurd (hs.aj _ _ p r' x bZ e' (mO x x1) x2).symm ne'
  ·exfalso;have hx:=Bv r e x x1;rcases x2 with h|h
   ·exact g3 (by rw[<-h];exact k2 x hx)
   ·exact h.2 hx
  ·rfl
  ·exact absurd (hs.aj _ _ p r' x bZ e' (.inr (k2 x (Bv r e x x1))) x2).symm ne'
  ·exact absurd (hs.aj _ _ r p x e bZ x1 (mO x x2)) ne
  ·exact absurd (hs.aj _ _ r p x e bZ x1 (.inr (k2 x (Bv r' e' x x2)))) ne
  ·exact hs.aj k k' r r' x e e' x1 x2
 ·intro k hk gv;simp only[List.length_set] at hk;have gJ:ab[k]?=some ab[k]:=List.getElem?_eq_getElem gv;rw[List.getElem_set];split
  ·rename_i he;subst he;rw[jG] at gJ;rw[<-Option.some.inj gJ];exact D4 _ _ (fun _ _=>rfl) lN _
  ·rename_i X7;rw[List.getElem_set];split
   ·rename_i he;subst he;rw[dS] at gJ;rw[<-Option.some.inj gJ];refine⟨g1,g2,(fun h=>g3 h.1),vs,h1,h2,h3,kb,?_⟩;intro j hj KN NX;obtain⟨j1,j2,j3⟩:=h4 j hj (by simp) NX;have Bz:j≠i:=fun e=>KN (by rw[e]);refine⟨j1.mono dJ dB (fun _ _=>rfl),fun x hx=>⟨j2 x hx,fun e=>?_⟩,fun j' cj _ e1 e2=>j3 j' cj (by simp) e1 e2⟩;exact Bz (k3 j hj (by simp) (by rw[hx,e]) (by rw[e];simp))
   ·rename_i he;have pj:k<ids.length:=by rw[hs.aL];exact hk
    rw[bG k (fun e=>X7 e.symm) (fun e=>he e.symm),List.getElem?_eq_getElem pj] at gJ;rw[<-Option.some.inj gJ];exact(hs.bC k hk pj).mM dJ dB hd (fun _ _ _ _=>rfl)
/-- An inner row is put back. -/
theorem aF.K1(hs:aF c s m a w ids){b b' i:Nat}{ty aN:TypeId}{sz n n':Nat}{len:Nat->Nat}{row:Nat->Nat->List A}{dI:Nat->List A}(hb:m.getD b .dead=.nest ty aN sz n (some i) len row)
  (gG:m.getD b' .dead=.row aN sz n' dI) (hne:b≠b') (hi:i<n) {v:Value} (hv:Rel ids (au c ids w) w (.own b') v) :
  ∃p vs ab,ids[b]?=some (.lv p)/\w.heap[p.ao]?=some (.cells vs ty (0,0))/\i<vs.size/\p.sz=1 /\
   aF c s ((m.set b (.nest ty aN sz n none (gQ len i n') (gQ row i dI))).set b' .gone) a (w.setRow p.ao (vs.setIfInBounds i v)) ab:=by
 obtain⟨p,bZ,hB,ly,eR⟩:=ph hs hb (by omega);obtain⟨g1,g2,g3,vs,h1,h2,h3,kb,h4⟩:=hB;have xL:i<vs.size:=by omega
 obtain⟨AO,KO⟩:=getD_some (by simp) gG;have oa:b'<ids.length:=by rw[hs.aL];exact AO
 let w':=w.setRow p.ao (vs.setIfInBounds i v)
 have bL:w'.heap.size=w.heap.size:=by simp[w',World.setRow]
 -- the inner E7 name
 have hx:∃x:Option Nat,(∀y,x=some y->∃q,ids[b']?=some (.lv q)/\q.ao=y) /\
   (∀im w',(∀y,x=some y->w'.heap[y]?=w.heap[y]?)->(∀u v,aw (au c ids w) w u v->aw im w' u v)->nI im w' aN sz n' dI v x):=by
  rcases nh hs hv gG with⟨e1,e2,e3⟩|⟨q,cap,e1,e2,e3,e4,e5,e6⟩
  ·exact⟨none,(fun y h=>by cases h),fun _ _ _ _=>.inl ⟨e2,e1,rfl⟩⟩
  ·have Hp:=hs.bC b' AO oa;rw[List.getElem?_eq_getElem oa] at e1;rw[KO,Option.some.inj e1] at Hp;obtain⟨q1,q2,us,q3,q4,q5,q6,q7⟩:=Hp;refine⟨some q.ao,(fun y h=>by cases h;exact⟨q,by rw[List.getElem?_eq_getElem oa];exact e1,rfl⟩),fun im w' hk hm=>.inr ⟨q.ao,cap,us,e6,rfl,by rw[hk _ rfl];exact q3,by rw[q4,e3],e2.1,e2.2,q6,fun i' j bV h h'=>⟨hm _ _ (q7 i' j bV h h').1,(q7 i' j bV h h').2⟩⟩⟩
 obtain⟨x,wa,UR⟩:=hx
 let p':Id:=⟨p.ao,p.k,p.n,p.sz,fun y=>p.Ay y\/x=some y,p.uc⟩
 have mO:∀y,p'.has y->p.has y\/x=some y:=by
  rintro y (h|h|h)
  ·exact .inl (.inl h)
  ·exact .inl (.inr h)
  ·exact .inr h
 let ab:=(ids.set b (.lv p')).set b' .av
 have NN:ab.length=ids.length:=by simp[ab]
 have bG:∀k,k≠b->k≠b'->ab[k]?=ids[k]?:=by
  intro k h1 h2;simp only[ab];rw[List.getElem?_set_ne (fun e=>h2 e.symm),List.getElem?_set_ne (fun e=>h1 e.symm)]
 have dS:ab[b]?=some (.lv p'):=by
  simp only[ab];rw[List.getElem?_set_ne (fun e=>hne e.symm),List.getElem?_set_self eR]
 have iK:ab[b']?=some .av:=by
  simp only[ab];rw[List.getElem?_set_self (by simpa using oa)]
 have bg:∀(k:Nat) (r:Id),ab[k]?=some (.lv r)->(k=b/\r=p')\/(k≠b/\k≠b'/\ids[k]?=some (.lv r)):=by
  intro k r h;by_cases qv:k=b
  ·subst qv;rw[dS] at h;cases h;exact .inl ⟨rfl,rfl⟩
  ·by_cases uA:k=b'
   ·subst uA;rw[iK] at h;cases h
   ·rw[bG k qv uA] at h;exact .inr ⟨qv,uA,h⟩
 have aU:∀r,dT.lv r∈ab->∀y,r.has y->y<w'.heap.size/\(w.heap.size<=y\/∃(b:Nat) (p:Id),ids[b]?=some (.lv p)/\p.has y):=by
  intro r hr y hy;rw[bL];obtain⟨k,hk⟩:=List.getElem?_of_mem hr;rcases bg k r hk with⟨_,rfl⟩|⟨_,_,e⟩
  ·rcases mO y hy with h|h
   ·exact⟨(hs.ar p (List.mem_of_getElem? bZ) y h).2,.inr ⟨b,p,bZ,h⟩⟩
   ·obtain⟨q,q1,q2⟩:=wa y h;have:q.has y:=.inl q2.symm;exact⟨(hs.ar q (List.mem_of_getElem? q1) y this).2,.inr ⟨b',q,q1,this⟩⟩
  ·exact⟨(hs.ar r (List.mem_of_getElem? e) y hy).2,.inr ⟨k,r,e,hy⟩⟩
 have fI:∀k,k<w.heap.size->(∀(b:Nat) (p:Id),ids[b]?=some (.lv p)->¬p.has k)->w'.heap[k]?=w.heap[k]?:=by
  intro k _ hk;exact setRow_other w p.ao k _ (fun e=>hk b p bZ (.inl e))
 obtain⟨dJ,dB⟩:=hs.cP (w':=w') (ab:=ab) (by rw[bL];exact Nat.le_refl _) fI aU
 have hd:∀(k:Nat) r,k≠b'->ids[k]?=some r->r≠.dead->∃q,ab[k]?=some q/\iN r q:=by
  intro k r hk hr _;by_cases sN:k=b
  ·subst sN;rw[bZ] at hr;cases hr;exact⟨_,dS,p',rfl,rfl,rfl,rfl,rfl,fun _ _ h=>h⟩
  ·exact⟨r,by rw[bG k sN hk];exact hr,eU r⟩
 have lN:∀u v,aw (au c ids w) w u v->aw (au c ab w') w' u v:=fun u v h=>h.mono dJ dB
 have US:∀(k:Nat) (r:Id) y,ids[k]?=some (.lv r)->k≠b->r.has y->w'.heap[y]?=w.heap[y]?:=by
  intro k r y hr hk hy;refine setRow_other w p.ao y _ (fun e=>hk ?_);exact hs.aj k b r p y hr bZ hy (.inl e)
 refine⟨p,vs,ab,bZ,h1,xL,g1,?_⟩
 refine hs.lU rfl rfl rfl (by show w.heap.size<=w'.heap.size;rw[bL];exact Nat.le_refl _) fI aU (fun vs h=>by
  simp only[ab] at h;rcases List.mem_or_eq_of_mem_set h with h|h
  ·rcases List.mem_or_eq_of_mem_set h with h|h
   ·exact h
   ·cases h
  ·cases h) ?_ (by simp) (by simp[ab,hs.aL]) ?_ ?_
 ·intro k k' r r' y e1 e2 x1 x2;rcases bg k r e1 with⟨rfl,rfl⟩|⟨ne,KP,e⟩<;>rcases bg k' r' e2 with⟨rfl,rfl⟩|⟨ne',KQ,e'⟩
  ·rfl
  ·rcases mO y x1 with h|h
   ·exact absurd (hs.aj _ _ p r' y bZ e' h x2).symm ne'
   ·obtain⟨q,q1,q2⟩:=wa y h;exact absurd (hs.aj _ _ q r' y q1 e' (.inl q2.symm) x2).symm KQ
  ·rcases mO y x2 with h|h
   ·exact absurd (hs.aj _ _ r p y e bZ x1 h) ne
   ·obtain⟨q,q1,q2⟩:=wa y h;exact absurd (hs.aj _ _ r q y e q1 x1 (.inl q2.symm)) KP
  ·exact hs.aj k k' r r' y e e' x1 x2
 ·intro k h h';exact(hs.bI k h h').fK dJ dB hd iK
 ·intro k hk gv;have gJ:ab[k]?=some ab[k]:=List.getElem?_eq_getElem gv;simp only[List.length_set] at hk;rw[List.getElem_set];split
  ·rename_i he;subst he;rw[iK] at gJ;rw[<-Option.some.inj gJ];exact rfl
  ·rename_i he;rw[List.getElem_set];split
   ·rename_i gL;subst gL;rw[dS] at gJ;rw[<-Option.some.inj gJ]
    have Jl:∀j (h:j<(vs.setIfInBounds i v).size) (h':j<vs.size),(vs.setIfInBounds i v)[j]=if i=j then v else vs[j]:=by
     intro j h h';rw[Array.getElem_setIfInBounds]
    have RL:∀y,x=some y->w'.heap[y]?=w.heap[y]?:=by
     intro y hy;obtain⟨q,q1,q2⟩:=wa y hy;exact US b' q y q1 (fun e=>hne e.symm) (.inl q2.symm)
    have XY:∀y,p.Ay y->w'.heap[y]?=w.heap[y]?:=by
     intro y hy;exact setRow_other w p.ao y _ (fun e=>g3 (by rw[<-e];exact hy))
    refine⟨g1,g2,?_,vs.setIfInBounds i v,setRow_heap w p.ao vs _ ty _ h1,by simp[h2];rfl,h3,gQ kb i x,?_⟩
    ·rintro(h|h)
     ·exact g3 h
     ·obtain⟨q,q1,q2⟩:=wa _ h;exact hne (hs.aj b b' p q p.ao bZ q1 (.inl rfl) (.inl q2.symm))
    ·intro j hj _ NX;have KR:j<vs.size:=by simpa using NX
     rw[Jl j NX KR];by_cases Bz:j=i
     ·subst Bz;rw[if_pos rfl];simp only[gQ,if_pos];refine⟨UR _ _ RL lN,(fun y hy=>.inr hy),?_⟩;intro j' cj _ e1 e2;by_cases oN:j'=j
      ·exact oN
      ·exfalso;rw[if_neg oN] at e1;cases vU:x with
       | none=>exact e2 vU
       | some y =>
        have RM:j'<vs.size:=by omega
        obtain⟨_,k2,_⟩:=h4 j' cj (by simp;exact fun e=>oN e.symm) RM;obtain⟨q,q1,q2⟩:=wa y vU;exact hne (hs.aj b b' p q y bZ q1 (.inr (k2 y (by rw[e1,vU]))) (.inl q2.symm))
     ·rw[if_neg (fun e=>Bz e.symm)];simp only[gQ,if_neg Bz];obtain⟨k1,k2,k3⟩:=h4 j hj (by simp;exact fun e=>Bz e.symm) KR;refine⟨k1.mono dJ dB (fun y hy=>XY y (k2 y hy)),(fun y hy=>.inl (k2 y hy)),?_⟩;intro j' cj _ e1 e2;by_cases oN:j'=i
      ·exfalso;subst oN;rw[if_pos rfl] at e1;cases vU:x with
       | none=>rw[vU] at e1;exact e2 e1.symm
       | some y =>
        obtain⟨q,q1,q2⟩:=wa y vU;exact hne (hs.aj b b' p q y bZ q1 (.inr (k2 y (by rw[<-e1,vU]))) (.inl q2.symm))
      ·rw[if_neg oN] at e1;exact k3 j' cj (by simp;exact fun e=>oN e.symm) e1 e2
   ·rename_i gL;have pF:k<m.length:=hk;have pj:k<ids.length:=by rw[hs.aL];exact pF
    rw[bG k (fun e=>gL e.symm) (fun e=>he e.symm),List.getElem?_eq_getElem pj] at gJ;rw[<-Option.some.inj gJ];refine(hs.bC k pF pj).fK dJ dB hd iK ?_;intro q hq y hy;exact US k q y (by rw[List.getElem?_eq_getElem pj,hq]) (fun e=>gL e.symm) hy

def setAt{α:Type}(l:List α):Nat->List α->List α
 | _,[]=>l
 | k,x::xs=>(setAt l (k+1) xs).set k x
theorem nj{α:Type}(l:List α):∀(k:Nat) (xs:List α),(setAt l k xs).length=l.length
 | _,[]=>rfl
 | k,x::xs=>by rw[setAt,List.length_set,nj l (k+1) xs]
theorem qA{α:Type}(l:List α):∀(k:Nat) (xs:List α) (i:Nat),(xs.length=0\/k+xs.length<=l.length)->(setAt l k xs)[i]?=if k<=i/\i<k+xs.length then xs[i-k]? else l[i]?
 | k,[],i,_=>by rw[setAt,if_neg (by simp)]
 | k,x::xs,i,h=>by
  have h:k+(xs.length+1)<=l.length:=by simpa using h
  rw[setAt,List.getElem?_set,qA l (k+1) xs i (by omega),nj];by_cases hk:k=i
  ·subst hk;rw[if_pos rfl,if_pos (by omega),if_pos (by simp)];simp
  ·rw[if_neg hk];by_cases h2:k+1<=i/\i<k+1+xs.length
   ·rw[if_pos h2,if_pos (by simp;omega),show i-k=(i-(k+1))+1 by omega];rfl
   ·rw[if_neg h2,if_neg (by simp;omega)]
abbrev LO(aA:Nat):Ren:=bU fun i=>some (aA+i)
theorem AS(x:Nat):¬gj [] x:=by rintro⟨p,h,_⟩;cases h
theorem wg(m:List aq):∀(xs:List aq) (pre:List aq),setAt (m++pre++List.replicate xs.length .dead) (m++pre).length xs=m++pre++xs
 | [],pre=>by simp[setAt]
 | x::xs,pre=>by
  have h:=wg m xs (pre++[.dead]);rw[setAt]
  have e1:m++pre++List.replicate (x::xs).length aq.dead=m++(pre++[.dead])++List.replicate xs.length .dead:=by
   simp[List.replicate_succ]
  have e2:(m++pre).length+1=(m++(pre++[aq.dead])).length:=by simp;omega
  rw[e1,e2,h];simp
/-- A function that makes blocks of its own: they lie at places that are kept. -/
theorem GN(hs:aF c s m a w ids){g:FuncId}{vs:List Value}
  {r:A} {mo:List aq} (yR:gC mo=true) {aA:Nat} (fM:∀j,j<mo.length->m[aA+j]?=some .dead)
  (hc:Calls P g vs.toArray w fun e w'=>∃v iz,e=.returned v/\aF ⟨w,au c ids w,gj [],[]⟩ [r] mo ⟨#[v],[]⟩ w' iz) :
  Calls P g vs.toArray w fun e w'=>∃v ab,e=.returned v/\∀d,aF c (_root_.Go.Proofs.YtijddijloelacaaGreat.Am.bf s d (iL (LO aA) 4 r)) (setAt m aA (mo.map (gV (LO aA) 4))) (a.put d v) w' ab:=by
 have aD:mo.length=0\/aA+mo.length<=m.length:=by
  rcases Nat.eq_zero_or_pos mo.length with h|h
  ·exact .inl h
  ·have:=(List.getElem?_eq_some_iff.1 (fM (mo.length-1) (by omega))).1;omega
 refine bl hc ?_;rintro e w' ⟨v,iz,rfl,hr⟩;have wM:iz.length=mo.length:=hr.aL;have GC:=hr.frame;have RY:∀k,k<w.heap.size->w'.heap[k]?=w.heap[k]?:=fun k hk=>GC.block k hk (AS k)
 have K2:∀(j:Nat) p,iz[j]?=some (.lv p)->∀x,p.has x->w.heap.size<=x/\x<w'.heap.size:=by
  intro j p hj x hx;have:=hr.ar p (List.mem_of_getElem? hj) x hx;rcases this.1 with h|h
  ·exact⟨h,this.2⟩
  ·exact(AS x h).elim
 have X8:∀(j:Nat) p,iz[j]?=some p->(∀vs,p≠.cE vs)/\p≠.av:=by
  intro j p hj;have SQ:=aT hj;have hB:=hr.bC j (by omega) SQ;rw[List.getElem?_eq_getElem SQ] at hj;rw[Option.some.inj hj] at hB;have h1:=jR yR _ (List.getElem_mem (show j<mo.length by omega));have h2:=lD yR _ (List.getElem_mem (show j<mo.length by omega));generalize mo[j]'(by omega)=x at hB h1 h2;constructor
  ·rintro vs rfl;cases x<;>first|exact hB.elim|exact absurd rfl (h1 _)|cases hB
  ·rintro rfl;cases x<;>first|exact hB.elim|exact absurd rfl h2|cases hB
 have V':∀i,(setAt ids aA iz)[i]?=if aA<=i/\i<aA+iz.length then iz[i-aA]? else ids[i]?:=fun i=>qA ids aA iz i (by rw[hs.aL];omega)
 have Pu:∀(i:Nat) p,ids[i]?=some p->p≠.dead->(setAt ids aA iz)[i]?=some p:=by
  intro i p hi hp;rw[V',if_neg]
  ·exact hi
  ·rintro⟨h1,h2⟩;have h3:=fM (i-aA) (by omega);rw[show aA+(i-aA)=i by omega] at h3;obtain⟨h4,h5⟩:=List.getElem?_eq_some_iff.1 h3;have:=hs.bC i h4 (by rw[hs.aL];exact h4);rw[h5] at this;rw[List.getElem?_eq_getElem (by rw[hs.aL];exact h4)] at hi;exact hp ((Option.some.inj hi).symm.trans this)
 have AU:∀(j:Nat) p,iz[j]?=some p->(setAt ids aA iz)[aA+j]?=some p:=by
  intro j p hj;have:=aT hj;rw[V',if_pos (by omega),show aA+j-aA=j by omega];exact hj
 have pq:∀(i:Nat) p,(setAt ids aA iz)[i]?=some p->(∃j,i=aA+j/\iz[j]?=some p)\/(¬(aA<=i/\i<aA+iz.length)/\ids[i]?=some p):=by
  intro i p h;rw[V'] at h;split at h
  ·rename_i hh;exact .inl ⟨i-aA,by omega,h⟩
  ·rename_i hh;exact .inr ⟨hh,h⟩
 have aU:∀p',dT.lv p'∈setAt ids aA iz->∀x,p'.has x->x<w'.heap.size/\(w.heap.size<=x\/∃(b:Nat) (p:Id),ids[b]?=some (.lv p)/\p.has x):=by
  intro p' hp x hx;obtain⟨i,hi⟩:=List.getElem?_of_mem hp;rcases pq i _ hi with⟨j,_,hj⟩|⟨_,hi⟩
  ·have:=K2 j p' hj x hx;exact⟨this.2,.inl this.1⟩
  ·exact⟨Nat.lt_of_lt_of_le (hs.ar p' (List.mem_of_getElem? hi) x hx).2 GC.size,.inr ⟨i,p',hi,hx⟩⟩
 obtain⟨dJ,dB⟩:=hs.cP (w':=w') (ab:=setAt ids aA iz) GC.size (fun k hk _=>RY k hk) aU
 have Zw:∀b,au ⟨w,au c ids w,gj [],[]⟩ iz w' b->au c (setAt ids aA iz) w' b:=by
  rintro b (h|⟨h1,h2,h3⟩)
  ·exact dJ b h
  ·have I9:w.heap.size<=b:=by
    rcases h1 with h|h
    ·exact h
    ·exact(AS b h).elim
   refine .inr ⟨.inl (Nat.le_trans hs.frame.size I9),h2,fun p hp hx=>?_⟩;obtain⟨i,hi⟩:=List.getElem?_of_mem hp;rcases pq i _ hi with⟨j,_,hj⟩|⟨_,hi⟩
   ·exact h3 p (List.mem_of_getElem? hj) hx
   ·have:=(hs.ar p (List.mem_of_getElem? hi) b hx).2;omega
 have hτ:rn (LO aA) iz (setAt ids aA iz):=by
  refine⟨fun b b' p h1 h2=>?_,fun b b' p h1 h2 _=>?_,fun b b' p h1 h2=>?_,fun b b' h1 h2=>?_,fun b b' h1 h2=>?_⟩;all_goals cases h1
  ·exact⟨p,AU _ _ h2,rfl⟩
  ·exact⟨p,AU _ _ h2,gU p⟩
  ·exact⟨p,AU _ _ h2,rfl⟩
  ·exact AU _ _ h2
  ·exact AU _ _ h2
 have og:aF c s (setAt m aA (mo.map (gV (LO aA) 4))) a w' (setAt ids aA iz):=by
  refine hs.lU (yM:=GC.drawn) GC.os GC.tape GC.output GC.size (fun k hk _=>RY k hk) aU (fun vs h=>?_) ?_ rfl (by rw[nj,nj,hs.aL]) (fun i h h'=>(hs.bI i h h').mono dJ dB (fun b p h1 h2=>Pu b p h1 h2)) ?_
  ·obtain⟨i,hi⟩:=List.getElem?_of_mem h;rcases pq i _ hi with⟨j,_,hj⟩|⟨_,hi⟩
   ·exact absurd rfl ((X8 j _ hj).1 vs)
   ·exact List.mem_of_getElem? hi
  ·intro k k' p q x e1 e2 x1 x2;rcases pq k _ e1 with⟨j,rfl,hj⟩|⟨_,hj⟩<;>rcases pq k' _ e2 with⟨j',rfl,cj⟩|⟨_,cj⟩
   ·rw[hr.aj j j' p q x hj cj x1 x2]
   ·have:=(K2 j p hj x x1).1;have:=(hs.ar q (List.mem_of_getElem? cj) x x2).2;omega
   ·have:=(K2 j' q cj x x2).1;have:=(hs.ar p (List.mem_of_getElem? hj) x x1).2;omega
   ·exact hs.aj k k' p q x hj cj x1 x2
  ·intro k hk gv;have e1:(setAt ids aA iz)[k]?=some (setAt ids aA iz)[k]:=List.getElem?_eq_getElem gv;have e2:(setAt m aA (mo.map (gV (LO aA) 4)))[k]?=some (setAt m aA (mo.map (gV (LO aA) 4)))[k]:=List.getElem?_eq_getElem hk;rw[qA _ _ _ _ (by simpa using aD)] at e2;simp only[List.length_map] at e2;rw[V'] at e1;rw[wM] at e1;by_cases Cc:aA<=k/\k<aA+mo.length
   ·rw[if_pos Cc] at e1 e2;rw[List.getElem?_map] at e2;have hj:k-aA<mo.length:=by omega
    rw[List.getElem?_eq_getElem hj] at e2;rw[List.getElem?_eq_getElem (by omega)] at e1;simp only[Option.map_some] at e2;rw[<-Option.some.inj e1,<-Option.some.inj e2];exact kz Zw (fun _ _=>rfl) hτ 4 (fun _ _ _ _=>rfl) (hr.bC (k-aA) hj (by omega))
   ·rw[if_neg Cc] at e1 e2;have pF:k<m.length:=aT e2;have pj:k<ids.length:=aT e1;rw[List.getElem?_eq_getElem pF] at e2;rw[List.getElem?_eq_getElem pj] at e1;rw[<-Option.some.inj e1,<-Option.some.inj e2];refine(hs.bC k pF pj).mono dJ dB (fun b p h1 h2=>Pu b p h1 h2) (fun q hq y hy=>RY y ?_);exact(hs.ar q (by rw[<-hq];exact List.getElem_mem _) y hy).2
 refine⟨v,_,rfl,fun d=>og.bf d ?_⟩;have:=hr.bI 0 (by simp) (by simp);exact dN Zw (fun _ _=>rfl) hτ 4 _ _ (by simpa using this)
theorem GO(hs:aF c s m a w ids)(hG:G.ok c){g:FuncId}{as:List A}{vs:List Value}(hlen:vs.length=as.length)(hrel:∀j (h:j<as.length) (h':j<vs.length),aw (au c ids w) w as[j] vs[j])
  {r:A} {mo:List aq} (hc:aM P G g as [] r mo) (yR:gC mo=true) {aA:Nat} (fM:∀j,j<mo.length->m[aA+j]?=some .dead) :
  Calls P g vs.toArray w fun e w'=>∃v ab,e=.returned v/\∀d,aF c (_root_.Go.Proofs.YtijddijloelacaaGreat.Am.bf s d (iL (LO aA) 4 r)) (setAt m aA (mo.map (gV (LO aA) 4))) (a.put d v) w' ab:=by
 have h0:aF ⟨w,au c ids w,gj [],[]⟩ as [] ⟨vs.toArray,[]⟩ w []:=by
  refine⟨rfl,by simp[hlen],fun i h h'=>.aI ((hrel i h (by simpa using h')).mono (fun b hb=>.inl hb) (fun _ _=>rfl)),rfl,fun b h=>absurd h (Nat.not_lt_zero _),(fun b b' p q x h=>by simp at h),(fun p h=>by cases h),Fr.refl _ _ _ _,fun b hb=>⟨cB hs hb,AS b⟩,fun vs h=>by cases h⟩
 exact GN hs yR fM (hc.2 (au c ids w) w vs [] [] ⟨hG.now hs.frame,fun b hb=>(AS b hb).elim⟩ h0)

def uD(P:Program)(G:aG)(f:A)(args:List A)(aA:Nat)(K:A->List aq->Prop):Prop :=
 match f with
 | .fn g cap=>fd.qp 4 (args++cap) fun as=>match as.any (cL 4) with
  | false=>∃r mo,aM P G g as [] r mo/\match gC mo with
   | true=>fd 4 (iL (LO aA) 4 r) fun r'=>qt (mo.map (gV (LO aA) 4)) fun iY=>K r' iY
   | false=>False
  | true=>False
 | _=>False
def K3:List aq->List aq->(List aq->Prop)->Prop
 | m,[],K=>K m
 | m,x::xs,K=>GD m x fun m'=>K3 m' xs K
theorem E9:∀(xs m:List aq) (K:List aq->Prop),K3 m xs K=K (m++xs)
 | [],m,K=>by simp[K3]
 | x::xs,m,K=>by rw[K3,sQ,E9 xs];simp
theorem rz(hs:aF c s m a w ids)(hG:G.ok c){F:Operand}{xs:Array Operand}{ts:Array TypeId}(ho:o.op=.call { callee:=.value F,args:=xs,argTypes:=ts }){aA:Nat}{K:A->List aq->Prop}
  (h:uD P G (ev s F) (xs.toList.map (ev s)) aA K)
  (hn:∀r' iY,K r' iY->(∃(m':List aq) (Od:dE),aF c s m' a w Od/\(∀j,j<iY.length->m'[aA+j]?=some .dead)/\∀a' w' ab,aF c (_root_.Go.Proofs.YtijddijloelacaaGreat.Am.bf s o.dst r') (setAt m' aA iY) a' w' ab->next a' w')):o.wp P a w next Q:=by
 have hf:=hs.ev F;unfold uD at h;split at h
 ·rename_i g cap hv;rw[hv] at hf;obtain⟨us,Jk,yz,Ho⟩:=hf.gi;rw[cK] at h
  have hrel:∀j (h:j<(xs.toList.map (ev s)++cap).length) (h':j<(xs.toList.map a.eval++us).length),Rel ids (au c ids w) w (xs.toList.map (ev s)++cap)[j] (xs.toList.map a.eval++us)[j]:=by
   intro j h h';by_cases hj:j<xs.toList.length
   ·rw[List.getElem_append_left (by simpa using hj),List.getElem_append_left (by simpa using hj)];exact lz hs xs.toList j (by simpa using hj) (by simpa using hj)
   ·rw[List.getElem_append_right (by simpa using hj),List.getElem_append_right (by simpa using hj)];simp at h h' hj;have:=Ho (j-xs.size) (by omega) (by omega);simpa using this
  have hlen:(xs.toList.map a.eval++us).length=(xs.toList.map (ev s)++cap).length:=by simp[yz]
  have run : ∀ fn cd, P.funcs[g]? = some fn → fn.body = some cd → (fn.name == "runtime.NumGoroutine") = false → (execOp a.eval o).run P w = .ok (.enter g (xs.toList.map a.eval ++ us).toArray) w := by
   intro fn cd h1 h2 h3;have e:execOp a.eval o=(do let d <-resolve a.eval { callee:=.value F,args:=xs,argTypes:=ts } o.type;invoke d.target d.args):=by unfold execOp;rw[ho]
   have e2:(xs.map a.eval++us.toArray)=(xs.toList.map a.eval++us).toArray:=by apply Array.ext';simp
   have h4 : ¬ fn.name = "runtime.NumGoroutine" := by simpa using h3
   rw[e];simp[resolve,Jk,Deferred.ofValue,invoke,callFunc,h1,h2,h4,e2]
  split at h
  ·rename_i aU;obtain⟨r,mo,hc,hk⟩:=h;split at hk
   ·rename_i yR;rw[eI,dQ] at hk;obtain⟨m',Od,LA,fM,hn⟩:=hn _ _ hk;obtain⟨fn,cd,h1,h2,h3⟩:=hc.1;unfold Oper.wp;rw[run fn cd h1 h2 h3];show Calls P g _ w _
    have U4:∀j (h:j<(xs.toList.map (ev s)++cap).length) (h':j<(xs.toList.map a.eval++us).length),aw (au c Od w) w (xs.toList.map (ev s)++cap)[j] (xs.toList.map a.eval++us)[j]:=by
     intro j h h'
     have hw:cL 4 (xs.toList.map (ev s)++cap)[j]=false:=by
      have:=List.any_eq_false.1 aU _ (List.getElem_mem h);simpa using this
     have Zx:=LA.ev F;rw[hv] at Zx;obtain⟨us1,T0,YD,hw3⟩:=Zx.gi;have X9:us1=us:=by rw[Jk] at T0;simpa using T0.symm
     subst X9;refine cz (ids:=Od) 4 _ _ hw ?_;by_cases hj:j<xs.toList.length
     ·rw[List.getElem_append_left (by simpa using hj),List.getElem_append_left (by simpa using hj)];exact lz LA xs.toList j (by simpa using hj) (by simpa using hj)
     ·rw[List.getElem_append_right (by simpa using hj),List.getElem_append_right (by simpa using hj)];simp at h h' hj;have:=hw3 (j-xs.size) (by omega) (by omega);simpa using this
    refine bl (GO LA hG hlen U4 hc yR (fun j hj=>fM j (by simpa using hj))) ?_;rintro e w' ⟨v,ab,rfl,bH⟩;exact hn _ _ _ (bH o.dst)
   ·exact hk.elim
  ·exact h.elim
 ·exact h.elim
def Df(P:Program)(G:aG)(f:A)(args:List A)(m:List aq)(K:KT):Prop:=dz m.length fun n=>uD P G f args n fun r' iY=>K3 m iY fun m'=>K r' m'
theorem xU(hs:aF c s m a w ids)(hG:G.ok c){F:Operand}{xs:Array Operand}{ts:Array TypeId}(ho:o.op=.call { callee:=.value F,args:=xs,argTypes:=ts }){K:KT}
  (h:Df P G (ev s F) (xs.toList.map (ev s)) m K) (hn:cq c s o K next):o.wp P a w next Q:=by
 unfold Df at h;rw[aO] at h;refine rz hs hG ho h ?_;intro r' iY hk;rw[E9] at hk;refine⟨m++List.replicate iY.length .dead,ids++List.replicate iY.length .dead,?_,fun j hj=>?_,?_⟩
 ·refine hs.grow (Bw.refl _ w) _ _ (by simp) ?_ ?_ ?_ ?_
  ·intro i g1 g2;simp only[List.getElem_replicate];rfl
  ·intro p hp;rw[List.mem_replicate] at hp;cases hp.2
  ·intro p hp;rw[List.mem_replicate] at hp;cases hp.2
  ·intro i j p q x g1 g2 _ _;rw[List.getElem?_replicate] at g1;split at g1<;>cases g1
 ·rw[List.getElem?_append_right (by omega),List.getElem?_replicate,if_pos (by omega)]
 ·intro a' w' ab bH;have e:=wg m iY [];simp only[List.append_nil] at e;rw[e] at bH;exact hn _ _ _ _ _ hk bH
end
def ks1:A->Option KS
 | .int k _=>some (.int k)
 | .bool _=>some .bool
 | .str _=>some .str
 | _=>none
def U5:List A->Option (List KS)
 | []=>some []
 | x::xs=>match ks1 x,U5 xs with
  | some s,some ss=>some (s::ss)
  | _,_=>none
def nz:List Nat->List KS->Bool
 | [],[]=>true
 | n::ns,s::ss=>match s with
  | .int _=>match Nat.beq n 5 with
   | true=>nz ns ss
   | false=>false
  | .bool=>match Nat.beq n 6 with
   | true=>nz ns ss
   | false=>false
  | .str=>match Nat.beq n 4 with
   | true=>nz ns ss
   | false=>false
 | _,_=>false
def uE:List KS->List KS->Bool
 | [],[]=>true
 | s::ss,u::us=>match s,u with
  | .int k,.int k'=>match mI k k' with
   | true=>uE ss us
   | false=>false
  | .bool,.bool=>uE ss us
  | .str,.str=>uE ss us
  | _,_=>false
 | _,_=>false
theorem kC:∀ {a b:List KS},uE a b=true->a=b
 | [],[],_=>rfl
 | s::ss,u::us,h=>by
  unfold uE at h;split at h
  ·split at h
   ·rename_i hk;rw[jm.1 hk,kC h]
   ·cases h
  ·rw[kC h]
  ·rw[kC h]
  ·cases h
 | [],_::_,h=>by simp[uE] at h
 | _::_,[],h=>by simp[uE] at h
def Wa:KS->A->Option KC
 | .int k,.int k' n=>match mI k' k with
  | true=>some (.int n)
  | false=>none
 | .bool,.bool b=>some (.bool b)
 | .bool,.sb b=>some (.bool b)
 | .str,.str s=>some (.str s)
 | _,_=>none
def Pv:List KS->List A->Option (List KC)
 | [],[]=>some []
 | s::ss,x::xs=>match Wa s x,Pv ss xs with
  | some k,some ks=>some (k::ks)
  | _,_=>none
 | _,_=>none
/-- A key, as cells. -/
def GP(agg:Bool)(sh:List KS)(x:A):Option (List KC) :=
 match agg,x with
 | true,.agg cs=>Pv sh cs
 | true,_=>none
 | false,.agg _=>none
 | false,x=>Pv sh [x]
def qB:Bool->Bool->Bool
 | true,true=>true
 | false,false=>true
 | _,_=>false
def fB(b:Bool)(K:Bool->Prop):Prop :=
 match b with
 | true=>K true
 | false=>K false
theorem Pw(b:Bool)(K:Bool->Prop):fB b K=K b:=by cases b<;>rfl
/-- What is known of a map's type: the keys' kinds, the element's zero. -/
def kD(tt:TT)(t:TypeId)(K:Bool->List KS->A->Prop):Prop :=
 match tt.lookup t with
 | none=>False
 | some ti=>match ti.kind,tt.lookup ti.ln,tt.lookup ti.aN with
  | 7,some tk,some te=>match tk.eqs,U5 tk.zero with
   | some ns,some sh=>match nz ns sh,Nat.beq ns.length tk.size with
    | true,true=>fB tk.agg fun ag=>match te.agg with
     | true=>fl te.zero fun z=>K ag sh (.agg z)
     | false=>match te.zero with
      | [z]=>fv z fun z'=>K ag sh z'
      | _=>False
    | _,_=>False
   | _,_=>False
  | _,_,_=>False
def AV(z:A)(k:List KC)(ok:Bool)(has:List KC->Bool)(val:List KC->A)(K:A->Prop):Prop :=
 match ok with
 | true=>(has k=true->fd 3 (val k) fun v=>K (.tup [v,.bool true]))/\(has k=false->K (.tup [z,.bool false]))
 | false=>(has k=true->fd 3 (val k) fun v=>K v)/\(has k=false->K z)
def wh(agg:Bool)(sh:List KS)(z:A)(k:List KC)(ok:Bool)(jw:Bool)(uF:List KS)(has:List KC->Bool)(val:List KC->A)(K:A->Prop):Prop :=
 match qB agg jw,uE sh uF with
 | true,true=>AV z k ok has val K
 | _,_=>False
def jI(tt:TT)(t:TypeId)(x key:A)(ok:Bool)(m:List aq)(K:A->Prop):Prop :=
 kD tt t fun agg sh z=>match GP agg sh key with
  | none=>False
  | some k=>match x with
   | .mv jw uF has val=>wh agg sh z k ok jw uF has val K
   | .omap b=>match m.getD b .dead with
    | .eP jw uF has val=>wh agg sh z k ok jw uF has val K
    | _=>False
   | .fU=>match ok with
    | true=>K (.tup [z,.bool false])
    | false=>K z
   | _=>False
def nQ(has:List KC->Bool)(k:List KC)(b:Bool):List KC->Bool:=fun j=>if j=k then b else has j
def qa(val:List KC->A)(k:List KC)(v:A):List KC->A:=fun j=>if j=k then v else val j
def K4(tt:TT)(t:TypeId)(x key v:A)(m:List aq)(K:KT):Prop :=
 kD tt t fun agg sh _=>match GP agg sh key,x,cL 4 v with
  | some k,.omap b,false=>match m.getD b .dead with
   | .eP jw uF has val=>match qB agg jw,uE sh uF with
    | true,true=>fd 4 v fun v'=>qk m b (.eP jw uF (nQ has k true) (qa val k v')) fun m'=>K .af m'
    | _,_=>False
   | _=>False
  | _,_,_=>False
def Dg(tt:TT)(t:TypeId)(m:List aq)(K:KT):Prop :=
 kD tt t fun agg sh _=>lL m (.eP agg sh (fun _=>false) (fun _=>.af)) fun b m'=>K (.omap b) m'

section
variable {c:Ctx} {s:List A} {m:List aq} {a:Act} {w w':World} {ids ab:dE} {P:Program} {im bo:Nat->Prop} {tt:TT} {G:aG}
variable {next:Act->World->Prop} {Q:Exit->Act->World->Prop} {o:Oper}

theorem oh{a b:Bool}(h:qB a b=true):a=b:=by cases a<;>cases b<;>simp[qB] at h<;>rfl
theorem mP:∀ {ns:List Nat} {sh:List KS} {k k':List KC},nz ns sh=true->iD sh k->iD sh k'->tK ns (ES sh k) (ES sh k') (decide (k=k'))
 | [],[],[],[],_,_,_=>by simp[ES,tK]
 | n::ns,s::ss,x::k,y::k',h,h1,h2=>by
  cases s with
  | int kd =>
   cases x<;>first|exact h1.elim|skip
   cases y<;>first|exact h2.elim|skip
   rename_i a b;simp only[nz] at h;split at h
   ·rename_i hn;have hn:=Nat.eq_of_beq_eq_true hn;subst hn;refine⟨decide (a=b),decide (k=k'),.inl ⟨rfl,kd,a,b,rfl,rfl,by rw[Bool.eq_iff_iff];simp⟩,mP h h1 h2,?_⟩;rw[<-Bool.decide_and];apply decide_eq_decide.2;simp
   ·cases h
  | bool =>
   cases x<;>first|exact h1.elim|skip
   cases y<;>first|exact h2.elim|skip
   rename_i a b;simp only[nz] at h;split at h
   ·rename_i hn;have hn:=Nat.eq_of_beq_eq_true hn;subst hn;refine⟨decide (a=b),decide (k=k'),.inr (.inl ⟨rfl,a,b,rfl,rfl,by rw[Bool.eq_iff_iff];simp⟩),mP h h1 h2,?_⟩;rw[<-Bool.decide_and];apply decide_eq_decide.2;simp
   ·cases h
  | str =>
   cases x<;>first|exact h1.elim|skip
   cases y<;>first|exact h2.elim|skip
   rename_i a b;simp only[nz] at h;split at h
   ·rename_i hn;have hn:=Nat.eq_of_beq_eq_true hn;subst hn;refine⟨decide (a=b),decide (k=k'),.inr (.inr ⟨rfl,_,_,rfl,rfl,by rw[cZ,cZ,Bool.eq_iff_iff];simp⟩),mP h h1 h2,?_⟩;rw[<-Bool.decide_and];apply decide_eq_decide.2;simp
   ·cases h
 | [],_::_,_,_,h,_,_=>by simp[nz] at h
 | _::_,[],_,_,h,_,_=>by simp[nz] at h
 | _,s::_,[],_,_,h,_=>by cases s<;>exact h.elim
 | _,s::_,_,[],_,_,h=>by cases s<;>exact h.elim
 | _,[],_::_,_,_,h,_=>h.elim
 | _,[],_,_::_,_,_,h=>h.elim
theorem Oe{s:KS}{x:A}{k:KC}{v:Value}(h:Wa s x=some k)(hx:Rel ids im w x v):v=UC s k:=by
 cases s<;>cases x<;>simp only[Wa] at h<;>first|(cases h;done)|skip
 ·split at h
  ·rename_i hk;cases h;rw[hx.bY,jm.1 hk];rfl
  ·cases h
 ·cases h;exact hx.dL
 ·cases h;exact hx.iI
 ·cases h;exact hx.hU
theorem xV:∀ {sh:List KS} {cs:List A} {k:List KC} {vs:List Value},Pv sh cs=some k->vs.length=cs.length->(∀j (h:j<cs.length) (h':j<vs.length),Rel ids im w cs[j] vs[j])->iD sh k/\vs=ES sh k
 | [],[],k,vs,h,hl,_=>by
  simp only[Pv,Option.some.injEq] at h;subst h;have:vs=[]:=by simpa using hl
  subst this;exact⟨trivial,rfl⟩
 | s::ss,x::xs,k,vs,h,hl,hr=>by
  simp only[Pv] at h;split at h
  ·rename_i k0 ks h1 h2;cases h
   match vs,hl with
   | v::vs,hl =>
    have e1:=Oe h1 (hr 0 (by simp) (by simp));obtain⟨e2,e3⟩:=xV (vs:=vs) h2 (by simpa using hl) (fun j g g'=>hr (j+1) (by simpa using g) (by simpa using g'));simp only[List.getElem_cons_zero] at e1;refine⟨?_,by simp only[ES];rw[<-e1,<-e3]⟩;cases s<;>cases x<;>simp only[Wa] at h1<;>first|(cases h1;done)|skip
    ·split at h1
     ·cases h1;exact e2
     ·cases h1
    ·cases h1;exact e2
    ·cases h1;exact e2
    ·cases h1;exact e2
  ·cases h
 | [],_::_,_,_,h,_,_=>by simp[Pv] at h
 | _::_,[],_,_,h,_,_=>by simp[Pv] at h
theorem AW{agg:Bool}{sh:List KS}{x:A}{k:List KC}{v:Value}(h:GP agg sh x=some k)(hx:Rel ids im w x v):iD sh k/\v=kV agg sh k:=by
 unfold GP at h;split at h
 ·rename_i cs;obtain⟨vs,rfl,hl,_,hr⟩:=hx.ig;obtain⟨e1,e2⟩:=xV h hl hr;exact⟨e1,by rw[e2];rfl⟩
 ·cases h
 ·cases h
 ·obtain⟨e1,e2⟩:=xV (vs:=[v]) h rfl (fun j g g'=>by
   have:j=0:=by simp at g;omega
   subst this;exact hx)
  exact⟨e1,by unfold kV;rw[<-e2];rfl⟩

theorem xW(em:Bool):∀(d:Nat) (t:TypeId) (sh:List Nat) (xs:List Value) (r:Bool) (dd:Nat),aY P d t=some sh->tK sh xs xs r->(Instr.checkKey em (d+dd) t (vg P t xs)).run P w=.ok () w
 | 0,_,_,_,_,_,h,_=>by simp[aY] at h
 | d+1,t,sh,xs,r,dd,h,hk=>by
  have e:d+1+dd=(d+dd)+1:=by omega
  rw[e];unfold aY at h;unfold vg;split at h
  ·rename_i k hd;cases h;obtain⟨x,y,rfl,_,_⟩:=nf hk;rw[hd];unfold Instr.checkKey;simp only[Sem.run_bind,run_underlying hd,Result.andThen_ok];rfl
  ·rename_i hd;cases h;obtain⟨x,y,rfl,_,_⟩:=nf hk;rw[hd];unfold Instr.checkKey;simp only[Sem.run_bind,run_underlying hd,Result.andThen_ok];rfl
  ·rename_i hd;cases h;obtain⟨x,y,rfl,_,_⟩:=nf hk;rw[hd];unfold Instr.checkKey;simp only[Sem.run_bind,run_underlying hd,Result.andThen_ok];rfl
  ·rename_i fs hd;split at h
   ·cases h
   ·rw[hd,Instr.checkKey];simp only[Sem.run_bind,run_underlying hd,Result.andThen_ok];rw[<-Array.forIn_toList]
    have key:∀(fl:List Field) (acc:Nat) (sh:List Nat) (r:Bool),eqFs P (aY P d) acc fl=some sh->tK sh (xs.drop acc) (xs.drop acc) r ->
      ((forIn fl PUnit.unit fun f _=>do
       if f.name ≠ "_" then Instr.checkKey em (d + dd) f.type (← part f.type xs.toArray f.offset)
       pure (ForInStep.yield PUnit.unit):Sem PUnit)).run P w=.ok PUnit.unit w:=by
     intro fl
     induction fl with
     | nil=>intro acc sh r _ _;simp
     | cons f fl ih =>
      intro acc sh r h1 h2;unfold eqFs at h1;split at h1
      ·rename_i s1 i hs hi;split at h1
       ·rename_i hc;obtain⟨BD,sj,Xw,hz⟩:=hc;split at h1
        ·rename_i r0 LB;cases h1;obtain⟨r1,r2,g1,g2,rfl⟩:=ji h2;obtain⟨fd,NG⟩:=jD d f.type s1 hs;have hl:=nd h2;simp at hl;have p1:=kr (w:=w) hi NG xs acc (by omega) (by omega);rw[Xw] at p1;have q:=xW em d f.type s1 _ r1 dd hs g1;rw[List.drop_drop] at g2;have Rx:=ih (acc+s1.length) r0 r2 LB g2;subst sj;rw[List.forIn_cons];simp only[Sem.run_bind,BD,ne_eq,not_false_eq_true,if_true,p1,q,Result.andThen_ok,Sem.run_pure];exact Rx
        ·cases h1
       ·cases h1
      ·cases h1
    have:=key fs.toList 0 sh r h (by simpa using hk);simp at this ⊢;rw[this];rfl
  ·rename_i n e hd;split at h
   ·rename_i s1 i hs hi;split at h
    ·rename_i hc;cases h;rw[hd,Instr.checkKey];obtain⟨ed,LH⟩:=jD d e s1 hs;simp only[Sem.run_bind,run_underlying hd,Result.andThen_ok];simp only[Std.Legacy.Range.forIn_eq_forIn_range',Std.Legacy.Range.size,Nat.sub_zero,Nat.add_one_sub_one,Nat.div_one];have CS:P.cellsOf e=s1.length:=by unfold Program.cellsOf;rw[hi];simp[hc.1]
     have key:∀(k b:Nat) (r:Bool),tK (List.replicate k s1).flatten (xs.drop (b*s1.length)) (xs.drop (b*s1.length)) r ->
       ((forIn (List.range' b k) PUnit.unit fun i _=>do
        Instr.checkKey em (d+dd) e (<-part e xs.toArray (i*(<-sizeOf e)))
        pure (ForInStep.yield PUnit.unit):Sem PUnit)).run P w=.ok PUnit.unit w:=by
      intro k
      induction k with
      | zero=>intro b r _;simp
      | succ k ih =>
       intro b r h2;rw[List.replicate_succ,List.flatten_cons] at h2;have hl:=nd h2;simp only[List.length_drop,List.length_append] at hl;obtain⟨r1,r2,g1,g2,rfl⟩:=ji h2;have p1:=kr (w:=w) hi LH xs (b*s1.length) (by omega) (by omega);rw[hc.1] at p1;have q:=xW em d e s1 _ r1 dd hs g1;rw[List.drop_drop,<-Nat.succ_mul] at g2;have Rx:=ih (b+1) r2 g2;rw[List.range'_succ,List.forIn_cons];simp only[Sem.run_bind,run_sizeOf w hi,CS,p1,q,Result.andThen_ok,Sem.run_pure];exact Rx
     have:=key n 0 r (by simpa using hk);simp at this ⊢;rw[this];rfl
    ·cases h
   ·cases h
  ·cases h
end
section
variable {c:Ctx} {s:List A} {m:List aq} {a:Act} {w w':World} {ids ab:dE} {P:Program} {im bo:Nat->Prop} {tt:TT} {G:aG}
variable {next:Act->World->Prop} {Q:Exit->Act->World->Prop} {o:Oper}

/-- What is known of a key's type. -/
structure pr (P:Program) (kt:TypeId) (agg:Bool) (sh:List KS):Prop where
 ex:∃d ns,P.underlying kt=some d/\agg=ee d/\aY P 6 kt=some ns/\nz ns sh=true
theorem pr.vg{kt:TypeId}{agg:Bool}{sh:List KS}(h:pr P kt agg sh)(k:List KC):vg P kt (ES sh k)=kV agg sh k:=by
 obtain⟨d,ns,h1,h2,_,_⟩:=h.ex;unfold Am.vg kV;rw[h1,h2];cases d<;>rfl
theorem pr.wX{kt:TypeId}{agg:Bool}{sh:List KS}(h:pr P kt agg sh){k:List KC}(hk:iD sh k)(em:Bool):(Instr.checkKey em 10000 kt (kV agg sh k)).run P w=.ok () w:=by
 rw[<-h.vg];obtain⟨d,ns,_,_,h3,h4⟩:=h.ex;exact xW em 6 kt ns _ _ 9994 h3 (mP h4 hk hk)
theorem pr.eq{kt:TypeId}{agg:Bool}{sh:List KS}(h:pr P kt agg sh){k k':List KC}(hk:iD sh k)(gv:iD sh k'):(Op.equal kt (kV agg sh k) (kV agg sh k')).run P w=.ok (decide (k=k')) w:=by
 rw[<-h.vg,<-h.vg];obtain⟨d,ns,_,_,h3,h4⟩:=h.ex;exact fR 6 kt ns _ _ _ 9994 h3 (mP h4 hk gv)
theorem E'{kt:TypeId}{agg:Bool}{sh:List KS}(h:pr P kt agg sh){k:List KC}(hk:iD sh k):∀(es:List MapEntry) (f:Nat->List KC) (i0:Nat),(∀i (h:i<es.length),iD sh (f i)/\es[i].key=kV agg sh (f i)) ->
  ∃res,(Instr.findAsking kt (kV agg sh k) es i0).run P w=.ok res w/\((res=none/\∀i,i<es.length->f i≠k)\/∃i,∃(h:i<es.length),f i=k/\res=some (i0+i,es[i].val))
 | [],f,i0,_=>⟨none,by simp[Instr.findAsking],.inl ⟨rfl,fun _ h=>by simp at h⟩⟩
 | e::es,f,i0,hf=>by
  have h0:=hf 0 (by simp);have he:=h.eq (w:=w) hk h0.1;have Ya:e.key=kV agg sh (f 0):=h0.2;rw[<-Ya] at he;by_cases Cc:k=f 0
  ·refine⟨some (i0,e.val),?_,.inr ⟨0,by simp,Cc.symm,rfl⟩⟩;simp only[Instr.findAsking,Sem.run_bind,he,Result.andThen_ok];rw[decide_eq_true Cc];rfl
  ·obtain⟨res,h1,h2⟩:=E' h hk es (fun i=>f (i+1)) (i0+1) (fun i hi=>hf (i+1) (by simpa using hi));refine⟨res,?_,?_⟩
   ·simp only[Instr.findAsking,Sem.run_bind,he,Result.andThen_ok];rw[decide_eq_false Cc];exact h1
   ·rcases h2 with⟨e1,e2⟩|⟨i,hi,e1,e2⟩
    ·refine .inl ⟨e1,fun i hi=>?_⟩;cases i with
     | zero=>exact fun e=>Cc e.symm
     | succ i=>exact e2 i (by simpa using hi)
    ·exact .inr ⟨i+1,by simpa using hi,e1,by rw[e2];simp;omega⟩
theorem Fa{d:TypeDesc}{sh:List KS}(rq:∀k k',iD sh k->iD sh k'->Instr.sameNow d (kV false sh k) (kV false sh k')=some (decide (k=k'))){k:List KC}(hk:iD sh k):∀(es:List MapEntry) (f:Nat->List KC) (i0:Nat),(∀i (h:i<es.length),iD sh (f i)/\es[i].key=kV false sh (f i)) ->
  ∃res,Instr.findNow d (kV false sh k) es i0=some res/\((res=none/\∀i,i<es.length->f i≠k)\/∃i,∃(h:i<es.length),f i=k/\res=some (i0+i,es[i].val))
 | [],f,i0,_=>⟨none,rfl,.inl ⟨rfl,fun _ h=>by simp at h⟩⟩
 | e::es,f,i0,hf=>by
  have h0:=hf 0 (by simp);have he:=rq k (f 0) hk h0.1;have Ya:e.key=kV false sh (f 0):=h0.2;rw[<-Ya] at he;by_cases Cc:k=f 0
  ·refine⟨some (i0,e.val),?_,.inr ⟨0,by simp,Cc.symm,rfl⟩⟩;rw[decide_eq_true Cc] at he;simp only[Instr.findNow,he]
  ·rw[decide_eq_false Cc] at he;obtain⟨res,h1,h2⟩:=Fa rq hk es (fun i=>f (i+1)) (i0+1) (fun i hi=>hf (i+1) (by simpa using hi));refine⟨res,?_,?_⟩
   ·simp only[Instr.findNow,he];exact h1
   ·rcases h2 with⟨e1,e2⟩|⟨i,hi,e1,e2⟩
    ·refine .inl ⟨e1,fun i hi=>?_⟩;cases i with
     | zero=>exact fun e=>Cc e.symm
     | succ i=>exact e2 i (by simpa using hi)
    ·exact .inr ⟨i+1,by simpa using hi,e1,by rw[e2];simp;omega⟩
theorem xX{s:KS}{k:List KC}(h:iD [s] k):∃x,k=[x]/\iD [s] [x]:=by
 match k,h with
 | [x],h=>exact⟨x,rfl,h⟩
 | [],h=>cases s<;>exact h.elim
 | x::y::l,h=>cases s<;>cases x<;>exact h.elim
theorem uG{kt:TypeId}{agg:Bool}{sh:List KS}(h:pr P kt agg sh){k:List KC}(hk:iD sh k)(es:Array MapEntry)(f:Nat->List KC)(hf:∀i (h:i<es.size),iD sh (f i)/\es[i].key=kV agg sh (f i)):
  ∃res,(Instr.findKey kt (kV agg sh k) es.toList).run P w=.ok res w/\((res=none/\∀i,i<es.size->f i≠k)\/∃i,∃(h:i<es.size),f i=k/\res=some (i,es[i].val)):=by
 obtain⟨d,ns,h1,h2,h3,h4⟩:=h.ex;have LR:∀i (h:i<es.toList.length),iD sh (f i)/\es.toList[i].key=kV agg sh (f i):=fun i hi=>by simpa using hf i (by simpa using hi)
 cases agg with
 | true =>
  have hw:(match P.underlying kt with|some (.array _ _)|some (.struct _)=>true|_=>false)=true:=by
   rw[h1];cases d<;>simp[ee] at h2<;>rfl
  obtain⟨res,e1,e2⟩:=E' (w:=w) h hk es.toList f 0 LR;exact⟨res,by rw[run_findKey_eq w hw];exact e1,by simpa using e2⟩
 | false =>
  have rq:∀k k',iD sh k->iD sh k'->Instr.sameNow d (kV false sh k) (kV false sh k')=some (decide (k=k')):=by
   intro k k' g1 g2;unfold aY at h3;rw[h1] at h3;cases d<;>simp[ee] at h2<;>simp only at h3<;>first|(cases h3;done)|skip
   all_goals
    cases h3
    match sh,h4,g1,g2 with
    | [s],h4,g1,g2 =>
     obtain⟨x,rfl,g1⟩:=xX g1;obtain⟨y,rfl,g2⟩:=xX g2;cases s<;>simp[nz] at h4<;>cases x<;>first|exact g1.elim|skip
     all_goals
      cases y<;>first|exact g2.elim|skip
      simp[kV,ES,UC,Instr.sameNow,Bool.beq_eq_decide_eq]
      try (rw[beq_toListBytes,cZ,cZ,Bool.eq_iff_iff];simp)
    | [],h4,_,_=>simp[nz] at h4
    | s::s'::ss,h4,_,_=>cases s<;>simp[nz] at h4
  obtain⟨res,e1,e2⟩:=Fa rq hk es.toList f 0 LR;exact⟨res,MapKept.run_findKey h1 e1,by simpa using e2⟩

/-- What a map's type tells. -/
theorem kE(aJ:bp P tt){t:TypeId}{K:Bool->List KS->A->Prop}(h:kD tt t K)(im:Nat->Prop)(w:World):
  ∃kt et agg sh z zv,P.underlying t=some (.map kt et)/\pr P kt agg sh/\(zeroValue et).run P w=.ok zv w/\aw im w z zv/\K agg sh z:=by
 unfold kD at h;split at h
 ·exact h.elim
 ·rename_i ti jn;split at h
  ·rename_i tk te hk Wb yC;split at h
   ·rename_i ns sh dA Ew;split at h
    ·rename_i xi hlen;obtain⟨i,d,z0,g1,g2,g3,g4,g5,g6,g7,g8,_,_,_,_,_,_,g9,_⟩:=aJ.facts Wb;obtain⟨zv,z1,z2,z3⟩:=aJ.NJ yC im w;have Og:pr P ti.ln tk.agg sh:=⟨d,ns,g2,g8,by rw[<-g9];exact dA,xi⟩;rw[Pw] at h;split at h
     ·rename_i ha;rw[ck] at h;exact⟨_,_,_,_,_,zv,aJ.xD jn hk,Og,z1,z2 ha,h⟩
     ·rename_i ha;obtain⟨z,e1,e2⟩:=z3 ha;rw[e1] at h;simp only[dp] at h;exact⟨_,_,_,_,_,zv,aJ.xD jn hk,Og,z1,e2,h⟩
    ·exact h.elim
   ·exact h.elim
  ·exact h.elim

theorem K5{t kt et:TypeId}{agg:Bool}{sh:List KS}(ht:P.underlying t=some (.map kt et))(Og:pr P kt agg sh){zv:Value}(hz:(zeroValue et).run P w=.ok zv w){k:List KC}(hk:iD sh k)
  {r:Nat} {es:Array MapEntry} {clock:Nat} (hh:w.heap[r]?=some (.map es clock)) {f:Nat->List KC} (hf:∀i (h:i<es.size),iD sh (f i)/\es[i].key=kV agg sh (f i)) (ok:Bool) :
  (∃i,∃(h:i<es.size),f i=k/\(Instr.lookup t (.map (some r)) (kV agg sh k) ok).run P w=.ok (if ok then .tuple #[es[i].val,.bool true] else es[i].val) w) \/
  ((∀i,i<es.size->f i≠k)/\(Instr.lookup t (.map (some r)) (kV agg sh k) ok).run P w=.ok (if ok then .tuple #[zv,.bool false] else zv) w):=by
 obtain⟨res,e1,e2⟩:=uG (w:=w) Og hk es f hf;have hc:=Og.wX (w:=w) hk es.isEmpty;rcases e2 with⟨rfl,e2⟩|⟨i,hi,e2,rfl⟩
 ·refine .inr ⟨e2,?_⟩;simp only[Instr.lookup,Sem.run_bind,run_underlying ht,Result.andThen_ok,MapKept.run_getObj_map hh,Sem.run_pure,hc,e1,hz]
 ·refine .inl ⟨i,hi,e2,?_⟩;simp only[Instr.lookup,Sem.run_bind,run_underlying ht,Result.andThen_ok,MapKept.run_getObj_map hh,Sem.run_pure,hc,e1]

theorem rA(aJ:bp P tt)(hs:aF c s m a w ids){t:TypeId}{X Y:Operand}{ok:Bool}(ho:o.op=.lookup t X Y ok){K:KT}(h:jI tt t (ev s X) (ev s Y) ok m fun v=>K v m)(hn:cq c s o K next):o.wp P a w next Q:=by
 have e:execOp a.eval o=(do pure (.value (<-Instr.lookup t (a.eval X) (a.eval Y) ok))):=by
  obtain⟨dst,op,ty,pos,after,guard⟩:=o;simp only at ho;subst ho;rfl
 unfold jI at h;obtain⟨kt,et,agg,sh,z,zv,h1,h2,h3,h4,h⟩:=kE aJ h (au c ids w) w;split at h
 ·exact h.elim
 ·rename_i k hk;obtain⟨g1,g2⟩:=AW hk (hs.ev Y)
  have main:∀(has:List KC->Bool) (val:List KC->A) (r:Nat) (es:Array MapEntry) (clock:Nat) (f:Nat->List KC),a.eval X=.map (some r)->w.heap[r]?=some (.map es clock) ->
    (∀i (h:i<es.size),iD sh (f i)/\es[i].key=kV agg sh (f i)/\has (f i)=true)->(∀k,iD sh k->has k=true->∃i,i<es.size/\f i=k)->(∀i (h:i<es.size),aw (au c ids w) w (val (f i)) es[i].val) ->
    AV z k ok has val (fun v=>K v m)->o.wp P a w next Q:=by
   intro has val r es clock f q1 q2 q3 q4 q5 q6;simp only[AV,eI] at q6;rcases K5 h1 h2 h3 g1 q2 (fun i hi=>⟨(q3 i hi).1,(q3 i hi).2.1⟩) ok with⟨i,hi,e1,e2⟩|⟨e1,e2⟩
   ·have K6:has k=true:=by rw[<-e1];exact(q3 i hi).2.2
    have hrel:=q5 i hi;rw[e1] at hrel;cases ok with
    | true =>
     refine aP hs hn ⟨_,.tuple #[es[i].val,.bool true],by rw[e,q1,g2];simp only[Sem.run_bind,e2,Result.andThen_ok];rfl,q6.1 K6,?_⟩
     exact .aI (.tup [val k,.bool true] [es[i].val,.bool true] rfl (fun j g g'=>by
      match j with
      | 0=>exact hrel
      | 1=>exact .bool true
      | j+2=>exact absurd g (by simp)))
    | false=>exact aP hs hn ⟨_,es[i].val,by rw[e,q1,g2];simp only[Sem.run_bind,e2,Result.andThen_ok];rfl,q6.1 K6,.aI hrel⟩
   ·have K6:has k=false:=by
     cases hb:has k with
     | false=>rfl
     | true=>obtain⟨i,hi,he⟩:=q4 k g1 hb;exact absurd he (e1 i hi)
    cases ok with
    | true =>
     refine aP hs hn ⟨_,.tuple #[zv,.bool false],by rw[e,q1,g2];simp only[Sem.run_bind,e2,Result.andThen_ok];rfl,q6.2 K6,?_⟩
     exact .aI (.tup [z,.bool false] [zv,.bool false] rfl (fun j g g'=>by
      match j with
      | 0=>exact h4
      | 1=>exact .bool false
      | j+2=>exact absurd g (by simp)))
    | false=>exact aP hs hn ⟨_,zv,by rw[e,q1,g2];simp only[Sem.run_bind,e2,Result.andThen_ok];rfl,q6.2 K6,.aI h4⟩
  have hx:=hs.ev X;split at h
  ·rename_i jw uF has val hv;rw[hv] at hx;unfold wh at h;split at h
   ·rename_i mU kM;have mU:=oh mU;have kM:=kC kM;subst mU;subst kM;cases hx with
    | aI hx =>
     generalize hX:a.eval X=V at hx;cases hx with
     | mv _ _ _ _ r es clock f hb hh gv hd hc FX=>exact main has val r es clock f hX hh gv hc FX h
   ·exact h.elim
  ·rename_i b hv;rw[hv] at hx;split at h
   ·rename_i jw uF has val Fb;unfold wh at h;split at h
    ·rename_i mU kM;have mU:=oh mU;have kM:=kC kM;subst mU;subst kM;obtain⟨p,h5,h6⟩:=hs.EU hx (by rw[Fb];simp);obtain⟨x,lV,lJ⟩:=hs.eF h5;rw[bj lV] at Fb;subst Fb;obtain⟨es,clock,f,q1,q2,q3,q4,q5⟩:=lJ;exact main has val p.ao es clock f h6 q1 q2 q4 q5.1 h
    ·exact h.elim
   ·exact h.elim
  ·rename_i hv;rw[hv] at hx;have hX:=hx.kq;have hc:=h2.wX (w:=w) g1 true
   have bW:(Instr.lookup t (.map none) (kV agg sh k) ok).run P w=.ok (if ok then .tuple #[zv,.bool false] else zv) w:=by
    have hfk:(Instr.findKey kt (kV agg sh k) ([]:List MapEntry)).run P w=.ok none w:=by
     obtain⟨res,e1,e2⟩:=uG (w:=w) h2 g1 #[] (fun _=>[]) (fun i hi=>by simp at hi);rcases e2 with⟨rfl,_⟩|⟨i,hi,_⟩
     ·exact e1
     ·simp at hi
    simp only[Instr.lookup,Sem.run_bind,run_underlying h1,Result.andThen_ok,Sem.run_pure];simp only[Array.isEmpty_empty,hc,Result.andThen_ok,hfk];simp only[Sem.run_bind,h3,Result.andThen_ok,Sem.run_pure]
   split at h
   ·refine aP hs hn ⟨_,.tuple #[zv,.bool false],by rw[e,hX,g2];simp only[Sem.run_bind,bW,Result.andThen_ok];rfl,h,?_⟩
    exact .aI (.tup [z,.bool false] [zv,.bool false] rfl (fun j g g'=>by
     match j with
     | 0=>exact h4
     | 1=>exact .bool false
     | j+2=>exact absurd g (by simp)))
   ·exact aP hs hn ⟨_,zv,by rw[e,hX,g2];simp only[Sem.run_bind,bW,Result.andThen_ok];rfl,h,.aI h4⟩
  ·exact h.elim

/-- A block of ours that is an object is written. -/
theorem aF.setObj(hs:aF c s m a w ids)(b:Nat)(p:Id)(bZ:ids[b]?=some (.lv p))(x:aq)(ob:Obj)
  (hx:∀w',w'.heap[p.ao]?=some ob->(∀a v,aw (au c ids w) w a v->aw (au c ids w') w' a v)->aX ids (au c ids w') w' x (.lv p)) :
  aF c s (m.set b x) a { w with heap:=w.heap.setIfInBounds p.ao ob } ids:=by
 have jK:dT.lv p∈ids:=List.mem_of_getElem? bZ;have GC:=hs.fresh p jK;have bL:({ w with heap:=w.heap.setIfInBounds p.ao ob }:World).heap.size=w.heap.size:=by simp
 have yK:∀k,k≠p.ao->({ w with heap:=w.heap.setIfInBounds p.ao ob }:World).heap[k]?=w.heap[k]?:=by
  intro k hk;simp[Array.getElem?_setIfInBounds_ne (fun e=>hk e.symm)]
 have aU:∀p',dT.lv p'∈ids->∀x,p'.has x->x<({ w with heap:=w.heap.setIfInBounds p.ao ob }:World).heap.size/\(w.heap.size<=x\/∃(b:Nat) (p:Id),ids[b]?=some (.lv p)/\p.has x):=by
  intro p' Ph y hy;obtain⟨k,hk⟩:=List.getElem?_of_mem Ph;exact⟨by rw[bL];exact(hs.ar p' Ph y hy).2,.inr ⟨k,p',hk,hy⟩⟩
 have fI:∀k,k<w.heap.size->(∀(b:Nat) (p:Id),ids[b]?=some (.lv p)->¬p.has k)->({ w with heap:=w.heap.setIfInBounds p.ao ob }:World).heap[k]?=w.heap[k]? :=
  fun k _ hk=>yK k (fun e=>hk b p bZ (.inl e))
 obtain⟨dJ,dB⟩:=hs.cP (w':={ w with heap:=w.heap.setIfInBounds p.ao ob }) (ab:=ids) (by rw[bL];exact Nat.le_refl _) fI aU;refine hs.lU rfl rfl rfl (by rw[bL];exact Nat.le_refl _) fI aU (fun _ h=>h) hs.aj rfl (by simp[hs.aL]) (fun i h h'=>(hs.bI i h h').mono dJ dB (fun _ _ h _=>h)) ?_;intro k hk gv;simp only[List.length_set] at hk;rw[List.getElem_set];split
 ·rename_i he;subst he;have e:ids[b]=.lv p:=by rw[List.getElem?_eq_getElem gv] at bZ;exact Option.some.inj bZ
  rw[e];refine hx _ ?_ (fun a v h=>h.mono dJ dB);simp[GC.2]
 ·rename_i he;refine(hs.bC k hk gv).mono dJ dB (fun _ _ h _=>h) ?_;intro q hq y hy;refine yK y (fun e=>he ?_);exact hs.aj b k p q y bZ (by rw[List.getElem?_eq_getElem gv,hq]) (.inl e) hy

theorem nK:∀(sh:List KS) (k:List KC),iD sh k->∀n,((ES sh k).zip (ES sh k)).all (fun(x,y)=>Instr.sameBits n x y)=true
 | [],[],_,n=>rfl
 | s::ss,x::k,h,n=>by
  cases s<;>cases x<;>first|exact h.elim|skip
  all_goals
   simp only[ES,List.zip_cons_cons,List.all_cons,Bool.and_eq_true];refine⟨by simp[UC,Instr.sameBits,beq_toListBytes],nK ss k h n⟩
 | [],_::_,h,_=>h.elim
 | s::_,[],h,_=>by cases s<;>exact h.elim
theorem AX{agg:Bool}{sh:List KS}{k:List KC}(hk:iD sh k)(h1:agg=false->sh.length=1):Instr.sameBits 10000 (kV agg sh k) (kV agg sh k)=true:=by
 cases agg with
 | true =>
  have:=nK sh k hk 9999;simp only[kV,Instr.sameBits];simpa using this
 | false =>
  match sh,k,hk,h1 rfl with
  | [s],k,hk,_ =>
   obtain⟨x,rfl,hk⟩:=xX hk;cases s<;>cases x<;>first|exact hk.elim|simp[kV,ES,UC,Instr.sameBits,beq_toListBytes]
theorem pr.Yb{kt:TypeId}{agg:Bool}{sh:List KS}(h:pr P kt agg sh)(ha:agg=false):sh.length=1:=by
 obtain⟨d,ns,h1,h2,h3,h4⟩:=h.ex;subst ha;unfold aY at h3;rw[h1] at h3;cases d<;>simp[ee] at h2<;>simp only at h3<;>first|(cases h3;done)|skip
 all_goals
  cases h3
  match sh,h4 with
  | [s],_=>rfl
  | [],h4=>simp[nz] at h4
  | s::s'::ss,h4=>cases s<;>simp[nz] at h4

theorem Oh{t kt et:TypeId}{agg:Bool}{sh:List KS}(ht:P.underlying t=some (.map kt et))(Og:pr P kt agg sh){k:List KC}(hk:iD sh k)
  {r:Nat} {es:Array MapEntry} {clock:Nat} (hh:w.heap[r]?=some (.map es clock)) {f:Nat->List KC} (hf:∀i (h:i<es.size),iD sh (f i)/\es[i].key=kV agg sh (f i)) (v:Value) :
  (∃i,∃(_:i<es.size),f i=k/\(Instr.mapUpdate t (.map (some r)) (kV agg sh k) v).run P w=.ok () { w with heap:=w.heap.setIfInBounds r (.map (es.modify i fun e=>{ e with key:=kV agg sh k,val:=v }) clock) }) \/
  ((∀i,i<es.size->f i≠k)/\(Instr.mapUpdate t (.map (some r)) (kV agg sh k) v).run P w=.ok () { w with heap:=w.heap.setIfInBounds r (.map (es.push { key:=kV agg sh k,val:=v,born:=clock }) (clock+1)) }):=by
 obtain⟨res,e1,e2⟩:=uG (w:=w) Og hk es f hf;have hc:=Og.wX (w:=w) hk false;rcases e2 with⟨rfl,e2⟩|⟨i,hi,e2,rfl⟩
 ·refine .inr ⟨e2,?_⟩;simp only[Instr.mapUpdate,Sem.run_bind,run_underlying ht,Result.andThen_ok,MapKept.run_getObj_map hh,hc,e1];exact MapKept.run_setObj_map _ hh
 ·refine .inl ⟨i,hi,e2,?_⟩
  have pQ:(Instr.keyThatStays (((es[i]?).map (·.key)).getD (kV agg sh k)) (kV agg sh k)).run P w=.ok (kV agg sh k) w:=by
   have:((es[i]?).map (·.key)).getD (kV agg sh k)=kV agg sh k:=by
    rw[Array.getElem?_eq_getElem hi];show es[i].key=_;rw[(hf i hi).2,e2]
   rw[this];unfold Instr.keyThatStays;rw[if_pos (AX hk Og.Yb)];rfl
  simp only[Instr.mapUpdate,Sem.run_bind,run_underlying ht,Result.andThen_ok,MapKept.run_getObj_map hh,hc,e1,pQ];exact MapKept.run_setObj_map _ hh

theorem om(aJ:bp P tt)(hs:aF c s m a w ids){t:TypeId}{X Y Z:Operand}(ho:o.op=.mapUpdate t X Y Z\/o.op=.insert t X Y Z){K:KT}(h:K4 tt t (ev s X) (ev s Y) (ev s Z) m K)(hn:cq c s o K next):o.wp P a w next Q:=by
 have e:execOp a.eval o=(do Instr.mapUpdate t (a.eval X) (a.eval Y) (a.eval Z);pure .skip):=by
  obtain⟨dst,op,ty,pos,after,guard⟩:=o;simp only at ho;rcases ho with ho|ho<;>subst ho<;>rfl
 unfold K4 at h;obtain⟨kt,et,agg,sh,z,zv,h1,h2,_,_,h⟩:=kE aJ h (au c ids w) w;split at h
 ·rename_i k b hk EL aU;have hx:=hs.ev X;rw[EL] at hx;obtain⟨g1,g2⟩:=AW hk (hs.ev Y);have hv:=cz 4 _ _ aU (hs.ev Z);split at h
  ·rename_i jw uF has val Fb;split at h
   ·rename_i mU kM;have mU:=oh mU;have kM:=kC kM;subst mU;subst kM;rw[eI,eQ] at h;obtain⟨p,h5,h6⟩:=hs.EU hx (by rw[Fb];simp);obtain⟨x,lV,lJ⟩:=hs.eF h5;rw[bj lV] at Fb;subst Fb;obtain⟨es,clock,f,q1,q2,q3,q4,q5,q6,q7⟩:=lJ;rcases Oh h1 h2 g1 q1 (fun i hi=>⟨(q2 i hi).1,(q2 i hi).2.1⟩) (a.eval Z) with⟨i,hi,e1,e2⟩|⟨e1,e2⟩
    ·refine gS (by rw[e,h6,g2];simp only[Sem.run_bind,e2,Result.andThen_ok];rfl) (hn _ _ _ _ ids h (aF.kv (hs.setObj b p h5 _ _ ?_) _ _));intro w' iW KO;refine⟨_,clock,f,iW,?_,?_,?_,?_,?_,?_⟩
     ·intro j hj;have cj:j<es.size:=by simpa using hj
      rw[Array.getElem_modify];split
      ·rename_i kK;subst kK;exact⟨(q2 i cj).1,by rw[e1],by simp[nQ,e1]⟩
      ·exact⟨(q2 j cj).1,(q2 j cj).2.1,by
        unfold nQ;split
        ·rfl
        ·exact(q2 j cj).2.2⟩
     ·intro i j g3 g4;exact q3 i j (by simpa using g3) (by simpa using g4)
     ·intro k' g3 g4;unfold nQ at g4;split at g4
      ·rename_i he;subst he;exact⟨i,by simpa using hi,e1⟩
      ·obtain⟨j,hj,cj⟩:=q4 k' g3 g4;exact⟨j,by simpa using hj,cj⟩
     ·intro j hj;have cj:j<es.size:=by simpa using hj
      rw[Array.getElem_modify];split
      ·rename_i kK;subst kK;unfold qa;rw[if_pos e1];exact KO _ _ hv
      ·rename_i kK;unfold qa;rw[if_neg (fun he=>kK (q3 i j hi cj (by rw[e1,he])))];exact KO _ _ (q5 j cj)
     ·intro j hj;have cj:j<es.size:=by simpa using hj
      rw[Array.getElem_modify];split
      ·exact q6 j cj
      ·exact q6 j cj
     ·intro j j' hj cj he;have h1:j<es.size:=by simpa using hj
      have h2:j'<es.size:=by simpa using cj
      refine q7 j j' h1 h2 ?_;rw[Array.getElem_modify,Array.getElem_modify] at he;split at he<;>split at he<;>exact he
    ·refine gS (by rw[e,h6,g2];simp only[Sem.run_bind,e2,Result.andThen_ok];rfl) (hn _ _ _ _ ids h (aF.kv (hs.setObj b p h5 _ _ ?_) _ _));intro w' iW KO;obtain⟨F,F1,F2⟩:∃F:Nat->List KC,F es.size=k/\∀j,j<es.size->F j=f j:=⟨fun j=>if j=es.size then k else f j,by simp,fun j h=>by simp[Nat.ne_of_lt h]⟩;refine⟨_,clock+1,F,iW,?_,?_,?_,?_,?_,?_⟩
     ·intro j hj;have cj:j<es.size+1:=by simpa using hj
      rw[Array.getElem_push];split
      ·rename_i aD;rw[F2 j aD]
       exact⟨(q2 j aD).1,(q2 j aD).2.1,by
        unfold nQ;split
        ·rfl
        ·exact(q2 j aD).2.2⟩
      ·rename_i aD;have:j=es.size:=by omega
       rw[this,F1];exact⟨g1,rfl,by simp[nQ]⟩
     ·intro i j g3 g4 g5;have g3:i<es.size+1:=by simpa using g3
      have g4:j<es.size+1:=by simpa using g4
      by_cases hi:i<es.size<;>by_cases hj:j<es.size
      ·rw[F2 i hi,F2 j hj] at g5;exact q3 i j hi hj g5
      ·have:j=es.size:=by omega
       rw[this,F1,F2 i hi] at g5;exact absurd g5 (e1 i hi)
      ·have:i=es.size:=by omega
       rw[this,F1,F2 j hj] at g5;exact absurd g5.symm (e1 j hj)
      ·omega
     ·intro k' g3 g4;unfold nQ at g4;split at g4
      ·rename_i he;subst he;exact⟨es.size,by simp,F1⟩
      ·obtain⟨j,hj,cj⟩:=q4 k' g3 g4;exact⟨j,by simp;omega,by rw[F2 j hj];exact cj⟩
     ·intro j hj;have cj:j<es.size+1:=by simpa using hj
      rw[Array.getElem_push];split
      ·rename_i aD;rw[F2 j aD];unfold qa;rw[if_neg (e1 j aD)];exact KO _ _ (q5 j aD)
      ·rename_i aD;have:j=es.size:=by omega
       rw[this,F1];unfold qa;rw[if_pos rfl];exact KO _ _ hv
     ·intro j hj;rw[Array.getElem_push];split
      ·rename_i aD;exact Nat.lt_succ_of_lt (q6 j aD)
      ·exact Nat.lt_succ_self _
     ·intro j j' hj cj he;have h1:j<es.size+1:=by simpa using hj
      have h2:j'<es.size+1:=by simpa using cj
      rw[Array.getElem_push,Array.getElem_push] at he;split at he<;>split at he
      ·rename_i a b;exact q7 j j' a b he
      ·rename_i a b;have:=q6 j a;simp only at he;omega
      ·rename_i a b;have:=q6 j' b;simp only at he;omega
      ·omega
   ·exact h.elim
  ·exact h.elim
 ·exact h.elim

theorem xY(aJ:bp P tt)(hs:aF c s m a w ids){t:TypeId}(ho:o.op=.makeMap t none){K:KT}(h:Dg tt t m K)(hn:cq c s o K next):o.wp P a w next Q:=by
 have e:execOp a.eval o=(do pure (.value (<-Instr.makeMap t none))):=by
  obtain⟨dst,op,ty,pos,after,guard⟩:=o;simp only at ho;subst ho;rfl
 unfold Dg at h;obtain⟨kt,et,agg,sh,z,zv,h1,h2,_,_,h⟩:=kE aJ h (au c ids w) w;rw[fG] at h;have hb:=jE w (.map #[] 0)
 have lQ:(w.alloc (.map #[] 0)).heap[w.heap.size]?=some (.map #[] 0):=by
  show(w.heap.push _)[w.heap.size]?=_;simp
 have bH:=hs.grow hb [.eP agg sh (fun _=>false) (fun _=>.af)] [.lv (mkId w.heap.size 0 0 0)] rfl (fun i g1 g2=>by
   have:i=0:=by simp at g1;omega
   subst this;exact⟨#[],0,fun _=>[],lQ,(fun i h=>by simp at h),(fun i j h=>by simp at h),(fun k _ h=>by simp at h),(fun i h=>by simp at h),(fun i h=>by simp at h),(fun i j h=>by simp at h)⟩)
  (fun p hp x hx=>by
   simp at hp;subst hp;rw[cw hx];refine⟨Nat.le_refl _,?_⟩;show _<(w.heap.push _).size;simp) (fun vs h=>by simp at h) (fun i j p q x g1 g2 _ _=>by
   cases i with
   | zero=>cases j with
    | zero=>rfl
    | succ j=>simp at g2
   | succ i=>simp at g1)
 refine aR (v:=.map (some w.heap.size)) (w':=w.alloc (.map #[] 0)) (by rw[e];simp only[Sem.run_bind,RowKit.run_makeMap,Result.andThen_ok];rfl) (hn _ _ _ _ _ h (bH.bf o.dst (.omap m.length (mkId w.heap.size 0 0 0) ?_)));rw[<-hs.aL];simp
end
def rY{α:Type}(n:Nat)(f g:Nat->α):Nat->α:=fun i=>match Nat.blt i n with
 | true=>f i
 | false=>g (i-n)
theorem k9{α:Type}{n i:Nat}(f g:Nat->α)(h:i<n):rY n f g i=f i:=by
 unfold rY;rw[show Nat.blt i n=true from Nat.ble_eq_true_of_le h]
theorem la{α:Type}{n i:Nat}(f g:Nat->α)(h:n<=i):rY n f g i=g (i-n):=by
 unfold rY;split
 ·rename_i h';have:i<n:=Nat.le_of_ble_eq_true h';omega
 ·rfl
def xZ(tt:TT)(t:TypeId)(b':Nat)(s:List A)(m:List aq)(K:List A->A->List aq->Prop):Prop :=
 match tt.lookup t,m.getD b' .dead with
 | some ti,.row aN sz n' dI=>match ti.kind,Nat.beq ti.bB 1 with
  | 3,true=>dz ti.aN fun ty=>qk m b' .gone fun m1=>lL m1 (.nest ty aN sz 1 none (fun _=>n') (fun _=>dI)) fun b m'=>K s (.own b) m'
  | _,_=>False
 | _,_=>False
def K7(tt:TT)(t:TypeId)(b b2:Nat)(ty aN sz n:Nat)(len:Nat->Nat)(row:Nat->Nat->List A)(SU Dh RZ n2:Nat)(Di:Nat->Nat)(iU:Nat->Nat->List A)(s:List A)(m:List aq)(K:List A->A->List aq->Prop):Prop :=
 match tt.lookup t with
 | none=>False
 | some ti=>match ti.kind,Nat.beq ti.bB 1,Nat.beq ty ti.aN,Nat.beq SU ty,Nat.beq Dh aN,Nat.beq RZ sz,Nat.beq b b2,n2 with
  | 3,true,true,true,true,true,false,k+1=>dz ti.eD fun eb=>(n+(k+1)<=140737488355328/\(n+(k+1))*eb<=140737488355328) /\
   fd.qp 4 (s.map (uZ b 4)) fun s'=>qt (((m.map (AK b 4)).set b (.nest ty aN sz (n+(k+1)) none (rY n len Di) (rY n row iU))).set b2 .gone) fun m'=>K s' (.own b) m'
  | _,_,_,_,_,_,_,_=>False

def K8(tt:TT)(t:TypeId)(n:Nat)(s:List A)(m:List aq)(K:List A->A->List aq->Prop):Prop :=
 match tt.lookup t with
 | none=>False
 | some ti=>match ti.kind with
  | 3=>K s (.int .i64 n) m
  | _=>False
section
variable {c:Ctx} {s:List A} {m:List aq} {a:Act} {w w':World} {ids ab:dE} {P:Program} {im bo:Nat->Prop} {tt:TT} {G:aG}
variable {next:Act->World->Prop} {Q:Exit->Act->World->Prop} {o:Oper}

theorem vn(aJ:bp P tt)(hs:aF c s m a w ids){t:TypeId}{X:Operand}{b':Nat}(ho:o.op=.buildSlice t 1 #[(0,X)])(hX:ev s X=.own b')
  {K:List A->A->List aq->Prop} (h:xZ tt t b' s m K)
  (hn:∀s1 v m' a' w' ab,K s1 v m'->aF c (bf s1 o.dst v) m' a' w' ab->next a' w'):o.wp P a w next Q:=by
 have hx:=hs.ev X;rw[hX] at hx;unfold xZ at h;split at h
 ·rename_i ti aN sz n' dI jn gG;split at h
  ·rename_i hk he;have nZ:ti.bB=1:=Nat.eq_of_beq_eq_true he;rw[aO,eQ,fG] at h;obtain⟨i0,d,z0,_,hd,_,_,_,_,_,_,_,_,_,jt,_⟩:=aJ.facts jn;obtain⟨ie,ze,gk,iT,bL,Br,hz,pC,hne⟩:=jt hk;subst gk;obtain⟨AO,KO⟩:=getD_some (by simp) gG;have oa:b'<ids.length:=by rw[hs.aL];exact AO
   obtain⟨o1,o2⟩:=pe (by rfl) hx
   have bW:(Instr.buildSlice t 1 #[(0,a.eval X)]).run P w=.ok (.slice (some ⟨w.heap.size,0,none⟩) 1 1) (w.alloc (.cells #[a.eval X] ti.aN)):=by
    simp[Instr.buildSlice,underlying,hd,sizeOf,typeInfo,iT,bL,nZ,zeroValue,hz,Instr.fill,newRow,o2,show Array.range 1 = #[0] from rfl]
   obtain⟨v,hv⟩:∃v,a.eval X=v:=⟨_,rfl⟩;rw[hv] at bW hx;obtain⟨w',iW⟩:∃w',w.alloc (.cells #[v] ti.aN)=w':=⟨_,rfl⟩;rw[iW] at bW;have KA:w'.heap.size=w.heap.size+1:=by rw[<-iW];simp
   have lQ:w'.heap[w.heap.size]?=some (.cells #[v] ti.aN (0,0)):=by rw[<-iW];exact heap_alloc_new w _
   have hold:∀k,k<w.heap.size->w'.heap[k]?=w.heap[k]?:=fun k hk=>by rw[<-iW];exact Below.heap_alloc w _ k hk
   -- the inner E7 name
   have vU:∃x:Option Nat,(∀y,x=some y->∃q,ids[b']?=some (.lv q)/\q.ao=y) /\
     (∀im w',(∀y,x=some y->w'.heap[y]?=w.heap[y]?)->(∀u v,aw (au c ids w) w u v->aw im w' u v)->nI im w' aN sz n' dI v x):=by
    rcases nh hs hx gG with⟨e1,e2,e3⟩|⟨q,cap,e1,e2,e3,e4,e5,e6⟩
    ·exact⟨none,(fun y h=>by cases h),fun _ _ _ _=>.inl ⟨e2,e1,rfl⟩⟩
    ·have Hp:=hs.bC b' AO oa;rw[List.getElem?_eq_getElem oa] at e1;rw[KO,Option.some.inj e1] at Hp;obtain⟨q1,q2,us,q3,q4,q5,q6,q7⟩:=Hp;refine⟨some q.ao,(fun y h=>by cases h;exact⟨q,by rw[List.getElem?_eq_getElem oa];exact e1,rfl⟩),fun im w' hk hm=>.inr ⟨q.ao,cap,us,e6,rfl,by rw[hk _ rfl];exact q3,by rw[q4,e3],e2.1,e2.2,q6,fun i' j bV h h'=>⟨hm _ _ (q7 i' j bV h h').1,(q7 i' j bV h h').2⟩⟩⟩
   obtain⟨x,wa,UR⟩:=vU
   have R0:∀y,x=some y->y<w.heap.size:=fun y hy=>by
    obtain⟨q,q1,q2⟩:=wa y hy;exact(hs.ar q (List.mem_of_getElem? q1) y (.inl q2.symm)).2
   let p':Id:=⟨w.heap.size,1,1,1,fun y=>x=some y,fun _=>none⟩
   let ab:=ids.set b' .av++[.lv p']
   have NN:ab.length=ids.length+1:=by simp[ab]
   have bG:∀k,k<ids.length->k≠b'->ab[k]?=ids[k]?:=by
    intro k hk hne;simp only[ab];rw[List.getElem?_append_left (by simpa using hk),List.getElem?_set_ne (fun e=>hne e.symm)]
   have iK:ab[b']?=some .av:=by
    simp only[ab];rw[List.getElem?_append_left (by simpa using oa),List.getElem?_set_self oa]
   have jG:ab[ids.length]?=some (.lv p'):=by
    simp only[ab];rw[List.getElem?_append_right (by simp)];simp
   have bg:∀(k:Nat) (r:Id),ab[k]?=some (.lv r)->(k=ids.length/\r=p')\/(k≠b'/\k<ids.length/\ids[k]?=some (.lv r)):=by
    intro k r h;by_cases qv:k=b'
    ·subst qv;rw[iK] at h;cases h
    ·rcases Nat.lt_trichotomy k ids.length with hk|hk|hk
     ·rw[bG k hk qv] at h;exact .inr ⟨qv,hk,h⟩
     ·subst hk;rw[jG] at h;cases h;exact .inl ⟨rfl,rfl⟩
     ·rw[List.getElem?_eq_none (by omega)] at h;cases h
   have aU:∀r,dT.lv r∈ab->∀y,r.has y->y<w'.heap.size/\(w.heap.size<=y\/∃(b:Nat) (p:Id),ids[b]?=some (.lv p)/\p.has y):=by
    intro r hr y hy;rw[KA];obtain⟨k,hk⟩:=List.getElem?_of_mem hr;rcases bg k r hk with⟨_,rfl⟩|⟨_,_,e⟩
    ·rcases hy with h|h
     ·have h:y=w.heap.size:=h;exact⟨by omega,.inl (by omega)⟩
     ·obtain⟨q,q1,q2⟩:=wa y h;have hq:q.has y:=.inl q2.symm;have:=R0 y h;exact⟨by omega,.inr ⟨b',q,q1,hq⟩⟩
    ·have:=(hs.ar r (List.mem_of_getElem? e) y hy).2;exact⟨by omega,.inr ⟨k,r,e,hy⟩⟩
   obtain⟨dJ,dB⟩:=hs.cP (w':=w') (ab:=ab) (by omega) (fun k hk _=>hold k hk) aU
   have hd:∀(k:Nat) r,k≠b'->ids[k]?=some r->r≠.dead->∃q,ab[k]?=some q/\iN r q:=by
    intro k r hk hr _
    have aD:k<ids.length:=by
     rcases Nat.lt_or_ge k ids.length with h'|h'
     ·exact h'
     ·rw[List.getElem?_eq_none h'] at hr;cases hr
    exact⟨r,by rw[bG k aD hk];exact hr,eU r⟩
   have lN:∀u v,aw (au c ids w) w u v->aw (au c ab w') w' u v:=fun u v h=>h.mono dJ dB
   have hS:aF c s (m.set b' .gone++[.nest ti.aN aN sz 1 none (fun _=>n') (fun _=>dI)]) a w' ab:=by
    refine hs.lU (by rw[<-iW];rfl) (by rw[<-iW];rfl) (by rw[<-iW];rfl) (by omega) (fun k hk _=>hold k hk) aU (fun vs h=>by
     simp only[ab] at h;rcases List.mem_append.1 h with h|h
     ·rcases List.mem_or_eq_of_mem_set h with h|h
      ·exact h
      ·cases h
     ·simp at h) ?_ rfl (by simp[ab,hs.aL]) (fun k h h'=>(hs.bI k h h').fK dJ dB hd iK) ?_ (.of (by rw[<-iW];exact Nat.le_refl _))
    ·intro k k' r r' y e1 e2 x1 x2;rcases bg k r e1 with⟨rfl,rfl⟩|⟨ne,aD,e⟩<;>rcases bg k' r' e2 with⟨rfl,rfl⟩|⟨ne',hlt',e'⟩
     ·rfl
     ·exfalso;have hy:=(hs.ar r' (List.mem_of_getElem? e') y x2).2;rcases x1 with h|h
      ·have h:y=w.heap.size:=h;omega
      ·obtain⟨q,q1,q2⟩:=wa y h;exact ne' (hs.aj _ _ r' q y e' q1 x2 (.inl q2.symm))
     ·exfalso;have hy:=(hs.ar r (List.mem_of_getElem? e) y x1).2;rcases x2 with h|h
      ·have h:y=w.heap.size:=h;omega
      ·obtain⟨q,q1,q2⟩:=wa y h;exact ne (hs.aj _ _ r q y e q1 x1 (.inl q2.symm))
     ·exact hs.aj k k' r r' y e e' x1 x2
    ·intro k hk gv;have gJ:ab[k]?=some ab[k]:=List.getElem?_eq_getElem gv;simp only[List.length_append,List.length_set,List.length_singleton] at hk;rcases Nat.lt_or_ge k m.length with pF|pF
     ·rw[List.getElem_append_left (by simpa using pF),List.getElem_set];split
      ·rename_i he;subst he;rw[iK] at gJ;rw[<-Option.some.inj gJ];exact rfl
      ·rename_i he;have pj:k<ids.length:=by rw[hs.aL];exact pF
       rw[bG k pj (fun e=>he e.symm),List.getElem?_eq_getElem pj] at gJ;rw[<-Option.some.inj gJ];refine(hs.bC k pF pj).fK dJ dB hd iK (fun q hq y hy=>hold y ?_);exact(hs.ar q (by rw[<-hq];exact List.getElem_mem _) y hy).2
     ·have Cc:k=ids.length:=by rw[hs.aL];omega
      have e2:ab[k]?=some (.lv p'):=by rw[show k=ids.length from Cc];exact jG
      have gJ:dT.lv p'=ab[k]:=Option.some.inj (e2.symm.trans gJ);rw[<-gJ,List.getElem_append_right (by simpa using pF)];simp only[List.length_set,show k-m.length=0 by omega,List.getElem_cons_zero];refine⟨rfl,rfl,?_,#[v],lQ,rfl,Nat.le_refl _,fun _=>x,?_⟩
      ·intro h;have h:x=some w.heap.size:=h;have:=R0 _ h;omega
      ·intro i hi _ FX;have Y9:i=0:=by omega
       subst Y9;refine⟨UR _ _ (fun y hy=>hold y (R0 y hy)) lN,fun y hy=>hy,fun j hj _ _ _=>by omega⟩
   refine aR (v:=.slice (some ⟨w.heap.size,0,none⟩) 1 1) (w':=w') ?_ (hn s _ _ _ _ ab h (hS.bf o.dst ?_))
   ·unfold execOp;rw[ho];simp[hv,bW]
   ·have bZ:ab[(m.set b' .gone).length]?=some (.lv p'):=by rw[List.length_set,<-hs.aL];exact jG
    exact .own _ 1 p' bZ ⟨Nat.le_refl _,by simp[maxLen]⟩ rfl
  ·exact h.elim
 ·exact h.elim

theorem nI.one{aN:TypeId}{sz n:Nat}{row:Nat->List A}{v:Value}{x:Option Nat}(h:nI im w aN sz n row v x):v.oneCell'=true:=by
 rcases h with⟨rfl,_⟩|⟨q,cap,vs,rfl,_⟩<;>rfl
/-- What a nest's block holds. -/
theorem wi(hs:aF c s m a w ids){b:Nat}{v:Value}(hx:Rel ids (au c ids w) w (.own b) v){ty aN:TypeId}{sz n:Nat}{len:Nat->Nat}{row:Nat->Nat->List A}(hb:m.getD b .dead=.nest ty aN sz n none len row):
  ∃(xs:List Value) (kx:Nat->Option Nat),xs.length=n/\(∀i (hi:i<xs.length),nI (au c ids w) w aN sz (len i) (row i) xs[i] (kx i)) /\
   (∀i,i<n->∀y,kx i=some y->∃p,ids[b]?=some (.lv p)/\p.Ay y)/\(∀p,ids[b]?=some (.lv p)->¬p.Ay p.ao)/\(∀i j,i<n->j<n->kx j=kx i->kx i≠none->j=i) /\
   ((v=.slice none 0 0/\n=0/\xs=[])\/∃p cap cur,ids[b]?=some (.lv p)/\v=.slice (some ⟨p.ao,0,none⟩) n cap/\w.heap[p.ao]?=some (.cells cur ty (0,0))/\n<=cap/\cap<=maxLen/\cur.size=cap/\cur.toList.take n=xs):=by
 obtain⟨ly,hm⟩:=getD_some (by simp) hb;have eR:b<ids.length:=by rw[hs.aL];exact ly
 have hB:=hs.bC b ly eR;rw[hm] at hB;rcases hs.fL hx (by rw[hb];simp) with⟨h1,h2⟩|⟨p,cap,h1,h2,h3,h4⟩
 ·have:ids[b]=.aQ:=by rw[List.getElem?_eq_getElem eR] at h1;exact Option.some.inj h1
  rw[this] at hB;have hB:n=0:=hB;subst hB;exact⟨[],fun _=>none,rfl,fun i hi=>by simp at hi,fun i hi=>by omega,(fun p hp=>by rw[h1] at hp;cases hp),fun i j hi=>by omega,.inl ⟨h2,rfl,rfl⟩⟩
 ·have:ids[b]=.lv p:=by rw[List.getElem?_eq_getElem eR] at h1;exact Option.some.inj h1
  rw[this] at hB;obtain⟨g1,g2,g3,vs,e1,e2,e3,kb,e4⟩:=hB;have hl:(vs.toList.take n).length=n:=by rw[List.length_take,Array.length_toList];omega
  refine⟨vs.toList.take n,kb,hl,fun i hi=>?_,fun i hi y hy=>⟨p,h1,(e4 i hi (by simp) (by omega)).2.1 y hy⟩,(fun p' hp=>by rw[h1] at hp;cases hp;exact g3),
   fun i j hi hj h1 h2=>(e4 i hi (by simp) (by omega)).2.2 j hj (by simp) h1 h2,.inr ⟨p,cap,vs,h1,by rw[h4,g2],e1,by omega,h2.2,by rw[e2,<-h3,g1];omega,rfl⟩⟩
  have bV:i<n:=by omega
  have:=(e4 i bV (by simp) (by omega)).1;simpa using this

theorem AY(aJ:bp P tt)(hs:aF c s m a w ids){t:TypeId}{X Y:Operand}{b b2:Nat}(ho:o.op=.call { callee:=.builtin .append,args:=#[X,Y],argTypes:=#[t,t] })(hX:ev s X=.own b)(hY:ev s Y=.own b2)
  {ty aN:TypeId} {sz n:Nat} {len:Nat->Nat} {row:Nat->Nat->List A} {SU Dh:TypeId} {RZ n2:Nat} {Di:Nat->Nat} {iU:Nat->Nat->List A}
  (hb:m.getD b .dead=.nest ty aN sz n none len row) (kM:m.getD b2 .dead=.nest SU Dh RZ n2 none Di iU)
  {K:List A->A->List aq->Prop} (h:K7 tt t b b2 ty aN sz n len row SU Dh RZ n2 Di iU s m K)
  (hn:∀s1 v m' a' w' ab,K s1 v m'->aF c (bf s1 o.dst v) m' a' w' ab->next a' w'):o.wp P a w next Q:=by
 have hx:=hs.ev X;have hy:=hs.ev Y;rw[hX] at hx;rw[hY] at hy
 have e:(execOp a.eval o)=(do pure (.value (<-Builtin.append_ #[t,t] o.type #[a.eval X,a.eval Y]))):=by
  obtain⟨dst,op,ty,pos,after,guard⟩:=o;simp only at ho;subst ho;simp[execOp,resolve,invoke,builtin]
 unfold K7 at h;split at h
 ·exact h.elim
 ·rename_i ti jn;split at h
  ·rename_i k hk he q1 q2 q3 q4 q5;have nZ:ti.bB=1:=Nat.eq_of_beq_eq_true he;obtain rfl:=Nat.eq_of_beq_eq_true q1;obtain rfl:=Nat.eq_of_beq_eq_true q2;obtain rfl:=Nat.eq_of_beq_eq_true q3;obtain rfl:=Nat.eq_of_beq_eq_true q4;have hne:b≠b2:=fun e=>by subst e;rw[Nat.beq_refl] at q5;cases q5
   rw[aO] at h;obtain⟨⟨BD,sj⟩,h⟩:=h;rw[cK,dQ] at h;obtain⟨i0,d,z0,_,hd,_,_,_,_,_,_,_,_,_,jt,_⟩:=aJ.facts jn;obtain⟨ie,ze,gk,iT,bL,Br,hz,pC,hne0⟩:=jt hk;subst gk;have GK:ze.cells.size=ie.size:=by rw[pC,bL]
   have sg:ie.size=1:=by rw[bL,nZ]
   obtain⟨ly,hm⟩:=getD_some (by simp) hb;have eR:b<ids.length:=by rw[hs.aL];exact ly
   obtain⟨Yc,qO⟩:=getD_some (by simp) kM;have Yd:b2<ids.length:=by rw[hs.aL];exact Yc
   obtain⟨xs,kx,x1,x2,x3,x4,x5,x6⟩:=wi hs hx hb;obtain⟨ys,ky,y1,y2,y3,y4,y5,y6⟩:=wi hs hy kM
   obtain⟨q,RU,Ye,r1,r2,r3,r4,r5,r6,r7⟩:∃p cap cur,ids[b2]?=some (.lv p)/\a.eval Y=.slice (some ⟨p.ao,0,none⟩) (k+1) cap/\w.heap[p.ao]?=some (.cells cur ti.aN (0,0))/\k+1<=cap/\cap<=maxLen/\cur.size=cap/\cur.toList.take (k+1)=ys:=by
    rcases y6 with⟨_,h,_⟩|h
    ·omega
    ·exact h
   have RC:(a.eval Y=.slice none 0 0/\k+1=0/\ys=[])\/∃ad cp,a.eval Y=.slice (some ad) (k+1) cp/\ys.length=(k+1)*ie.size/\(∀j u,ys[j]?=some u->w.cell? (ad.add j)=some u):=by
    refine .inr ⟨⟨q.ao,0,none⟩,RU,r2,by rw[sg,y1];omega,fun j u hu=>?_⟩;have Kz:(⟨q.ao,0,none⟩:Addr).add j=⟨q.ao,j,none⟩:=by unfold Addr.add;split<;>simp_all
    rw[Kz,cell_of_row w q.ao j Ye ti.aN (0,0) r3];rw[<-r7,List.getElem?_take] at hu;split at hu
    ·simpa using hu
    ·cases hu
   have NM:(a.eval X=.slice none 0 0/\n=0/\xs=[])\/∃g cap cur,a.eval X=.slice (some ⟨g,0,none⟩) n cap/\w.heap[g]?=some (.cells cur ti.aN (0,0))/\n<=cap/\cap<=maxLen/\cur.size=cap*ie.size/\cur.toList.take (n*ie.size)=xs:=by
    rcases x6 with h|⟨p,cap,cur,e1,e2,e3,e4,e5,e6,e7⟩
    ·exact .inl h
    ·exact .inr ⟨p.ao,cap,cur,e2,e3,e4,e5,by rw[sg,e6];omega,by rw[sg,Nat.mul_one];exact e7⟩
   have Fc:(a.eval X).ownBlock=none\/∃p,ids[b]?=some (.lv p)/\(a.eval X).ownBlock=some p.ao:=by
    rcases x6 with⟨h,_⟩|⟨p,cap,cur,e1,e2,_⟩
    ·exact .inl (by rw[h];rfl)
    ·exact .inr ⟨p,e1,by rw[e2];rfl⟩
   obtain⟨v',w',bW,o1,o2,o3,o4,o5,NU,o6⟩:=lA (P:=P) (w:=w) t o.type ti.aN ie ze hd iT hz GK (a.eval X) n xs NM (a.eval Y) (k+1) ys RC
    (fun u hu=>by obtain⟨i,hi,rfl⟩:=List.getElem_of_mem hu;exact(y2 i hi).one) BD (by rw[Br];exact sj)
   rcases o6 with⟨_,hz0⟩|⟨g,cap,cur,rfl,g1,g2,g3,g4,g5,g6,g7⟩
   ·omega
   rw[sg] at g4 g5;rw[Nat.mul_one] at g4 g5
   have hblk:∀k,k<w.heap.size->(∀p,ids[b]?=some (.lv p)->p.ao≠k)->w'.heap[k]?=w.heap[k]?:=by
    intro k hk hp;refine o5 k hk (fun e=>?_);rcases Fc with h|⟨p,h1,h2⟩
    ·rw[h] at e;cases e
    ·rw[h2] at e;exact hp p h1 (Option.some.inj e)
   have fI:∀k,k<w.heap.size->(∀(b:Nat) (p:Id),ids[b]?=some (.lv p)->¬p.has k)->w'.heap[k]?=w.heap[k]?:=fun k hk hp=>hblk k hk (fun p h1 h2=>hp b p h1 (.inl h2.symm))
   let p':Id:=⟨g,cur.size,n+(k+1),1,fun y=>(∃i,i<n/\kx i=some y)\/∃i,i<k+1/\ky i=some y,fun _=>none⟩
   let ab:=(ids.set b (.lv p')).set b2 .av
   have bG:∀k,k≠b->k≠b2->ab[k]?=ids[k]?:=by
    intro k h1 h2;simp only[ab];rw[List.getElem?_set_ne (fun e=>h2 e.symm),List.getElem?_set_ne (fun e=>h1 e.symm)]
   have dS:ab[b]?=some (.lv p'):=by
    simp only[ab];rw[List.getElem?_set_ne (fun e=>hne e.symm),List.getElem?_set_self eR]
   have x7:ab[b2]?=some .av:=by
    simp only[ab];rw[List.getElem?_set_self (by simpa using Yd)]
   have bg:∀(k:Nat) (r:Id),ab[k]?=some (.lv r)->(k=b/\r=p')\/(k≠b/\k≠b2/\ids[k]?=some (.lv r)):=by
    intro k r h;by_cases qv:k=b
    ·subst qv;rw[dS] at h;cases h;exact .inl ⟨rfl,rfl⟩
    ·by_cases uA:k=b2
     ·subst uA;rw[x7] at h;cases h
     ·rw[bG k qv uA] at h;exact .inr ⟨qv,uA,h⟩
   -- Zy a block of the new nest was
   have U6:∀y,p'.has y->(w.heap.size<=y/\y=g)\/∃(b':Nat) (p:Id),(b'=b\/b'=b2)/\ids[b']?=some (.lv p)/\p.has y:=by
    rintro y (h|⟨i,hi,h⟩|⟨i,hi,h⟩)
    ·have h:y=g:=h;rcases g7 with h'|h'
     ·exact .inl ⟨by omega,h⟩
     ·rcases Fc with h1|⟨p,h1,h2⟩
      ·rw[h1] at h';cases h'
      ·rw[h2] at h';exact .inr ⟨b,p,.inl rfl,h1,.inl (by rw[h];exact(Option.some.inj h').symm)⟩
    ·obtain⟨p,h1,h2⟩:=x3 i hi y h;exact .inr ⟨b,p,.inl rfl,h1,.inr h2⟩
    ·obtain⟨p,h1,h2⟩:=y3 i hi y h;exact .inr ⟨b2,p,.inr rfl,h1,.inr h2⟩
   have aU:∀r,dT.lv r∈ab->∀y,r.has y->y<w'.heap.size/\(w.heap.size<=y\/∃(b:Nat) (p:Id),ids[b]?=some (.lv p)/\p.has y):=by
    intro r hr y hy;obtain⟨k,hk⟩:=List.getElem?_of_mem hr;rcases bg k r hk with⟨_,rfl⟩|⟨_,_,e⟩
    ·rcases U6 y hy with⟨h1,h2⟩|⟨b',p,_,h1,h2⟩
     ·exact⟨by omega,.inl h1⟩
     ·exact⟨Nat.lt_of_lt_of_le (hs.ar p (List.mem_of_getElem? h1) y h2).2 o4,.inr ⟨b',p,h1,h2⟩⟩
    ·exact⟨Nat.lt_of_lt_of_le (hs.ar r (List.mem_of_getElem? e) y hy).2 o4,.inr ⟨k,r,e,hy⟩⟩
   obtain⟨dJ,dB⟩:=hs.cP (w':=w') (ab:=ab) o4 fI aU
   -- first the names of b are Yf, then b2 is gone
   have Zz:∀(b':Nat) p,b'≠b->ids[b']?=some p->p≠.dead->∃q,(ids.set b .dead)[b']?=some q/\iN p q:=by
    intro b' p gG hp _;exact⟨p,by rw[List.getElem?_set_ne (fun e=>gG e.symm)];exact hp,eU p⟩
   have ZA:∀(b':Nat) p,b'≠b2->(ids.set b .dead)[b']?=some p->p≠.dead->∃q,ab[b']?=some q/\iN p q:=by
    intro b' p gG hp Pq;by_cases sN:b'=b
    ·subst sN;rw[List.getElem?_set_self eR] at hp;cases hp;exact absurd rfl Pq
    ·rw[List.getElem?_set_ne (fun e=>sN e.symm)] at hp;exact⟨p,by rw[bG b' sN gG];exact hp,eU p⟩
   have lN:∀u v,aw (au c ids w) w u v->aw (au c ab w') w' u v:=fun u v h=>h.mono dJ dB
   have hkx:∀i,i<n->∀y,kx i=some y->w'.heap[y]?=w.heap[y]?:=by
    intro i hi y hy;obtain⟨p,h1,h2⟩:=x3 i hi y hy;refine hblk y (hs.ar p (List.mem_of_getElem? h1) y (.inr h2)).2 (fun p0 h0 e0=>?_);rw[h1] at h0;cases h0;exact x4 p h1 (by rw[e0];exact h2)
   have hky:∀i,i<k+1->∀y,ky i=some y->w'.heap[y]?=w.heap[y]?:=by
    intro i hi y hy;obtain⟨p,h1,h2⟩:=y3 i hi y hy;refine hblk y (hs.ar p (List.mem_of_getElem? h1) y (.inr h2)).2 (fun p0 h0 e0=>?_);exact hne (hs.aj b b2 p0 p y h0 h1 (.inl e0.symm) (.inr h2))
   have hS:aF c (s.map (uZ b 4)) (((m.map (AK b 4)).set b (.nest ti.aN Dh RZ (n+(k+1)) none (rY n len Di) (rY n row iU))).set b2 .gone) a w' ab:=by
    refine hs.lU o1 o2 o3 o4 fI aU (fun vs h=>by
     simp only[ab] at h;rcases List.mem_or_eq_of_mem_set h with h|h
     ·rcases List.mem_or_eq_of_mem_set h with h|h
      ·exact h
      ·cases h
     ·cases h) ?_ (by simp) (by simp[ab,hs.aL]) ?_ ?_ NU
    ·intro k k' r r' y e1 e2 z1 z2
     have go:∀(kk:Nat) (rr:Id),kk≠b->kk≠b2->ids[kk]?=some (.lv rr)->p'.has y->rr.has y->False:=by
      intro kk rr n1 n2 ek a1 a2;have aD:=(hs.ar rr (List.mem_of_getElem? ek) y a2).2;rcases U6 y a1 with⟨h1,_⟩|⟨b',p,gG,h1,h2⟩
      ·omega
      ·have:=hs.aj _ _ p rr y h1 ek h2 a2;rcases gG with rfl|rfl
       ·exact n1 this.symm
       ·exact n2 this.symm
     rcases bg k r e1 with⟨rfl,rfl⟩|⟨ne,KP,e⟩<;>rcases bg k' r' e2 with⟨rfl,rfl⟩|⟨ne',KQ,e'⟩
     ·rfl
     ·exact(go k' r' ne' KQ e' z1 z2).elim
     ·exact(go k r ne KP e z2 z1).elim
     ·exact hs.aj k k' r r' y e e' z1 z2
    ·intro k h h';rw[List.getElem_map];have q0:=mN (bo:=au c ids w) (w':=w) (ab:=ids.set b .dead) (fun _ h=>h) (fun _ _=>rfl) Zz 4 _ _ (hs.bI k (by simpa using h) h');exact q0.fK dJ dB ZA x7
    ·intro k hk gv;have gJ:ab[k]?=some ab[k]:=List.getElem?_eq_getElem gv;simp only[List.length_set,List.length_map] at hk;rw[List.getElem_set];split
     ·rename_i he;subst he;rw[x7] at gJ;rw[<-Option.some.inj gJ];exact rfl
     ·rename_i he;rw[List.getElem_set];split
      ·rename_i gL;subst gL;rw[dS] at gJ;rw[<-Option.some.inj gJ]
       have Yg:∀i (hi:i<(xs++ys).length) (hv:i<cur.size),cur[i]=(xs++ys)[i]:=by
        intro i hi hv;have dB:i<n+(k+1):=by rw[List.length_append,x1,y1] at hi;exact hi
        simp only[<-g5];simp
       refine⟨rfl,rfl,?_,cur,g1,rfl,by show n+(k+1)<=cur.size;omega,rY n kx ky,?_⟩
       ·rintro(⟨i,hi,h⟩|⟨i,hi,h⟩)
        ·obtain⟨p,h1,h2⟩:=x3 i hi _ h;rcases g7 with h'|h'
         ·have h':w.heap.size<=p'.ao:=h';have:=(hs.ar p (List.mem_of_getElem? h1) _ (.inr h2)).2;omega
         ·rcases Fc with h3|⟨p0,h3,h4⟩
          ·rw[h3] at h';cases h'
          ·rw[h4] at h';rw[h1] at h3;cases h3;have e0:p.ao=p'.ao:=Option.some.inj h';exact x4 p h1 (by rw[e0];exact h2)
        ·obtain⟨p,h1,h2⟩:=y3 i hi _ h;rcases g7 with h'|h'
         ·have h':w.heap.size<=p'.ao:=h';have:=(hs.ar p (List.mem_of_getElem? h1) _ (.inr h2)).2;omega
         ·rcases Fc with h3|⟨p0,h3,h4⟩
          ·rw[h3] at h';cases h'
          ·rw[h4] at h';have e0:p0.ao=p'.ao:=Option.some.inj h';exact hne (hs.aj b b2 p0 p p'.ao h3 h1 (.inl e0.symm) (.inr h2))
       ·intro i hi _ hv;have hl:(xs++ys).length=n+(k+1):=by rw[List.length_append,x1,y1]
        rw[Yg i (by omega) hv];rcases Nat.lt_or_ge i n with qu|qu
        ·rw[k9 _ _ qu,k9 _ _ qu,k9 _ _ qu,List.getElem_append_left (by omega)];refine⟨(x2 i (by omega)).mono dJ dB (hkx i qu),fun y hy=>.inl ⟨i,qu,hy⟩,fun j hj _ e1 e2=>?_⟩;rcases Nat.lt_or_ge j n with Oi|Oi
         ·rw[k9 _ _ Oi] at e1;exact x5 i j qu Oi e1 e2
         ·rw[la _ _ Oi] at e1;exfalso;obtain⟨y,hy⟩:=Option.ne_none_iff_exists'.1 e2;obtain⟨p,h1,h2⟩:=x3 i qu y hy;obtain⟨p2,h3,h4⟩:=y3 (j-n) (by omega) y (by rw[e1,hy]);exact hne (hs.aj b b2 p p2 y h1 h3 (.inr h2) (.inr h4))
        ·rw[la _ _ qu,la _ _ qu,la _ _ qu,List.getElem_append_right (by omega)];have ei:i-xs.length=i-n:=by rw[x1]
         simp only[ei];refine⟨(y2 (i-n) (by omega)).mono dJ dB (hky (i-n) (by omega)),fun y hy=>.inr ⟨i-n,by omega,hy⟩,fun j hj _ e1 e2=>?_⟩;rcases Nat.lt_or_ge j n with Oi|Oi
         ·rw[k9 _ _ Oi] at e1;exfalso;obtain⟨y,hy⟩:=Option.ne_none_iff_exists'.1 e2;obtain⟨p,h1,h2⟩:=y3 (i-n) (by omega) y hy;obtain⟨p2,h3,h4⟩:=x3 j Oi y (by rw[e1,hy]);exact hne (hs.aj b b2 p2 p y h3 h1 (.inr h4) (.inr h2))
         ·rw[la _ _ Oi] at e1;have:=y5 (i-n) (j-n) (by omega) (by omega) e1 e2;omega
      ·rename_i gL;have pj:k<ids.length:=by rw[hs.aL];exact hk
       rw[bG k (fun e=>gL e.symm) (fun e=>he e.symm),List.getElem?_eq_getElem pj] at gJ;rw[<-Option.some.inj gJ,List.getElem_map];have q0:=aX.Pn (bo:=au c ids w) (w':=w) (ab:=ids.set b .dead) (fun _ h=>h) (fun _ _=>rfl) Zz 4 (fun _ _ _ _=>rfl) (hs.bC k hk pj);refine q0.fK dJ dB ZA x7 (fun r hr y hy=>?_);have er:ids[k]?=some (.lv r):=by rw[List.getElem?_eq_getElem pj,hr]
       exact hblk y (hs.ar r (List.mem_of_getElem? er) y hy).2 (fun p h1 h2=>gL (hs.aj b k p r y h1 er (.inl h2.symm) hy))
   refine aR (v:=.slice (some ⟨g,0,none⟩) (n+(k+1)) cap) (w':=w') (by rw[e];simp[bW]) (hn _ _ _ _ _ _ h (hS.bf o.dst (.own b cap p' dS ⟨g2,g3⟩ ?_)));show cap*1=cur.size;omega
  ·exact h.elim
theorem AZ(aJ:bp P tt)(hs:aF c s m a w ids){t:TypeId}{X:Operand}{b:Nat}(ho:o.op=.call { callee:=.builtin .len,args:=#[X],argTypes:=#[t] })(hX:ev s X=.own b)
  {ty aN:TypeId} {sz n:Nat} {hole:Option Nat} {len:Nat->Nat} {row:Nat->Nat->List A} (hb:m.getD b .dead=.nest ty aN sz n hole len row)
  {K:List A->A->List aq->Prop} (h:K8 tt t n s m K)
  (hn:∀s1 v m' a' w' ab,K s1 v m'->aF c (bf s1 o.dst v) m' a' w' ab->next a' w'):o.wp P a w next Q:=by
 have hx:=hs.ev X;rw[hX] at hx
 have e:(execOp a.eval o)=(do pure (.value (<-Builtin.len_ #[t] o.type #[a.eval X]))):=by
  obtain⟨dst,op,ty,pos,after,guard⟩:=o;simp only at ho;subst ho;rw[BigFrame.execOp_builtin,BigFrame.builtin_len];simp
 unfold K8 at h;split at h
 ·exact h.elim
 ·rename_i ti jn;split at h
  ·rename_i hk;obtain⟨i0,d,z0,_,hd,_,_,_,_,_,_,_,_,_,jt,_⟩:=aJ.facts jn;obtain⟨ie,ze,gk,_⟩:=jt hk;subst gk;obtain⟨ly,hm⟩:=getD_some (by simp) hb;have eR:b<ids.length:=by rw[hs.aL];exact ly
   have hB:=hs.bC b ly eR;rw[hm] at hB
   have hv:∃ad cap,a.eval X=.slice ad n cap:=by
    rcases hs.fL hx (by rw[hb];simp) with⟨h1,h2⟩|⟨p,cap,h1,h2,h3,h4⟩
    ·have:ids[b]=.aQ:=by rw[List.getElem?_eq_getElem eR] at h1;exact Option.some.inj h1
     rw[this] at hB;have hB:n=0:=hB;subst hB;exact⟨_,_,h2⟩
    ·have:ids[b]=.lv p:=by rw[List.getElem?_eq_getElem eR] at h1;exact Option.some.inj h1
     rw[this] at hB;have e2:p.n=n:=hB.2.1;exact⟨_,_,by rw[h4,e2]⟩
   obtain⟨ad,cap,hv⟩:=hv;refine aR (v:=.int .i64 n) (w':=w) ?_ (hn s _ m _ _ ids h (hs.bf o.dst (.aI (.int _ _))));rw[e,hv];simp[Builtin.len_,underlying,hd,goInt]
  ·exact h.elim
end
/-- How many entries a map has: as many as any list of them, each once. -/
def Sa(sh:List KS)(has:List KC->Bool)(K:A->Prop):Prop :=
 ∀keys:List (List KC),keys.Nodup->(∀k∈keys,iD sh k/\has k=true)->(∀k,iD sh k->has k=true->k∈keys)->K (.int .i64 keys.length)
def pt(tt:TT)(t:TypeId)(x:A)(m:List aq)(K:A->Prop):Prop :=
 kD tt t fun _ _ _=>match x with
  | .mv _ sh has _=>Sa sh has K
  | .omap b=>match m.getD b .dead with
   | .eP _ sh has _=>Sa sh has K
   | _=>False
  | _=>False
section
variable {c:Ctx} {s:List A} {m:List aq} {a:Act} {w w':World} {ids ab:dE} {P:Program} {im bo:Nat->Prop} {tt:TT} {G:aG}
variable {next:Act->World->Prop} {Q:Exit->Act->World->Prop} {o:Oper}
theorem Fe{sh:List KS}{has:List KC->Bool}{K:A->Prop}{n:Nat}{f:Nat->List KC}(hk:∀i,i<n->iD sh (f i)/\has (f i)=true)(hd:∀i j,i<n->j<n->f i=f j->i=j)
  (hc:∀k,iD sh k->has k=true->∃i,i<n/\f i=k) (h:Sa sh has K):K (.int .i64 n):=by
 have h:=h ((List.range n).map f) ?_ ?_ ?_
 ·simpa using h
 ·unfold List.Nodup;rw[List.pairwise_map];exact List.Pairwise.imp_of_mem (fun ha hb yw e=>yw (hd _ _ (List.mem_range.1 ha) (List.mem_range.1 hb) e)) List.nodup_range
 ·intro k gv;obtain⟨i,hi,rfl⟩:=List.mem_map.1 gv;exact hk i (List.mem_range.1 hi)
 ·intro k h1 h2;obtain⟨i,hi,rfl⟩:=hc k h1 h2;exact List.mem_map.2 ⟨i,List.mem_range.2 hi,rfl⟩
theorem jT(aJ:bp P tt)(hs:aF c s m a w ids){X:Operand}{t:TypeId}
  (ho:o.op=.call { callee:=.builtin .len,args:=#[X],argTypes:=#[t] }) {K:KT} (h:pt tt t (ev s X) m fun v=>K v m) (hn:cq c s o K next):o.wp P a w next Q:=by
 have hx:=hs.ev X
 have e:(execOp a.eval o)=(do pure (.value (<-Builtin.len_ #[t] o.type #[a.eval X]))):=by
  obtain⟨dst,op,ty,pos,after,guard⟩:=o;simp only at ho;subst ho;rw[BigFrame.execOp_builtin,BigFrame.builtin_len];simp
 unfold pt at h;obtain⟨kt,et,agg,sh,z,zv,h1,h2,_,_,h⟩:=kE aJ h (au c ids w) w
 have fin:∀(r:Nat) (es:Array MapEntry) (clock:Nat),a.eval X=.map (some r)->w.heap[r]?=some (.map es clock)->K (.int .i64 es.size) m->o.wp P a w next Q:=by
  intro r es clock hv hh hk;refine aR (v:=.int .i64 es.size) (w':=w) ?_ (hn _ _ _ _ _ hk (hs.bf o.dst (.aI (.int _ _))));rw[e,hv];simp[Builtin.len_,run_underlying h1,MapKept.run_getObj_map hh,goInt]
 split at h
 ·rename_i jw uF has val hX;rw[hX] at hx;cases hx with
  | aI hi =>
   generalize hv:a.eval X=v at hi;cases hi with
   | mv _ _ _ _ r es clock f hb hh hk hd hc SR Fy DF =>
    exact fin r es clock hv hh (Fe (fun i hi=>⟨(hk i hi).1,(hk i hi).2.2⟩) hd hc h)
 ·rename_i b hX;rw[hX] at hx;split at h
  ·rename_i jw uF has val hb;obtain⟨ly,hm⟩:=getD_some (by simp) hb;have eR:b<ids.length:=by rw[hs.aL];exact ly
   have hB:=hs.bC b ly eR;rw[hm] at hB;cases hp:ids[b] with
   | dead=>rw[hp] at hB;exact hB.elim
   | av=>rw[hp] at hB;exact hB.elim
   | cE vs=>rw[hp] at hB;exact hB.elim
   | aQ=>rw[hp] at hB;exact hB.elim
   | lv p =>
    rw[hp] at hB;obtain⟨es,clock,f,g1,g2,g3,g4,_⟩:=hB;have bZ:ids[b]?=some (.lv p):=by rw[List.getElem?_eq_getElem eR,hp]
    have hv:a.eval X=.map (some p.ao):=by
     generalize a.eval X=v at hx;cases hx with
     | omap _ q hq=>rw[bZ] at hq;cases hq;rfl
     | fS _ x hq=>rw[bZ] at hq;cases hq
     | aI hi=>cases hi
    exact fin p.ao es clock hv g1 (Fe (fun i hi=>⟨(g2 i hi).1,(g2 i hi).2.2⟩) g3 g4 h)
  ·exact h.elim
 ·exact h.elim
end
def ZB(tt:TT)(t:TypeId)(b n:Nat)(i:A)(K:A->Prop):Prop :=
 match tt.lookup t,i with
 | some ti,.int _ ix=>match ti.kind,Nat.beq ti.bB 1 with
  | 3,true=>(0<=ix/\ix<(n:Int))/\K (.oref b ix.toNat 0)
  | _,_=>False
 | _,_=>False
def Yh(tt:TT)(t:TypeId)(i off n hi:Nat)(cs:List A)(K:A->Prop):Prop :=
 match tt.lookup t,off,cs with
 | some ti,0,[x]=>match ti.agg with
  | false=>(i=hi/\i<n)/\fd 3 x K
  | true=>False
 | _,_,_=>False
def Wc(tt:TT)(t:TypeId)(i off:Nat)(y:A)(ty:TypeId)(agg:Bool)(sh:List KS)(n:Nat)(cs:List A)(jA:Nat->Nat)(has:Nat->List KC->Bool)(val:Nat->List KC->A)(K:aq->Prop):Prop :=
 match tt.lookup t,off,cs,y with
 | some ti,0,[],.omap k=>match Nat.beq ti.size 1 with
  | true=>i<n/\K (.cM ty agg sh n i [.omap k] jA has val)
  | false=>False
 | _,_,_,_=>False
section
variable {c:Ctx} {s:List A} {m:List aq} {a:Act} {w w':World} {ids ab:dE} {P:Program} {im bo:Nat->Prop} {tt:TT} {G:aG}
variable {next:Act->World->Prop} {Q:Exit->Act->World->Prop} {o:Oper}
variable {ty:TypeId} {agg:Bool} {sh:List KS} {n hi:Nat} {cs:List A} {jA:Nat->Nat} {has:Nat->List KC->Bool} {val:Nat->List KC->A}
end
section
variable {c:Ctx} {s:List A} {m:List aq} {a:Act} {w w':World} {ids ab:dE} {P:Program} {im bo:Nat->Prop} {tt:TT} {G:aG}
variable {next:Act->World->Prop} {Q:Exit->Act->World->Prop} {o:Oper}

def sEnt(tt:TT)(t:TypeId)(x key:A)(m:List aq)(K:KT):Prop :=
 kD tt t fun agg sh _=>match GP agg sh key,x with
  | some k,.omap b=>match m.getD b .dead with
   | .o7 jw uF has val=>match qB agg jw,uE sh uF with
    | true,true=>qk m b (.o7 jw uF (nQ has k true) (qa val k .af)) fun m'=>K (.tup [.af,.qZ b k]) m'
    | _,_=>False
   | _=>False
  | _,_=>False
end

def U7(row:Nat->List A):Nat->Option (List UInt8)
 | 0=>some []
 | n+1=>match U7 row n with
  | some l=>match row n with
   | [.int .u8 v]=>some (l++[UInt8.ofNat v.toNat])
   | _=>none
  | none=>none
def Dj(tt:TT)(src dst:TypeId)(x:A)(m:List aq)(K:KT):Prop :=
 match x with
 | .own b=>match m.getD b .dead with
  | .row _ sz n row=>match tt.lookup src,tt.lookup dst with
   | some si,some di=>match si.kind,di.kind,tt.lookup si.aN,Nat.beq sz 1 with
    | 3,4,some ei,true=>match ei.kind,ei.ik,U7 row n with
     | 5,.u8,some l=>K (.str l) m
     | _,_,_=>False
    | _,_,_,_=>False
   | _,_=>False
  | _=>False
 | _=>vX tt src dst x fun v=>K v m
theorem Ff:∀(row:Nat->List A) (n:Nat) (l:List UInt8),U7 row n=some l->l.length=n/\∀i,i<n->∃v:Int,row i=[.int .u8 v]/\l[i]?=some (UInt8.ofNat v.toNat)
 | row,0,l,h=>by
  simp only[U7,Option.some.injEq] at h;subst h;exact⟨rfl,fun i h=>absurd h (Nat.not_lt_zero _)⟩
 | row,n+1,l,h=>by
  unfold U7 at h;split at h
  ·rename_i l0 h0;obtain⟨g1,g2⟩:=Ff row n l0 h0;split at h
   ·rename_i v hv;have h:=Option.some.inj h;subst h;refine⟨by simp[g1],fun i hi=>?_⟩;rcases Nat.lt_or_eq_of_le (Nat.le_of_lt_succ hi) with q|q
    ·obtain⟨v',e1,e2⟩:=g2 i q;exact⟨v',e1,by rw[List.getElem?_append_left (by omega)];exact e2⟩
    ·subst q;exact⟨v,hv,by rw[List.getElem?_append_right (by omega),g1];simp⟩
   ·cases h
  ·cases h
section
variable {c:Ctx} {s:List A} {m:List aq} {a:Act} {w w':World} {ids ab:dE} {P:Program} {im bo:Nat->Prop} {tt:TT} {G:aG}
variable {next:Act->World->Prop} {Q:Exit->Act->World->Prop} {o:Oper}
theorem x8(aJ:bp P tt)(hs:aF c s m a w ids){X:Operand}{src dst:TypeId}(ho:o.op=.convert src dst X){K:KT}(h:Dj tt src dst (ev s X) m K)(hn:cq c s o K next):o.wp P a w next Q:=by
 unfold Dj at h;split at h
 ·rename_i b hv;split at h
  ·rename_i ty sz n row Fb;split at h
   ·rename_i si di hsi hdi;split at h
    ·rename_i ei Hl ot hei bL;split at h
     ·rename_i l jt hik hl;have bL:sz=1:=Nat.eq_of_beq_eq_true bL;subst bL;have hx:=hs.ev X;rw[hv] at hx;have e:execOp a.eval o=(do let z <-convert src dst (a.eval X);pure (.value z)):=by unfold execOp;rw[ho]
      obtain⟨_,d1,_,_,Xx,_,_,_,_,_,_,_,_,_,b3,_⟩:=aJ.facts hsi;obtain⟨_,_,rfl,_⟩:=b3 Hl;obtain⟨_,d2,_,_,Xy,_,_,_,_,_,_,_,_,_,_,_,b4,_⟩:=aJ.facts hdi;obtain rfl:=b4 ot;obtain⟨_,d3,_,_,Yi,_,_,_,_,_,_,_,_,_,_,b5,_⟩:=aJ.facts hei;obtain rfl:=b5 jt;rw[hik] at Yi;obtain⟨WG,ZC⟩:=Ff row n l hl;rcases hs.fL hx (by rw[Fb];simp) with⟨h1,h2⟩|⟨p,cap,h1,_,_,h2⟩
      ·have hb:b<ids.length:=by
        rcases Nat.lt_or_ge b ids.length with h'|h'
        ·exact h'
        ·rw[List.getElem?_eq_none h'] at h1;cases h1
       have hm:b<m.length:=by rw[<-hs.aL];exact hb
       have hB:=hs.bC b hm hb;rw[List.getElem?_eq_getElem hb] at h1;rw[Option.some.inj h1] at hB;have e2:m.getD b .dead=m[b]:=by rw[List.getD_eq_getElem?_getD,List.getElem?_eq_getElem hm];rfl
       rw[<-e2,Fb] at hB;have hn0:n=0:=hB;have Tl:l=[]:=List.length_eq_zero_iff.1 (by omega);subst Tl;refine aP hs hn ⟨_,.string ByteArray.empty,?_,h,.aI (.str [])⟩;have bW:=run_convert_bytes_nil (P:=P) (w:=w) src si.aN Xx Yi 0 0 dst Xy;rw[e,h2];simp only[Sem.run_bind,bW,Result.andThen_ok];rfl
      ·obtain⟨x,lV,lJ⟩:=hs.eF h1;rw[bj lV] at Fb;subst Fb;obtain⟨g1,g2,vs,g3,g4,g5,g6,g7⟩:=lJ
       have yQ:∀i,i<n->w.cell? ⟨p.ao,0+i,none⟩=some (.int .u8 (((List.range n).map fun i=>match row i with|[.int _ v]=>v|_=>0).getD i 0)):=by
        intro i hi;obtain⟨v,e1,_⟩:=ZC i hi;have aD:i*1+0<vs.size:=by omega
        have hr:=(g7 i 0 hi (by rw[g6 i hi];omega) aD).1;have e3:(row i)[0]'(by rw[g6 i hi];omega)=.int .u8 v:=by simp only[e1,List.getElem_cons_zero]
        rw[e3] at hr
        have FX:vs[i*1+0]=.int .u8 v:=by
         generalize vs[i*1+0]=vv at hr;cases hr;rfl
        have e4:((List.range n).map fun i=>match row i with|[.int _ v]=>v|_=>0).getD i 0=v:=by
         simp[List.getD_eq_getElem?_getD,hi,e1]
        rw[e4];unfold World.cell?;simp only[g3,Nat.zero_add];have FZ:i<vs.size:=by omega
        simp only[Nat.mul_one,Nat.add_zero] at FX;simp[Array.getElem?_eq_getElem FZ,FX]
       have bW:=run_convert_bytes_arg (P:=P) (w:=w) src si.aN Xx Yi p.ao 0 n cap ((List.range n).map fun i=>match row i with|[.int _ v]=>v|_=>0) (by simp) yQ dst Xy;refine aP hs hn ⟨_,.string ⟨l.toArray⟩,?_,h,.aI (.str l)⟩;rw[e,h2,g2]
       have Bp:strOfNums ((List.range n).map fun i=>match row i with|[.int _ v]=>v|_=>0)=⟨l.toArray⟩:=by
        unfold strOfNums
        congr 2
        apply List.ext_getElem?;intro i;rcases Nat.lt_or_ge i n with hi|hi
        ·obtain⟨v,e1,e5⟩:=ZC i hi;rw[e5];simp[hi,e1]
        ·rw[List.getElem?_eq_none (by simpa using hi),List.getElem?_eq_none (by omega)]
       rw[Bp] at bW;simp[bW]
     ·exact h.elim
    ·exact h.elim
   ·exact h.elim
  ·exact h.elim
 ·exact rh aJ hs ho h hn
end

def wj(P:Program)(G:aG)(tt:TT)(o:Oper)(s:List A)(m:List aq)(K:List A->A->List aq->Prop):Prop :=
 match o.op with
 | .call { callee:=.value f,args,.. }=>nJ P G (ev s f) (args.toList.map (ev s)) m (K s)\/Dc P G (ev s f) (args.toList.map (ev s)) s m K \/
   SS (LM [] (((args.toList.map (ev s)).map (reach m 8)).flatten)) (fun ρ=>oZ ρ s m fun s' m'=>nJ P G (ev s' f) (args.toList.map (ev s')) m' (K s')) \/
   Df P G (ev s f) (args.toList.map (ev s)) m (K s)
 | .makeMap t r=>match r with
  | none=>Dg tt t m (K s)
  | some _=>False
 | .convert src dst x=>Dj tt src dst (ev s x) m (K s)
 | .lookup t x k ok=>jI tt t (ev s x) (ev s k) ok m fun v=>K s v m
 | .mapUpdate t x k v=>K4 tt t (ev s x) (ev s k) (ev s v) m (K s)
 | .insert t x k v=>K4 tt t (ev s x) (ev s k) (ev s v) m (K s)
 | .buildSlice t len ps=>match len,ps.toList with
  | 1,[(0,x)]=>match ev s x with
   | .own b'=>xZ tt t b' s m K
   | _=>lO P G tt o s m K
  | _,_=>lO P G tt o s m K
 | .call { callee:=.builtin .len,args,argTypes }=>match args.toList,argTypes.toList with
  | [x],[t]=>match ev s x with
   | .own b=>match m.getD b .dead with
    | .nest _ _ _ n _ _ _=>K8 tt t n s m K
    | _=>lO P G tt o s m K
   | .omap b=>pt tt t (.omap b) m fun v=>K s v m
   | .mv g n h v=>pt tt t (.mv g n h v) m fun v=>K s v m
   | _=>lO P G tt o s m K
  | _,_=>lO P G tt o s m K
 | .call { callee:=.builtin .append,args,argTypes }=>match args.toList,argTypes.toList with
  | [x,y],[t,t']=>match ev s x,ev s y with
   | .own b,.own b2=>match m.getD b .dead,m.getD b2 .dead with
    | .nest ty aN sz n none len row,.nest SU Dh RZ n2 none Di iU=>match Nat.beq t' t with
     | true=>K7 tt t b b2 ty aN sz n len row SU Dh RZ n2 Di iU s m K
     | false=>False
    | _,_=>lO P G tt o s m K
   | _,_=>lO P G tt o s m K
  | _,_=>lO P G tt o s m K
 | _=>lO P G tt o s m K
section
variable {c:Ctx} {s:List A} {m:List aq} {a:Act} {w w':World} {ids ab:dE} {P:Program} {im bo:Nat->Prop} {tt:TT} {G:aG}
variable {next:Act->World->Prop} {Q:Exit->Act->World->Prop} {o:Oper}
theorem rB(aJ:bp P tt)(hG:G.ok c)(hs:aF c s m a w ids){K:List A->A->List aq->Prop}(h:wj P G tt o s m K)
  (hn:∀s1 v m' a' w' ab,K s1 v m'->aF c (bf s1 o.dst v) m' a' w' ab->next a' w'):o.wp P a w next Q:=by
 have Oj:cq c s o (K s) next:=fun v m' a' w' ab h1 h2=>hn s v m' a' w' ab h1 h2;unfold wj at h;split at h
 ·rename_i f args ts ho;rcases h with h|h|h|h
  ·exact mL hs hG ho h Oj
  ·exact xP hs hG ho h hn
  ·rw[xM] at h;obtain⟨s',m',ab,h',bH⟩:=gZ _ hs h;exact mL bH hG ho h' (fun v m' a' w' ab h1 h2=>hn s' v m' a' w' ab h1 h2)
  ·exact xU hs hG ho h Oj
 ·rename_i t r ho;split at h
  ·exact xY aJ hs ho h Oj
  ·exact h.elim
 ·rename_i ho;exact x8 aJ hs ho h Oj
 ·rename_i ho;exact rA aJ hs ho h Oj
 ·rename_i ho;exact om aJ hs (.inl ho) h Oj
 ·rename_i ho;exact om aJ hs (.inr ho) h Oj
 ·rename_i t len ps ho;split at h
  ·rename_i x Te;split at h
   ·rename_i b' hX;have e1:ps = #[(0,x)]:=by apply Array.ext';simpa using Te
    subst e1;exact vn aJ hs ho hX h hn
   ·exact cN aJ hG hs h hn
  ·exact cN aJ hG hs h hn
 ·rename_i args ts ho;split at h
  ·rename_i x t hx ht;have e1:args = #[x]:=by apply Array.ext';simpa using hx
   have e2:ts = #[t]:=by apply Array.ext';simpa using ht
   subst e1;subst e2;split at h
   ·rename_i b hX;split at h
    ·rename_i hb;exact AZ aJ hs ho hX hb h hn
    ·exact cN aJ hG hs h hn
   ·rename_i b hX;rw[<-hX] at h;exact jT aJ hs ho h Oj
   ·rename_i g n hh v hX;rw[<-hX] at h;exact jT aJ hs ho h Oj
   ·exact cN aJ hG hs h hn
  ·exact cN aJ hG hs h hn
 ·rename_i args ts ho;split at h
  ·rename_i x y t t' hx ht;have e1:args = #[x,y]:=by apply Array.ext';simpa using hx
   have e2:ts = #[t,t']:=by apply Array.ext';simpa using ht
   subst e1;subst e2;split at h
   ·rename_i b b2 hX hY;split at h
    ·rename_i hb kM;split at h
     ·rename_i Sb;have Sb:=Nat.eq_of_beq_eq_true Sb;subst Sb;exact AY aJ hs ho hX hY hb kM h hn
     ·exact h.elim
    ·exact cN aJ hG hs h hn
   ·exact cN aJ hG hs h hn
  ·exact cN aJ hG hs h hn
 ·exact cN aJ hG hs h hn
end
def qC(s:List A)(d:Option Nat)(v:A)(K:List A->Prop):Prop :=
 match d with
 | some d=>xC s d v K
 | none=>K s
theorem nk(s:List A)(d:Option Nat)(v:A)(K:List A->Prop):qC s d v K=K (bf s d v):=by
 cases d with
 | none=>rfl
 | some d=>exact gB _ _ _ _
def mQ(ops:List Oper)(j:Nat):Option Nat:=(ops[j]?).bind (·.dst)
def Dk(g:Option Nat)(want:Bool)(s:List A)(X Y:List A->Prop):Prop :=
 match g with
 | none=>False
 | some d=>match s.getD d .af with
  | .bool b=>match b,want with
   | true,true=>X s
   | false,false=>X s
   | true,false=>Y s
   | false,true=>Y s
  | .sb b=>match want with
   | true=>(b=true->xC s d (.bool true) X)/\(b=false->xC s d (.bool false) Y)
   | false=>(b=false->xC s d (.bool false) X)/\(b=true->xC s d (.bool true) Y)
  | .tup vs=>match vs with
   | []=>Y s
   | _=>False
  | _=>False
def mF(P:Program)(G:aG)(tt:TT)(ops:List Oper):List Oper->List A->List aq->(List A->List aq->Prop)->Prop
 | [],s,m,K=>K s m
 | o::rest,s,m,K=>match o.guard with
  | none=>wj P G tt o s m fun s1 v m'=>qC s1 o.dst v fun s'=>mF P G tt ops rest s' m' K
  | some (j,want)=>Dk (mQ ops j) want s
    (fun s=>wj P G tt o s m fun s1 v m'=>qC s1 o.dst v fun s'=>mF P G tt ops rest s' m' K)
    (fun s=>qC s o.dst (.tup []) fun s'=>mF P G tt ops rest s' m K)

section
variable {c:Ctx} {s:List A} {m:List aq} {a:Act} {w w':World} {ids ab:dE} {P:Program} {im bo:Nat->Prop} {tt:TT} {G:aG}
variable {next:Act->World->Prop} {Q:Exit->Act->World->Prop} {o:Oper}

theorem aF.x9(hs:aF c s m a w ids)(d:Nat){x:A}(hv:Rel ids (au c ids w) w x (a.tmps.getD d undef)):aF c (s.set d x) m a w ids where
 defers:=hs.defers
 len:=by simp[hs.len]
 bI:=by
  intro i h h';simp only[List.length_set] at h;rw[List.getElem_set];split
  ·rename_i he;subst he;simpa[Array.getD_eq_getD_getElem?,h'] using hv
  ·exact hs.bI i h h'
 aL:=hs.aL
 bC:=hs.bC
 aj:=hs.aj
 ar:=hs.ar
 frame:=hs.frame
 dZ:=hs.dZ
 cE:=hs.cE

theorem jq{ops:List Oper}{j d:Nat}{b:Bool}(hg:mQ ops j=some d)(hv:a.tmps.getD d undef=.bool b):yielded ops.toArray a.tmps j=some b:=by
 unfold yielded;have h1:(ops.toArray[j]?).bind (·.dst)=some d:=by simpa[mQ] using hg
 rw[h1]
 have h2:a.tmps[d]?=some (.bool b):=by
  rcases Nat.lt_or_ge d a.tmps.size with h|h
  ·simpa[Array.getD_eq_getD_getElem?,h] using hv
  ·simp[Array.getD_eq_getD_getElem?,h,undef] at hv
 simp[h2]

theorem lk(aJ:bp P tt){ops:List Oper}{QA:List A->List aq->Prop}(hG:G.ok c)(hQ:∀s m a w ids,QA s m->aF c s m a w ids->Q .normal a w):
  ∀(rest:List Oper) (s:List A) (m:List aq) (a:Act) (w:World) (ids:dE),aF c s m a w ids->mF P G tt ops rest s m QA->wpList P ops.toArray Q rest a w
 | [],s,m,a,w,ids,hs,h=>hQ s m a w ids h hs
 | o::rest,s,m,a,w,ids,hs,h=>by
  have exec:∀s,aF c s m a w ids->(wj P G tt o s m fun s1 v m'=>qC s1 o.dst v fun s'=>mF P G tt ops rest s' m' QA)->∀K:Act->World->Prop,(∀a w,wpList P ops.toArray Q rest a w->K a w)->o.wp P a w K Q:=by
   intro s hs h K hK;refine rB aJ hG hs h ?_;intro s1 v m' a' w' ab hk bH;rw[nk] at hk;exact hK _ _ (lk aJ hG hQ rest _ _ _ _ _ bH hk)
  have skip:∀s,aF c s m a w ids->(qC s o.dst (.tup []) fun s'=>mF P G tt ops rest s' m QA)->∀K:Act->World->Prop,(∀a w,wpList P ops.toArray Q rest a w->K a w)->K (a.put o.dst undef) w:=by
   intro s hs h K hK;rw[nk] at h;exact hK _ _ (lk aJ hG hQ rest _ _ _ _ _ (hs.bf o.dst (.aI (.tup [] [] rfl (fun _ h=>by simp at h)))) h)
  unfold mF at h;refine wpList_step fun K hK=>?_;split at h
  ·rename_i hg;have:Region.wanted o (yielded ops.toArray a.tmps)=true:=by unfold Region.wanted;rw[hg]
   rw[if_pos this];exact exec s hs h K hK
  ·rename_i j want hg;have hw:Region.wanted o (yielded ops.toArray a.tmps)=(yielded ops.toArray a.tmps j==some want):=by unfold Region.wanted;rw[hg]
   rw[hw];unfold Dk at h;split at h
   ·exact h.elim
   ·rename_i d hd;have oo:=hs.ev (.tmp d);simp only[ev,Act.eval] at oo;split at h
    ·rename_i b hb;rw[hb] at oo;rw[jq hd oo.dL];split at h
     ·exact exec s hs h K hK
     ·exact exec s hs h K hK
     ·exact skip s hs h K hK
     ·exact skip s hs h K hK
    ·rename_i b hb;rw[hb] at oo;have U8:=oo.iI;rw[jq hd U8]
     have og:∀b',b=b'->aF c (s.set d (.bool b')) m a w ids:=by
      intro b' e;subst e;exact hs.x9 d (by rw[U8];exact .aI (.bool _))
     rw[gB,gB,gB,gB] at h;split at h
     ·cases b
      ·exact skip _ (og false rfl) (h.2 rfl) K hK
      ·exact exec _ (og true rfl) (h.1 rfl) K hK
     ·cases b
      ·exact exec _ (og false rfl) (h.1 rfl) K hK
      ·exact skip _ (og true rfl) (h.2 rfl) K hK
    ·rename_i vs hb;rw[hb] at oo;split at h
     ·obtain⟨us,hu,yz,_⟩:=oo.jC;have Ho:us=[]:=by simpa using yz
      subst Ho
      have hy:yielded ops.toArray a.tmps j=none:=by
       unfold yielded;have h1:(ops.toArray[j]?).bind (·.dst)=some d:=by simpa[mQ] using hd
       rw[h1];rcases Nat.lt_or_ge d a.tmps.size with h|h
       ·have h2:a.tmps[d]?=some (.tuple #[]):=by simpa[Array.getD_eq_getD_getElem?,h] using hu
        simp[h2]
       ·simp[h]
      rw[hy];exact skip s hs h K hK
     ·exact h.elim
    ·exact h.elim
end

theorem wp_loop_ghost{P:Program}{Q:Exit->Act->World->Prop}{a:Act}{w:World}{c:Code}(I:Nat->Act->World->Prop)(n₀:Nat)(h₀:I n₀ a w)
  (round:∀n a w,I n a w->c.wp P (Exit.then (fun a' w'=>∃n',n'<n/\I n' a' w') Q) a w):(Code.loop c).wp P Q a w:=by
 intro b k cs
 have key:∀n a w,I n a w ->
   ∃e a' w',Q e a' w'/\Arrives P (lone (b.at a (.code c::.inLoop c::k)) cs w) b k cs e a' w':=by
  intro n
  induction n using Nat.strongRecOn with
  | _ n ih =>
   intro a w hI;obtain⟨e,a₁,w₁,hq,A0⟩:=round n a w hI b (.inLoop c::k) cs;cases e with
   | normal =>
    obtain⟨n',aD,hI₁⟩:=hq;obtain⟨e₂,a₂,w₂,hq₂,U9⟩:=ih n' aD a₁ w₁ hI₁;exact⟨e₂,a₂,w₂,hq₂,.of_steps (Steps.trans A0 (.one step_inLoop)) U9⟩
   | exit id=>exact⟨_,a₁,w₁,hq,.pass (x:=.inLoop c) rfl (fun _ _=>.inl (by simp)) A0⟩
   | goto l=>exact⟨_,a₁,w₁,hq,.pass (x:=.inLoop c) rfl (fun _ _=>.inl (by simp)) A0⟩
   | ret=>exact⟨_,a₁,w₁,hq,.pass (x:=.inLoop c) rfl (fun _ _=>.inl (by simp)) A0⟩
   | panic ch=>exact⟨_,a₁,w₁,hq,.pass (x:=.inLoop c) rfl (fun _ _=>.inl (by simp)) A0⟩
   | outgrown=>exact⟨_,a₁,w₁,hq,.pass (x:=.inLoop c) rfl (fun _ _=>.inl (by simp)) A0⟩
 obtain⟨e,a',w',hq,A0⟩:=key _ a w h₀;exact⟨e,a',w',hq,.of_steps (.one step_loop) A0⟩

def post(c:Ctx)(Q:Exit->List A->List aq->Prop):Exit->Act->World->Prop:=fun e a w=>∃s m ids,Q e s m/\aF c s m a w ids

@[irreducible] def WA (P:Program) (G:aG) (cd:Code) (Q:Exit->List A->List aq->Prop) (s:List A) (m:List aq):Prop :=
 ∀c a w ids,G.ok c->aF c s m a w ids->cd.wp P (post c Q) a w

def K9(next:List A->List aq->Prop)(Q:Exit->List A->List aq->Prop):Exit->List A->List aq->Prop
 | .normal,s,m=>next s m
 | e,s,m=>Q e s m
def ya(id:Nat)(Q:Exit->List A->List aq->Prop):Exit->List A->List aq->Prop
 | .exit Yj,s,m=>match Nat.beq Yj id with
  | true=>Q .normal s m
  | false=>Q (.exit Yj) s m
 | e,s,m=>Q e s m
def Fg(v:A)(X Y:Prop):Prop :=
 match v with
 | .bool true=>X
 | .bool false=>Y
 | .sb b=>(b=true->X)/\(b=false->Y)
 | _=>False

section
variable {P:Program} {G:aG} {tt:TT} {Q:Exit->List A->List aq->Prop} {s:List A} {m:List aq}

theorem cG{x y:Code}(h:WA P G x (K9 (WA P G y Q) Q) s m):WA P G (.seq x y) Q s m:=by
 unfold WA at h ⊢;intro c a w ids hG hs;refine wp_seq (wp_mono (h c a w ids hG hs) ?_);rintro e a' w' ⟨s',m',ab,hq,bH⟩;cases e with
 | normal =>
  exact hq c a' w' ab hG bH
 | _=>exact⟨s',m',ab,hq,bH⟩
theorem bR(h:Q .normal s m):WA P G .skip Q s m:=by
 unfold WA;intro c a w ids hG hs;exact wp_skip ⟨s,m,ids,h,hs⟩
theorem cH(h:Q .ret s m):WA P G .ret Q s m:=by
 unfold WA;intro c a w ids hG hs;exact wp_ret ⟨s,m,ids,h,hs⟩
theorem bS{id:Nat}(h:Q (.exit id) s m):WA P G (.exit id) Q s m:=by
 unfold WA;intro c a w ids hG hs;exact wp_exit ⟨s,m,ids,h,hs⟩
theorem bq{id:Nat}{x:Code}(h:WA P G x (ya id Q) s m):WA P G (.block id x) Q s m:=by
 unfold WA at h ⊢;intro c a w ids hG hs;refine wp_block (wp_mono (h c a w ids hG hs) ?_);rintro e a' w' ⟨s',m',ab,hq,bH⟩;cases e with
 | exit Yj =>
  simp only[ya] at hq;simp only[Exit.inBlock];split at hq
  ·rename_i he;rw[if_pos (Nat.eq_of_beq_eq_true he)];exact⟨s',m',ab,hq,bH⟩
  ·rename_i he;rw[if_neg (fun e=>by subst e;rw[Nat.beq_refl] at he;cases he)];exact⟨s',m',ab,hq,bH⟩
 | _=>exact⟨s',m',ab,hq,bH⟩
theorem bQ{t:Operand}{x y:Code}(h:Fg (ev s t) (WA P G x Q s m) (WA P G y Q s m)):WA P G (.cond t x y) Q s m:=by
 unfold Fg at h;unfold WA;intro c a w ids hG hs;have oo:=hs.ev t;split at h
 ·rename_i hv;rw[hv] at oo;unfold WA at h;exact wp_cond_true oo.dL (h c a w ids hG hs)
 ·rename_i hv;rw[hv] at oo;unfold WA at h;exact wp_cond_false oo.dL (h c a w ids hG hs)
 ·rename_i b hv;rw[hv] at oo;cases b
  ·have:=h.2 rfl;unfold WA at this;exact wp_cond_false oo.iI (this c a w ids hG hs)
  ·have:=h.1 rfl;unfold WA at this;exact wp_cond_true oo.iI (this c a w ids hG hs)
 ·exact h.elim
theorem aS(aJ:bp P tt){id:Nat}{l:List Oper}(h:mF P G tt l l s m (Q .normal)):WA P G (.region id l.toArray false) Q s m:=by
 unfold WA;intro c a w ids hG hs;exact wp_region_lit (lk aJ hG (fun s m a w ids hq hs=>⟨s,m,ids,hq,hs⟩) l s m a w ids hs h)

/-- A state that says less. -/
def We(s:List A)(m:List aq)(s':List A)(m':List aq):Prop:=∀c a w ids,aF c s m a w ids->∃ab,aF c s' m' a w ab

theorem qg{cd:Code}{s':List A}{m':List aq}(hw:We s m s' m')(h:WA P G cd Q s' m'):WA P G cd Q s m:=by
 unfold WA at h ⊢;intro c a w ids hG hs;obtain⟨ab,bH⟩:=hw c a w ids hs;exact h c a w ab hG bH
theorem Fh{cd:Code}{Q':Exit->List A->List aq->Prop}(h:WA P G cd Q s m)(hq:∀e s m,Q e s m->Q' e s m):WA P G cd Q' s m:=by
 unfold WA at h ⊢;intro c a w ids hG hs;refine wp_mono (h c a w ids hG hs) ?_;rintro e a' w' ⟨s',m',ab,LL,bH⟩;exact⟨s',m',ab,hq _ _ _ LL,bH⟩

def Sc{ι:Type}(S:ι->List A)(M:ι->List aq)(μ:ι->Nat)(i:ι)(Q:Exit->List A->List aq->Prop):Exit->List A->List aq->Prop
 | .normal,s,m=>∃j,μ j<μ i/\We s m (S j) (M j)
 | e,s,m=>Q e s m
theorem Ol{ι:Type}{body:Code}(S:ι->List A)(M:ι->List aq)(μ:ι->Nat)(i0:ι)(h0:We s m (S i0) (M i0))
  (hr:∀i,WA P G body (Sc S M μ i Q) (S i) (M i)):WA P G (.loop body) Q s m:=by
 refine qg h0 ?_;unfold WA;intro c a w ids hG hs;refine wp_loop_ghost (fun n a w=>∃i ids,μ i=n/\aF c (S i) (M i) a w ids) (μ i0) ⟨i0,ids,rfl,hs⟩ ?_;rintro n a w ⟨i,ids,rfl,hs⟩;have:=hr i;unfold WA at this;refine wp_mono (this c a w ids hG hs) ?_;rintro e a' w' ⟨s',m',ab,hq,bH⟩;cases e with
 | normal =>
  obtain⟨j,aD,hw⟩:=hq;obtain⟨U',Yk⟩:=hw c a' w' ab bH;exact⟨μ j,aD,j,U',rfl,Yk⟩
 | _=>exact⟨s',m',ab,hq,bH⟩
end
def ga:List Prop->Prop
 | []=>True
 | [p]=>p
 | p::q::ps=>p/\ga (q::ps)
theorem qD{p:Prop}{ps:List Prop}:ga (p::ps)↔p/\ga ps:=by
 cases ps<;>simp[ga]
theorem iA{ps qs:List Prop}:ga (ps++qs)↔ga ps/\ga qs:=by
 induction ps with
 | nil=>simp[ga]
 | cons p ps ih=>rw[List.cons_append,qD,qD,ih,and_assoc]

/-- What must hold that the first value may be taken for the second one, where blocks from n on are forgotten. -/
def kF:Nat->Nat->A->A->List Prop
 | 0,_,_,y=>match y with
  | .af=>[]
  | _=>[False]
 | d+1,n,x,y=>match y with
  | .af=>[]
  | .int k b=>match x with
   | .int k' a=>match mI k' k with
    | true=>[a=b]
    | false=>[False]
   | _=>[False]
  | .bool b=>match x with
   | .bool a=>[a=b]
   | .sb a=>[a=b]
   | _=>[False]
  | .sb b=>match x with
   | .bool a=>[a=b]
   | .sb a=>[a=b]
   | _=>[False]
  | .str b=>match x with
   | .str a=>[a=b]
   | _=>[False]
  | .gH=>match x with
   | .gH=>[]
   | _=>[False]
  | .aV=>match x with
   | .aV=>[]
   | _=>[False]
  | .bz=>match x with
   | .bz=>[]
   | _=>[False]
  | .fU=>match x with
   | .fU=>[]
   | _=>[False]
  | .mv g' n' k' v'=>match x with
   | .mv g1 n1 k1 v1=>[g1=g',n1=n',∀i,k1 i=k' i,∀i,k1 i=true->v1 i=v' i]
   | _=>[False]
  | .omap b=>match x with
   | .omap b'=>match Nat.beq b' b,Nat.blt b n with
    | true,true=>[]
    | _,_=>[False]
   | _=>[False]
  | .qZ _ _=>[False]
  | .nw _ _=>[False]
  | .ref b o=>match x with
   | .ref b' o'=>match Nat.beq b' b,Nat.beq o' o,Nat.blt b n with
    | true,true,true=>[]
    | _,_,_=>[False]
   | _=>[False]
  | .oref b i o=>match x with
   | .oref b' i' o'=>match Nat.beq b' b,Nat.blt b n with
    | true,true=>[i'=i,o'=o]
    | _,_=>[False]
   | _=>[False]
  | .own b=>match x with
   | .own b'=>match Nat.beq b' b,Nat.blt b n with
    | true,true=>[]
    | _,_=>[False]
   | _=>[False]
  | .sl n' sf dI=>match x with
   | .sl n1 sz row=>match Nat.beq sz sf with
    | true=>[n1=n',(∀i,i<n1->row i=dI i)\/∀i,i<n1->ga (mR d 0 (row i) (dI i))]
    | false=>[False]
   | .aV=>[n'=0]
   | _=>[False]
  | .bref db o'=>match x with
   | .bref cs o=>[cs=db,o=o']
   | _=>[False]
  | .agg db=>match x with
   | .agg cs=>mR d n cs db
   | _=>[False]
  | .tup db=>match x with
   | .tup cs=>mR d n cs db
   | _=>[False]
  | .fn f' db=>match x with
   | .fn f cs=>(f=f')::mR d n cs db
   | _=>[False]
where mR (d n:Nat):List A->List A->List Prop
 | [],[]=>[]
 | x::xs,y::ys=>kF d n x y++mR d n xs ys
 | _,_=>[False]
def Om(n:Nat)(x y:aq):List Prop :=
 match x,y with
 | .box ty cs,.box sU db=>match Nat.beq ty sU with
  | true=>kF.mR 4 n cs db
  | false=>[False]
 | .row ty sz n1 row,.row sU sf La dI=>match Nat.beq ty sU,Nat.beq sz sf with
  | true,true=>[n1=La,(∀i,i<n1->row i=dI i)\/∀i,i<n1->ga (kF.mR 4 0 (row i) (dI i))]
  | _,_=>[False]
 | .nest ty aN sz n1 ho le row,.nest sU vm sf La NO ZD dI=>match Nat.beq ty sU,Nat.beq aN vm,Nat.beq sz sf,ho,NO with
  | true,true,true,none,none=>[n1=La,∀i,i<n1->le i=ZD i/\∀j,j<le i->row i j=dI i j]
  | _,_,_,_,_=>[False]
 | .eP g1 n1 k1 v1,.eP g' n' k' v'=>[g1=g',n1=n',∀i,k1 i=k' i,∀i,k1 i=true->v1 i=v' i]
 | .o7 g1 n1 k1 v1,.eP g' n' k' v'=>[g1=g',n1=n',∀i,k1 i=k' i,∀i,k1 i=true->v1 i=v' i]
 | .GB g1 n1 k1 v1 se,.GB g' n' k' v' se'=>[g1=g',n1=n',∀i,k1 i=k' i,∀i,k1 i=true->v1 i=v' i,se=se']
 | .cM ty g1 n1 k1 _ cs jA h1 v1,.cM sU g' n' k' _ db On h' v'=>match Nat.beq ty sU,cs,db with
  | true,[],[]=>[g1=g',n1=n',k1=k',∀i,i<k1->On i<=1->jA i=On i/\(On i=1->(∀k,h1 i k=h' i k)/\∀k,h1 i k=true->v1 i k=v' i k)]
  | _,_,_=>[False]
 | .row ty sz n1 row,.bF sU sf La Φ=>match Nat.beq ty sU,Nat.beq sz sf with
  | true,true=>[n1=La,∃dI,Φ dI/\∀i,i<n1->row i=dI i]
  | _,_=>[False]
 | .bF ty sz n1 Φ,.bF sU sf La Φ'=>match Nat.beq ty sU,Nat.beq sz sf with
  | true,true=>[n1=La,∀row,Φ row->Φ' row]
  | _,_=>[False]
 | .ghost cs,.ghost db=>kF.mR 4 n cs db
 | .dead,.dead=>[]
 | .gone,.gone=>[]
 | _,_=>[False]
def wm(n:Nat):List aq->List aq->List Prop
 | _,[]=>[]
 | x::xs,y::ys=>Om n x y++wm n xs ys
 | [],_::_=>[False]
/-- The first state may be taken for the second. -/
def rQ(s:List A)(m:List aq)(s':List A)(m':List aq):Prop:=ga (kF.mR 5 m'.length s s'++wm m'.length m m')

section
variable {c:Ctx} {s:List A} {m:List aq} {a:Act} {w w':World} {ids ab:dE} {P:Program} {im bo:Nat->Prop} {tt:TT} {G:aG}

theorem aw.up(hi:∀b,im b->bo b){x:A}{v:Value}(h:aw im w x v):aw bo w x v:=h.mono hi (fun _ _=>rfl)

theorem fH:∀(d n:Nat) (xs ys:List A),ga (kF.mR d n xs ys)->xs.length=ys.length
 | _,_,[],[],_=>rfl
 | d,n,x::xs,y::ys,h=>by
  rw[kF.mR,iA] at h;simp[fH d n xs ys h.2]
 | _,_,[],_::_,h=>by simp[kF.mR,ga] at h
 | _,_,_::_,[],h=>by simp[kF.mR,ga] at h
theorem iB:∀(d n:Nat) (xs ys:List A),ga (kF.mR d n xs ys)->∀j (h:j<xs.length) (h':j<ys.length),ga (kF d n xs[j] ys[j])
 | _,_,[],_,_,j,h,_=>by simp at h
 | _,_,_::_,[],_,j,_,h'=>by simp at h'
 | d,n,x::xs,y::ys,h,j,h1,h2=>by
  rw[kF.mR,iA] at h;cases j with
  | zero=>exact h.1
  | succ j=>exact iB d n xs ys h.2 j (by simpa using h1) (by simpa using h2)

theorem gD{n b:Nat}{p:dT}(h:ids[b]?=some p)(hb:b<n):(ids.take n)[b]?=some p:=by
 rw[List.getElem?_take,if_pos hb];exact h

theorem Rel.sV{x:A}{v:Value}(h:Rel [] im w x v):aw im w x v:=by
 induction h with
 | aI h=>exact h
 | ref b off p h=>simp at h
 | oref b i off p h=>simp at h
 | fX b h=>simp at h
 | own b cap p h=>simp at h
 | kj b x n cap h=>simp at h
 | ki b off x y h=>simp at h
 | gA b i off x y h=>simp at h
 | fS b x h=>simp at h
 | omap b p h=>simp at h
 | qZ b k p n h hn=>simp at h
 | qh b k n h=>simp at h
 | nw b k cap x p h hx=>simp at h
 | qi b k h=>simp at h
 | nT b k x n cap h=>simp at h
 | agg cs vs hl ho hr ih=>exact .agg cs vs hl ho ih
 | tup cs vs hl hr ih=>exact .tup cs vs hl ih
 | fn f cs vs hl hr ih=>exact .fn f cs vs hl ih

theorem iC(hi:∀b,im b->bo b):∀(d n:Nat) (x y:A) (v:Value),ga (kF d n x y)->Rel ids im w x v->Rel (ids.take n) bo w y v
 | 0,n,x,y,v,h,hr=>by
  cases y<;>simp[kF,ga] at h;exact .aI (.af _)
 | d+1,n,x,y,v,h,hr=>by
  have lists:∀cs db:List A,ga (kF.mR d n cs db)->cs.length=db.length/\∀(us:List Value),(∀j (h:j<cs.length) (h':j<us.length),Rel ids im w cs[j] us[j])->∀j (h:j<db.length) (h':j<us.length),Rel (ids.take n) bo w db[j] us[j]:=by
   intro cs db h;have hl:=fH _ _ _ _ h;refine⟨hl,fun us X9 j h1 h2=>iC hi d n _ _ _ (iB _ _ _ _ h j (by omega) h1) (X9 j (by omega) h2)⟩
  unfold kF at h;split at h
  ·exact .aI (.af _)
  ·split at h
   ·split at h
    ·rename_i hk;rw[jm] at hk;subst hk;have h:_=_:=h;subst h;rw[hr.bY];exact .aI (.int _ _)
    ·exact h.elim
   ·exact h.elim
  ·split at h
   ·have h:_=_:=h;subst h;rw[hr.dL];exact .aI (.bool _)
   ·have h:_=_:=h;subst h;rw[hr.iI];exact .aI (.bool _)
   ·exact h.elim
  ·split at h
   ·have h:_=_:=h;subst h;rw[hr.dL];exact .aI (.sb _)
   ·have h:_=_:=h;subst h;rw[hr.iI];exact .aI (.sb _)
   ·exact h.elim
  ·split at h
   ·have h:_=_:=h;subst h;rw[hr.hU];exact .aI (.str _)
   ·exact h.elim
  ·split at h
   ·rw[hr.kp];exact .aI .gH
   ·exact h.elim
  ·split at h
   ·rw[hr.dr];exact .aI .aV
   ·exact h.elim
  ·split at h
   ·cases hr with|aI hr=>cases hr;exact .aI .bz
   ·exact h.elim
  ·split at h
   ·rw[hr.kq];exact .aI .fU
   ·exact h.elim
  ·split at h
   ·obtain⟨e1,e2,e3,e4⟩:=h;subst e1;subst e2;cases hr with
    | aI hr =>
     cases hr with
     | mv _ _ _ _ r es clock f hb hh hk hd hc hv Fy DF =>
      exact .aI (.mv _ _ _ _ r es clock f (hi _ hb) hh (fun i h=>by rw[<-e3];exact hk i h) hd (fun k h1 h2=>hc k h1 (by rw[e3];exact h2)) (fun i h=>by rw[<-e4 _ (hk i h).2.2];exact(hv i h).up hi) Fy DF)
   ·exact h.elim
  ·split at h
   ·split at h
    ·rename_i h1 h3;have h1:=Nat.eq_of_beq_eq_true h1;subst h1;rcases hr.jh with⟨p,g1,rfl⟩|⟨g1,x,rfl⟩;rotate_left
     ·exact .fS _ x (gD g1 (Nat.le_of_ble_eq_true (by assumption)))
     exact .omap _ p (gD g1 (Nat.le_of_ble_eq_true h3))
    ·exact h.elim
   ·exact h.elim
  ·exact h.elim
  ·exact h.elim
  ·split at h
   ·split at h
    ·rename_i h1 h2 h3;have h1:=Nat.eq_of_beq_eq_true h1;have h2:=Nat.eq_of_beq_eq_true h2;subst h1;subst h2;rcases hr.ic with⟨p,g1,rfl⟩|⟨g1,x,y,rfl⟩;rotate_left
     ·exact .ki _ _ x y (gD g1 (Nat.le_of_ble_eq_true h3))
     exact .ref _ _ p (gD g1 (Nat.le_of_ble_eq_true h3))
    ·exact h.elim
   ·exact h.elim
  ·split at h
   ·split at h
    ·rename_i h1 h3;have h1:=Nat.eq_of_beq_eq_true h1;subst h1;obtain⟨e1,e2⟩:=h;subst e1;subst e2;rcases hr.iy with⟨p,g1,rfl⟩|⟨g1,x,y,rfl⟩;rotate_left
     ·exact .gA _ _ _ x y (gD g1 (Nat.le_of_ble_eq_true h3))
     exact .oref _ _ _ p (gD g1 (Nat.le_of_ble_eq_true h3))
    ·exact h.elim
   ·exact h.elim
  ·split at h
   ·split at h
    ·rename_i h1 h3;have h1:=Nat.eq_of_beq_eq_true h1;subst h1;rcases hr.jB with⟨g1,rfl⟩|⟨p,cap,g1,g2,g3,rfl⟩|⟨g1,x,n,cap,rfl⟩
     ·exact .fX _ (gD g1 (Nat.le_of_ble_eq_true h3))
     ·exact .own _ cap p (gD g1 (Nat.le_of_ble_eq_true h3)) g2 g3
     ·exact .kj _ x n cap (gD g1 (Nat.le_of_ble_eq_true h3))
    ·exact h.elim
   ·exact h.elim
  ·split at h
   ·split at h
    ·rename_i h1;have h1:=Nat.eq_of_beq_eq_true h1;subst h1;obtain⟨e1,e2⟩:=h;subst e1;cases hr with
     | aI hr =>
      cases hr with
      | sn=>exact .aI (.sn _ _)
      | sle=>exact .aI (.sle _ _ _ _)
      | sl _ _ _ ao base cap vs hb kQ hl hc ho hr =>
       rcases e2 with e2|e2
       ·refine .aI (.sl _ _ _ ao base cap vs (hi _ hb) kQ (fun i h=>by rw[<-e2 i h];exact hl i h) hc ho ?_);intro i j kK hj;have:=hr i j kK (by rw[e2 i kK];exact hj);simp only[e2 i kK] at this;exact this.up hi
       ·refine .aI (.sl _ _ _ ao base cap vs (hi _ hb) kQ (fun i h=>by rw[<-fH _ _ _ _ (e2 i h)];exact hl i h) hc ho ?_);intro i j kK hj;have hlen:=fH _ _ _ _ (e2 i kK);have:=iC hi d 0 _ _ _ (iB _ _ _ _ (e2 i kK) j (by omega) hj) (.aI (hr i j kK (by omega)));exact Rel.sV (by simpa using this)
    ·exact h.elim
   ·have h:_=_:=h;subst h;rw[hr.dr];exact .aI (.sn _ _)
   ·exact h.elim
  ·split at h
   ·obtain⟨e1,e2⟩:=h;subst e1;subst e2;cases hr with|aI hr=>exact .aI (hr.up hi)
   ·exact h.elim
  ·split at h
   ·obtain⟨hl,hg⟩:=lists _ _ h;obtain⟨us,rfl,u2,u3,u4⟩:=hr.ig;exact .agg _ us (by omega) u3 (hg us u4)
   ·exact h.elim
  ·split at h
   ·obtain⟨hl,hg⟩:=lists _ _ h;obtain⟨us,rfl,u2,u4⟩:=hr.jC;exact .tup _ us (by omega) (hg us u4)
   ·exact h.elim
  ·split at h
   ·rw[qD] at h;obtain⟨h1,h⟩:=h;subst h1;obtain⟨hl,hg⟩:=lists _ _ h;obtain⟨us,rfl,u2,u4⟩:=hr.gi;exact .fn _ _ us (by omega) (hg us u4)
   ·exact h.elim

theorem wu:∀(n:Nat) (xs ys:List aq),ga (wm n xs ys)->ys.length<=xs.length
 | _,_,[],_=>Nat.zero_le _
 | n,x::xs,y::ys,h=>by
  rw[wm,iA] at h;simp;exact wu n xs ys h.2
 | _,[],_::_,h=>h.elim
theorem wz:∀(n:Nat) (xs ys:List aq),ga (wm n xs ys)->∀j (h:j<xs.length) (h':j<ys.length),ga (Om n xs[j] ys[j])
 | _,[],_,_,j,h,_=>by simp at h
 | _,_::_,[],_,j,_,h'=>by simp at h'
 | n,x::xs,y::ys,h,j,h1,h2=>by
  rw[wm,iA] at h;cases j with
  | zero=>exact h.1
  | succ j=>exact wz n xs ys h.2 j (by simpa using h1) (by simpa using h2)

theorem Lb(hi:∀b,im b->bo b){n:Nat}{x y:aq}{p:dT}(h:ga (Om n x y))(hr:aX ids im w x p):aX (ids.take n) bo w y p:=by
 unfold Om at h;split at h
 ·rename_i ty cs sU db;split at h
  ·rename_i ht;have ht:=Nat.eq_of_beq_eq_true ht;subst ht;have hl:=fH _ _ _ _ h;cases p with
   | dead=>exact hr
   | av=>exact hr
   | aQ=>exact hr
   | cE vs=>exact hr
   | lv p =>
    obtain⟨vs,h1,h2,h3,h4⟩:=hr;exact⟨vs,h1,h2,by omega,fun j hj cj=>⟨iC hi 4 n _ _ _ (iB _ _ _ _ h j (by omega) hj) (h4 j (by omega) cj).1,(h4 j (by omega) cj).2⟩⟩
  ·exact h.elim
 ·rename_i ty sz n1 row sU sf La dI;split at h
  ·rename_i ht hs;have ht:=Nat.eq_of_beq_eq_true ht;have hs:=Nat.eq_of_beq_eq_true hs;subst ht;subst hs;obtain⟨e1,e2⟩:=h;subst e1;cases p with
   | dead=>exact hr
   | av=>exact hr
   | aQ=>exact hr
   | cE vs=>exact hr
   | lv p =>
    obtain⟨g1,g2,vs,h1,h2,h3,hl,h4⟩:=hr;rcases e2 with e2|e2
    ·refine⟨g1,g2,vs,h1,h2,h3,fun i hi=>by rw[<-e2 i hi];exact hl i hi,?_⟩;intro i j bV hj cj;have:=h4 i j bV (by rw[e2 i bV];exact hj) cj;simp only[e2 i bV] at this;exact⟨this.1.up hi,this.2⟩
    ·refine⟨g1,g2,vs,h1,h2,h3,fun i hi=>by rw[<-fH _ _ _ _ (e2 i hi)];exact hl i hi,?_⟩;intro i j bV hj cj;have hlen:=fH _ _ _ _ (e2 i bV);have h5:=h4 i j bV (by omega) cj;have:=iC (ids:=[]) hi 4 0 _ _ _ (iB _ _ _ _ (e2 i bV) j (by omega) hj) (.aI h5.1);exact⟨Rel.sV (by simpa using this),h5.2⟩
  ·exact h.elim
 ·rename_i ty aN sz n1 ho le row sU vm sf La NO ZD dI;split at h
  ·rename_i ht he hs;have ht:=Nat.eq_of_beq_eq_true ht;have he:=Nat.eq_of_beq_eq_true he;have hs:=Nat.eq_of_beq_eq_true hs;subst ht;subst hs;subst he;obtain⟨e1,e2⟩:=h;subst e1;cases p with
   | dead=>exact hr
   | av=>exact hr
   | aQ=>exact hr
   | cE vs=>exact hr
   | lv p =>
    obtain⟨g1,g2,g3,vs,h1,h2,h3,kb,h4⟩:=hr;refine⟨g1,g2,g3,vs,h1,h2,h3,kb,fun i bV hh h=>?_⟩;obtain⟨k1,k2,k3⟩:=h4 i bV hh h;refine⟨?_,k2,k3⟩;obtain⟨e3,e4⟩:=e2 i bV;rcases k1 with⟨q1,q2,q3⟩|⟨q,cap,us,q1,q2,q3,q4,q5,q6,q7,q8⟩
    ·exact .inl ⟨q1,by omega,q3⟩
    ·refine .inr ⟨q,cap,us,by rw[<-e3];exact q1,q2,q3,q4,by omega,q6,fun i' Yl=>by rw[<-e4 i' (by omega)];exact q7 i' (by omega),?_⟩;intro i' j Yl hj cj;have:=q8 i' j (by omega) (by rw[e4 i' (by omega)];exact hj) cj;simp only[e4 i' (by omega)] at this;exact⟨this.1.up hi,this.2⟩
  ·exact h.elim
 ·obtain⟨e1,e2,e3,e4⟩:=h;subst e1;subst e2;cases p with
  | dead=>exact hr
  | av=>exact hr
  | aQ=>exact hr
  | cE vs=>exact hr
  | lv p =>
   obtain⟨es,clock,f,h1,h2,h3,h4,h5,h6⟩:=hr;exact⟨es,clock,f,h1,fun i h=>by rw[<-e3];exact h2 i h,h3,fun k g1 g2=>h4 k g1 (by rw[e3];exact g2),fun i h=>by rw[<-e4 _ (h2 i h).2.2];exact(h5 i h).up hi,h6⟩
 ·obtain⟨e1,e2,e3,e4⟩:=h;subst e1;subst e2;cases p with
  | dead=>exact hr
  | av=>exact hr
  | aQ=>exact hr
  | cE vs=>exact hr
  | lv p =>
   obtain⟨es,clock,f,h1,h2,h3,h4,h5,h6,h7,h8⟩:=hr;refine⟨es,clock,f,h1,fun i h=>by rw[<-e3];exact h2 i h,h3,fun k g1 g2=>h4 k g1 (by rw[e3];exact g2),fun i h=>by rw[<-e4 _ (h2 i h).2.2];exact(h5 i h).up hi,fun i h=>?_,fun i j g1 g2 e=>?_⟩
   ·refine Classical.byContradiction fun hc=>?_;have:=h7 es[i].born (by omega);rw[h6 i h] at this;cases this
   ·have k1:=h6 i g1;have k2:=h6 j g2;rw[e,k2] at k1;exact h3 i j g1 g2 (Option.some.inj k1).symm
 ·obtain⟨e1,e2,e3,e4,e5⟩:=h;subst e1;subst e2;subst e5;cases p with
  | dead=>exact hr
  | av=>exact hr
  | aQ=>exact hr
  | cE vs=>exact hr
  | lv p =>
   obtain⟨r,es,clock,f,sb,h1,h2,h3,h4,h5,h6,h7,h8,h9,h10⟩:=hr;exact⟨r,es,clock,f,sb,h1,hi _ h2,h3,fun i h=>by rw[<-e3];exact h4 i h,h5,fun k g1 g2=>h6 k g1 (by rw[e3];exact g2),fun i h=>by rw[<-e4 _ (h4 i h).2.2];exact(h7 i h).up hi,h8,h9,h10⟩
 ·rename_i ty g1 n1 k1 dJ cs jA h1 v1 sU g' n' k' dB db On h' v';split at h
  ·rename_i ht;have ht:=Nat.eq_of_beq_eq_true ht;subst ht;obtain⟨e1,e2,e3,e4⟩:=h;subst e1;subst e2;subst e3;cases p with
   | dead=>exact hr
   | av=>exact hr
   | aQ=>exact hr
   | cE vs=>exact hr
   | lv p =>
    obtain⟨g1,g2,g3,vs,q1,q2,q3,_,kb,q5⟩:=hr;refine⟨g1,g2,g3,vs,q1,q2,q3,fun j hj=>absurd hj (by simp),kb,fun i bV hv=>?_⟩;obtain⟨k0,l0⟩:=q5 i bV hv;have l0:=l0 (.inl rfl);refine⟨k0,fun _=>⟨fun e=>l0.1 (by rw[(e4 i bV (by omega)).1];exact e),fun e=>?_⟩⟩;obtain⟨f1,f2⟩:=e4 i bV (by omega);obtain⟨f3,f4⟩:=f2 e;obtain⟨l1,l2,⟨es,clock,f,m1,m2,m3,m4,m5,m6⟩,l4⟩:=l0.2 (by rw[f1];exact e);refine⟨l1,l2,⟨es,clock,f,m1,fun i h=>by rw[<-f3];exact m2 i h,m3,fun k g1 g2=>m4 k g1 (by rw[f3];exact g2),fun i h=>by rw[<-f4 _ (m2 i h).2.2];exact(m5 i h).up hi,m6⟩,fun j hj _ ej ek=>?_⟩;exact l4 j hj (.inl rfl) (by rw[(e4 j hj (by omega)).1];exact ej) ek
  ·exact h.elim
 ·rename_i ty sz n1 row sU sf La Φ;split at h
  ·rename_i ht hs;have ht:=Nat.eq_of_beq_eq_true ht;have hs:=Nat.eq_of_beq_eq_true hs;subst ht;subst hs;obtain⟨e1,dI,e0,e2⟩:=h;subst e1;cases p with
   | dead=>exact hr
   | av=>exact hr
   | aQ=>exact⟨hr,dI,e0⟩
   | cE vs=>exact hr
   | lv p =>
    obtain⟨g1,g2,vs,h1,h2,h3,hl,h4⟩:=hr;refine⟨dI,e0,g1,g2,vs,h1,h2,h3,fun i hi=>by rw[<-e2 i hi];exact hl i hi,?_⟩;intro i j bV hj cj;have:=h4 i j bV (by rw[e2 i bV];exact hj) cj;simp only[e2 i bV] at this;exact⟨this.1.up hi,this.2⟩
  ·exact h.elim
 ·rename_i ty sz n1 Φ sU sf La Φ';split at h
  ·rename_i ht hs;have ht:=Nat.eq_of_beq_eq_true ht;have hs:=Nat.eq_of_beq_eq_true hs;subst ht;subst hs;obtain⟨e1,e2⟩:=h;subst e1;cases p with
   | dead=>exact hr
   | av=>exact hr
   | aQ=>exact⟨hr.1,hr.2.elim fun row h=>⟨row,e2 _ h⟩⟩
   | cE vs=>exact hr
   | lv p =>
    obtain⟨row,e0,g1,g2,vs,h1,h2,h3,hl,h4⟩:=hr;exact⟨row,e2 _ e0,g1,g2,vs,h1,h2,h3,hl,fun i j bV hj cj=>⟨(h4 i j bV hj cj).1.up hi,(h4 i j bV hj cj).2⟩⟩
  ·exact h.elim
 ·have hl:=fH _ _ _ _ h;cases p with
  | dead=>exact hr
  | av=>exact hr
  | aQ=>exact hr
  | lv p=>exact hr
  | cE vs=>exact⟨by rw[<-hl];exact hr.1,fun j hj cj=>iC hi 4 n _ _ _ (iB _ _ _ _ h j (by omega) hj) (hr.2 j (by omega) cj)⟩
 ·have hr:p=.dead:=hr;exact hr
 ·have hr:p=.av:=hr;exact hr
 ·exact h.elim

theorem aF.fit(hs:aF c s m a w ids){s':List A}{m':List aq}(h:rQ s m s' m'):aF c s' m' a w (ids.take m'.length):=by
 unfold rQ at h;rw[iA] at h;obtain⟨h1,h2⟩:=h;have hl:=fH _ _ _ _ h1;have hlb:=wu _ _ _ h2
 have hi:∀b,au c ids w b->au c (ids.take m'.length) w b:=by
  rintro b (h|⟨q1,q2,q3⟩)
  ·exact .inl h
  ·exact .inr ⟨q1,q2,fun p hp=>q3 p (List.mem_of_mem_take hp)⟩
 have hidl:ids.length=m.length:=hs.aL;refine⟨hs.defers,by rw[hs.len,hl],?_,by simp;omega,?_,?_,?_,hs.frame,hs.dZ,fun vs h=>hs.cE vs (List.mem_of_mem_take h)⟩
 ·intro i g1 g2;exact iC hi 5 _ _ _ _ (iB _ _ _ _ h1 i (by omega) g1) (hs.bI i (by omega) g2)
 ·intro b g1 g2;have:=hs.bC b (by omega) (by omega);rw[List.getElem_take];exact Lb hi (wz _ _ _ h2 b (by omega) g1) this
 ·intro i j p q x g1 g2 g3 g3';rw[List.getElem?_take] at g1 g2;split at g1
  ·split at g2
   ·exact hs.aj i j p q x g1 g2 g3 g3'
   ·cases g2
  ·cases g1
 ·intro p hp;exact hs.ar p (List.mem_of_mem_take hp)
theorem jg{s':List A}{m':List aq}(h:rQ s m s' m'):We s m s' m':=fun _ _ _ _ hs=>⟨_,hs.fit h⟩
end
end Go.Proofs.YtijddijloelacaaGreat.Am

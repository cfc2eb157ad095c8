/-
  THE ENGINE, part 2: an abstract machine of symbolic values, each step proved sound.
-/
import Derived.Test.YtijddijloelacaaGreatGenStarsm1
import Derived.MapKept
import Derived.WideKeyRuns
import Derived.Carry
import Derived.Maps.RangeRun
import Derived.Laws.BytesArg
set_option linter.unusedSimpArgs false
set_option linter.unusedSectionVars false
set_option linter.unusedVariables false
set_option maxHeartbeats 4000000
namespace Go.Proofs.YtijddijloelacaaGreat.Am
variable [Inhabited bY]
open Go.RowKit (Below)
structure Ren where
 r:Nat->Option Nat
 o:Nat->Option Nat
 m:Nat->Option Nat
def ij(τ:Ren):Nat->A->A
 | 0,_=>.ae
 | d+1,x=>match x with
  | .ref b o=>match τ.r b with
   | some b'=>.ref b' o
   | none=>.ae
  | .oref b i o=>match τ.o b with
   | some b'=>.oref b' i o
   | none=>.ae
  | .own b=>match τ.o b with
   | some b'=>.own b'
   | none=>.ae
  | .omap b=>match τ.m b with
   | some b'=>.omap b'
   | none=>.ae
  | .qc _ _=>.ae
  | .mF _ _=>.ae
  | .agg cs=>.agg (cs.map (ij τ d))
  | .tup cs=>.tup (cs.map (ij τ d))
  | .fn f cs=>.fn f (cs.map (ij τ d))
  | x=>x
def gE(τ:Ren)(d:Nat):aq->aq
 | .box ty cs=>.box ty (cs.map (ij τ d))
 | .ghost cs=>.ghost (cs.map (ij τ d))
 | .cF ty g sh n hi cs jb has val=>.cF ty g sh n hi (cs.map (ij τ d)) jb has val
 | x=>x
/-- What a renaming must keep. -/
structure qj (τ:Ren) (ids ab:dp):Prop where
 r:∀b b' p,τ.r b=some b'->ids[b]?=some (.lv p)->∃p',ab[b']?=some (.lv p')/\p'.ao=p.ao
 o:∀b b' p,τ.o b=some b'->ids[b]?=some p->p≠.dead->∃q,ab[b']?=some q/\Jm p q
 m:∀b b' p,τ.m b=some b'->ids[b]?=some (.lv p)->∃p',ab[b']?=some (.lv p')/\p'.ao=p.ao
 rs:∀b b',τ.r b=some b'->ids[b]?=some .av->ab[b']?=some .av
 ms:∀b b',τ.m b=some b'->ids[b]?=some .av->ab[b']?=some .av

section
variable {c:Ctx} {s:List A} {m:List aq} {a:Act} {w w':World} {ids ab:dp} {P:Program} {im bl:Nat->Prop} {tt:TT} {G:aG}

theorem dA{τ:Ren}(hi:∀b,im b->bl b)(hw:∀b,im b->w'.heap[b]?=w.heap[b]?)(ht:qj τ ids ab):
  ∀(d:Nat) (x:A) (v:Value),Rel ids im w x v->Rel ab bl w' (ij τ d x) v
 | 0,x,v,_=>.aH (.ae _)
 | d+1,x,v,h=>by
  have keep:∀y,aw im w y v->Rel ab bl w' y v:=fun y hy=>.aH (hy.mono hi hw);cases x with
  | ref b o =>
   simp only[ij];split
   ·rename_i b' hb;rcases h.gK with⟨p,h1,rfl⟩|⟨h1,x,y,rfl⟩;rotate_left
    ·exact .jM _ _ x y (ht.rs _ _ hb h1)
    obtain⟨p',h2,h3⟩:=ht.r _ _ _ hb h1;rw[<-h3];exact .ref _ _ p' h2
   ·exact .aH (.ae _)
  | oref b i o =>
   simp only[ij];split
   ·rename_i b' hb;rcases h.gS with⟨p,h1,rfl⟩|⟨h1,x,y,rfl⟩;rotate_left
    ·obtain⟨q,h4,h5⟩:=ht.o _ _ _ hb h1 (by simp);have h5:q=.av:=h5;subst h5;exact .fY _ _ _ x y h4
    obtain⟨q,h2,p',rfl,h3⟩:=ht.o _ _ _ hb h1 (by simp);rw[<-h3.1,<-h3.2.2.2];exact .oref _ _ _ p' h2
   ·exact .aH (.ae _)
  | own b =>
   simp only[ij];split
   ·rename_i b' hb;rcases h.jc with⟨h1,rfl⟩|⟨p,cap,h1,h2,h3,rfl⟩|⟨h1,x,n,cap,rfl⟩
    ·obtain⟨q,h4,h5⟩:=ht.o _ _ _ hb h1 (by simp);have h5:q=.aP:=h5;subst h5;exact .fH _ h4
    ·obtain⟨q,h4,p',rfl,h5⟩:=ht.o _ _ _ hb h1 (by simp);rw[<-h5.1,<-h5.2.2.1];exact .own _ cap p' h4 (by rw[h5.2.2.1];exact h2) (by rw[h5.2.1,h5.2.2.2];exact h3)
    ·obtain⟨q,h4,h5⟩:=ht.o _ _ _ hb h1 (by simp);have h5:q=.av:=h5;subst h5;exact .jN _ x n cap h4
   ·exact .aH (.ae _)
  | omap b =>
   simp only[ij];split
   ·rename_i b' hb;rcases h.iM with⟨p,h1,rfl⟩|⟨h1,x,rfl⟩;rotate_left
    ·exact .fD _ x (ht.ms _ _ hb h1)
    obtain⟨p',h2,h3⟩:=ht.m _ _ _ hb h1;rw[<-h3];exact .omap _ p' h2
   ·exact .aH (.ae _)
  | agg cs =>
   obtain⟨vs,rfl,hl,ho,hr⟩:=h.gL;exact .agg _ vs (by simpa using hl) ho (fun j h h'=>by rw[List.getElem_map];exact dA hi hw ht d _ _ (hr j (by simpa using h) h'))
  | tup cs =>
   obtain⟨vs,rfl,hl,hr⟩:=h.kA;exact .tup _ vs (by simpa using hl) (fun j h h'=>by rw[List.getElem_map];exact dA hi hw ht d _ _ (hr j (by simpa using h) h'))
  | fn f cs =>
   obtain⟨vs,rfl,hl,hr⟩:=h.fM;exact .fn f _ vs (by simpa using hl) (fun j h h'=>by rw[List.getElem_map];exact dA hi hw ht d _ _ (hr j (by simpa using h) h'))
  | int k n=>cases h with|aH h=>exact keep _ h
  | bool k=>cases h with|aH h=>exact keep _ h
  | sb k=>cases h with|aH h=>exact keep _ h
  | str k=>cases h with|aH h=>exact keep _ h
  | gk=>cases h with|aH h=>exact keep _ h
  | bref cs off=>cases h with|aH h=>exact keep _ h
  | aR=>cases h with|aH h=>exact keep _ h
  | sl n sz row=>cases h with|aH h=>exact keep _ h
  | bz=>cases h with|aH h=>exact keep _ h
  | fF=>cases h with|aH h=>exact keep _ h
  | mv g n k v=>cases h with|aH h=>exact keep _ h
  | ae=>exact .aH (.ae _)
  | qc=>exact .aH (.ae _)
  | mF=>exact .aH (.ae _)

theorem jT{τ:Ren}(hi:∀b,im b->bl b)(hw:∀b,im b->w'.heap[b]?=w.heap[b]?)(ht:qj τ ids ab)(d:Nat)
  {x:aq} {p:dH} (hp:∀q,p=.lv q->∀k,q.has k->w'.heap[k]?=w.heap[k]?) (h:aV ids im w x p):aV ab bl w' (gE τ d x) p:=by
 cases x with
 | box ty cs =>
  cases p with
  | dead=>exact h
  | av=>exact h
  | aP=>exact h
  | cz vs=>exact h
  | lv q =>
   obtain⟨vs,h1,h2,h3,h4⟩:=h;refine⟨vs,by rw[hp _ rfl _ (.inl rfl)];exact h1,h2,by simpa using h3,fun j h h'=>?_⟩;rw[List.getElem_map];exact⟨dA hi hw ht d _ _ (h4 j (by simpa using h) h').1,(h4 j (by simpa using h) h').2⟩
 | ghost cs =>
  cases p with
  | dead=>exact h
  | av=>exact h
  | aP=>exact h
  | lv q=>exact h
  | cz vs =>
   refine⟨by simpa using h.1,fun j h1 h2=>?_⟩;rw[List.getElem_map];exact dA hi hw ht d _ _ (h.2 j (by simpa using h1) h2)
 | dead=>exact h
 | gone=>exact h
 | row ty sz n row=>have h:=aV.mono (ids:=ids) (ab:=ids) hi hw (fun _ _ h _=>h) hp h;cases p<;>exact h
 | nest ty aM sz n ho le row=>have h:=aV.mono (ids:=ids) (ab:=ids) hi hw (fun _ _ h _=>h) hp h;cases p<;>exact h
 | ez g n k v=>have h:=aV.mono (ids:=ids) (ab:=ids) hi hw (fun _ _ h _=>h) hp h;cases p<;>exact h
 | n0 g n k v=>have h:=aV.mono (ids:=ids) (ab:=ids) hi hw (fun _ _ h _=>h) hp h;cases p<;>exact h
 | E2 g n k v se=>have h:=aV.mono (ids:=ids) (ab:=ids) hi hw (fun _ _ h _=>h) hp h;cases p<;>exact h
 | bC ty sz n Φ=>have h:=aV.mono (ids:=ids) (ab:=ids) hi hw (fun _ _ h _=>h) hp h;cases p<;>exact h
 | cF ty g sh n dI cs jb has val =>
  cases p with
  | dead=>exact h
  | av=>exact h
  | aP=>exact h
  | cz vs=>exact h
  | lv q=>exact lL (ij τ d) (hp _ rfl) (fun _ _ h=>h.mono hi hw) (fun x v h=>dA hi hw ht d x v h) h
end

def setMany{α:Type}:List Nat->List α->List α->List α
 | b::bs,x::xs,m=>setMany bs xs (m.set b x)
 | _,_,m=>m
theorem bX{α:Type}:∀(ρ:List Nat) (xs m:List α),(setMany ρ xs m).length=m.length
 | [],xs,m=>by cases xs<;>rfl
 | b::bs,[],m=>rfl
 | b::bs,x::xs,m=>by rw[setMany,bX bs xs];simp
theorem kK{α:Type}:∀(ρ:List Nat) (xs m:List α) (b:Nat),b∉ρ->(setMany ρ xs m)[b]?=m[b]?
 | [],xs,m,b,_=>by cases xs<;>rfl
 | b'::bs,[],m,b,_=>rfl
 | b'::bs,x::xs,m,b,h=>by
  rw[setMany,kK bs xs _ b (fun h'=>h (by simp[h'])),List.getElem?_set_ne (fun e=>h (by simp[e]))]
theorem nk{α:Type}:∀(ρ:List Nat) (xs m:List α) (k b:Nat) (x:α),ρ.Nodup->ρ[k]?=some b->xs[k]?=some x->b<m.length->(setMany ρ xs m)[b]?=some x
 | [],xs,m,k,b,x,_,h,_,_=>by simp at h
 | b'::bs,[],m,k,b,x,_,_,h,_=>by simp at h
 | b'::bs,y::xs,m,k,b,x,hn,h1,h2,hb=>by
  rw[setMany];cases k with
  | zero =>
   simp at h1 h2;subst h1;subst h2;rw[kK _ _ _ _ (List.nodup_cons.1 hn).1,List.getElem?_set_self hb]
  | succ k=>exact nk bs xs _ k b x (List.nodup_cons.1 hn).2 (by simpa using h1) (by simpa using h2) (by simpa using hb)

def eF:List Nat->Nat->Nat->Option Nat
 | [],_,_=>none
 | x::xs,k,b=>match Nat.beq b x with
  | true=>some k
  | false=>eF xs (k+1) b
theorem fE:∀(l:List Nat) (k b j:Nat),eF l k b=some j->k<=j/\l[j-k]?=some b
 | [],k,b,j,h=>by simp[eF] at h
 | x::xs,k,b,j,h=>by
  unfold eF at h;split at h
  ·rename_i e;cases h;have:=Nat.eq_of_beq_eq_true e;subst this;simp
  ·obtain⟨h1,h2⟩:=fE xs (k+1) b j h;refine⟨by omega,?_⟩;rw[show j-k=(j-(k+1))+1 by omega];simpa using h2
theorem jU:∀(l:List Nat) (k b:Nat),eF l k b=none->b∉l
 | [],_,_,_=>by simp
 | x::xs,k,b,h=>by
  unfold eF at h;split at h
  ·cases h
  ·rename_i e;have:=jU xs (k+1) b h;simp only[List.mem_cons,not_or];exact⟨fun e'=>by subst e';simp at e,this⟩
def reach(m:List aq):Nat->A->List Nat
 | 0,_=>[]
 | d+1,x=>match x with
  | .ref b _=>b::match m.getD b .dead with
   | .box _ cs=>(cs.map (reach m d)).flatten
   | _=>[]
  | .oref b _ _=>[b]
  | .own b=>[b]
  | .omap b=>[b]
  | .agg cs=>(cs.map (reach m d)).flatten
  | .tup cs=>(cs.map (reach m d)).flatten
  | .fn _ cs=>(cs.map (reach m d)).flatten
  | _=>[]
def Kh:List Nat->List Nat->List Nat
 | _,[]=>[]
 | acc,x::xs=>match u9 x acc with
  | true=>Kh acc xs
  | false=>x::Kh (x::acc) xs
where u9 (i:Nat):List Nat->Bool
 | []=>false
 | j::js=>match Nat.beq i j with
  | true=>true
  | false=>u9 i js
def QF:List Nat->(List Nat->Prop)->Prop
 | [],K=>K []
 | x::xs,K=>dj x fun y=>QF xs fun ys=>K (y::ys)
theorem wN:∀(l:List Nat) (K:List Nat->Prop),QF l K=K l
 | [],_=>rfl
 | x::xs,K=>by simp only[QF,aN,wN xs]
def nm:List Nat->Bool
 | []=>true
 | x::xs=>match Kh.u9 x xs with
  | true=>false
  | false=>nm xs
theorem u'{i:Nat}:∀ {l:List Nat},Kh.u9 i l=true↔i∈l
 | []=>by simp[Kh.u9]
 | x::xs=>by
  unfold Kh.u9;split
  ·rename_i h;have:=Nat.eq_of_beq_eq_true h;simp[this]
  ·rename_i h;have hne:i≠x:=fun e=>by subst e;simp at h
   simp[hne,u' (l:=xs)]
theorem iz:∀ {l:List Nat},nm l=true->l.Nodup
 | [],_=>List.nodup_nil
 | x::xs,h=>by
  unfold nm at h;split at h
  ·cases h
  ·rename_i hn;refine List.nodup_cons.2 ⟨fun hm=>?_,iz h⟩;rw[u'.2 hm] at hn;cases hn
def jV:aq->Bool
 | .box _ _=>true
 | .row _ _ _ _=>true
 | .nest _ _ _ _ _ _ _=>true
 | .ez _ _ _ _=>true
 | .cF _ _ _ _ _ cs _ _ _=>cs.isEmpty
 | .bC _ _ _ _=>true
 | _=>false
def TL(m:List aq):List Nat->Bool
 | []=>true
 | b::bs=>match jV (m.getD b .dead) with
  | true=>TL m bs
  | false=>false
theorem va{m:List aq}:∀ {l:List Nat},TL m l=true->∀b∈l,jV (m.getD b .dead)=true/\b<m.length
 | [],_,b,hb=>by simp at hb
 | x::xs,h,b,hb=>by
  unfold TL at h;split at h
  ·rename_i hx;rcases List.mem_cons.1 hb with rfl|hb
   ·refine⟨hx,?_⟩;rcases Nat.lt_or_ge b m.length with h'|h'
    ·exact h'
    ·rw[List.getD_eq_getElem?_getD,List.getElem?_eq_none h'] at hx;simp[jV] at hx
   ·exact va h b hb
  ·cases h
/-- The names that are watched: rows that are handed as they are, and all boxes and maps. -/
def Vc:A->A
 | .own b=>.own b
 | _=>.ae
def FU(m:List aq):Nat->List Nat->List A
 | _,[]=>[]
 | k,b::bs=>(match m.getD b .dead with
  | .box _ _=>.ref k 0
  | .ez _ _ _ _=>.omap k
  | _=>.ae)::FU m (k+1) bs
abbrev bP(f:Nat->Option Nat):Ren:=⟨f,f,f⟩
def ji(ρ:List Nat)(M:Nat):Nat->Option Nat
 | 0=>none
 | j+1=>match Nat.blt j ρ.length with
  | true=>some (ρ.getD j 0)
  | false=>some (M+(j-ρ.length))
def oq(ρ:List Nat)(go:List A)(n:Nat)(b:Nat):Option Nat :=
 match eF ρ 0 b with
 | none=>some b
 | some k=>match go.getD (n+k) .ae with
  | .ref k' o=>match Nat.beq k' (k+1),o with
   | true,0=>some b
   | _,_=>none
  | _=>none
def ot(ρ:List Nat)(go:List A)(n:Nat)(b:Nat):Option Nat :=
 match eF ρ 0 b with
 | none=>some b
 | some k=>match go.getD (n+k) .ae with
  | .omap k'=>match Nat.beq k' (k+1) with
   | true=>some b
   | false=>none
  | _=>none
def kL(k:Nat):List A->List A->Bool
 | .own b::as,g::gs=>match Nat.beq b k,g with
  | true,.own b'=>match Nat.beq b' k with
   | true=>true
   | false=>kL k as gs
  | _,_=>kL k as gs
 | _::as,_::gs=>kL k as gs
 | _,_=>false
def wO(x y:aq):Bool :=
 match x,y with
 | .row _ sz _ _,.row _ qQ _ _=>Nat.beq sz qQ
 | .nest _ _ _ _ _ _ _,.nest _ _ _ _ _ _ _=>true
 | .row _ sz _ _,.bC _ qQ _ _=>Nat.beq sz qQ
 | .cF _ _ _ _ _ _ _ _ _,.cF _ _ _ _ _ _ _ _ _=>true
 | _,_=>false
def tu(ρ:List Nat)(as go:List A)(m mo:List aq)(b:Nat):Option Nat :=
 match eF ρ 0 b with
 | none=>some b
 | some k=>match kL (k+1) as go,wO (m.getD b .dead) (mo.getD k .dead) with
  | true,true=>some b
  | _,_=>none
def fZ:List aq->Bool
 | []=>true
 | .ghost _::_=>false
 | .gone::_=>false
 | _::xs=>fZ xs

def fN(ids:dp):Nat->Prop:=fun x=>∃p,dH.lv p∈ids/\p.has x
/-- A function that is handed blocks, and hands some back. -/
def aL(P:Program)(G:aG)(f:FuncId)(args:List A)(mi:List aq)(r:A)(mo:List aq):Prop :=
 (∃ fn cd, P.funcs[f]? = some fn ∧ fn.body = some cd ∧ (fn.name == "runtime.NumGoroutine") = false) ∧
 ∀(im:Nat->Prop) (w:World) (vs gs:List Value) (ids:dp),G.ok ⟨w,im,fN ids,gs⟩->aF ⟨w,im,fN ids,gs⟩ args mi ⟨vs.toArray,[]⟩ w ids ->
  Calls P f vs.toArray w fun e w'=>∃v ab,e=.returned v/\aF ⟨w,im,fN ids,gs⟩ [r] mo ⟨#[v],[]⟩ w' ab
def BL(P:Program)(G:aG)(f:A)(args:List A)(s:List A)(m:List aq)(K:List A->A->List aq->Prop):Prop :=
 match f with
 | .fn g cap=>fd.pv 4 (args++cap) fun as=>QF (Kh [] ((as.map (reach m 8)).flatten)) fun ρ=>match TL m ρ,nm ρ with
  | true,true=>fd.pv 4 (as.map (ij (bP (eF ρ 1)) 4)) fun iO =>
   pz (.ghost (iO.map Vc++FU m 1 ρ)::ρ.map fun b=>gE (bP (eF ρ 1)) 4 (m.getD b .dead)) fun mi =>
   ∃r mo,aL P G g iO mi r mo/\match mo with
    | .ghost go::iC=>match fZ iC,Nat.ble ρ.length iC.length with
     | true,true =>
      fd.pv 4 (s.map (ij ⟨oq ρ go iO.length,tu ρ iO go m iC,ot ρ go iO.length⟩ 4)) fun s' =>
      pz (setMany ρ (iC.map (gE (bP (ji ρ m.length)) 4)) (m.map (gE ⟨oq ρ go iO.length,tu ρ iO go m iC,ot ρ go iO.length⟩ 4))++(iC.drop ρ.length).map (gE (bP (ji ρ m.length)) 4)) fun m' =>
      fd 4 (ij (bP (ji ρ m.length)) 4 r) fun r'=>K s' r' m'
     | _,_=>False
    | _=>False
  | _,_=>False
 | _=>False
section
variable {c:Ctx} {s:List A} {m:List aq} {a:Act} {w w':World} {ids ab:dp} {P:Program} {im bl:Nat->Prop} {tt:TT} {G:aG}
variable {next:Act->World->Prop} {Q:Exit->Act->World->Prop} {o:Oper}

theorem wP{x:aq}{vs:List Value}(h:jV x=true)(hb:aV ids im w x (.cz vs)):False:=by
 cases x<;>first|exact hb|(simp[jV] at h)
theorem aF.BM(hs:aF c s m a w ids){b:Nat}(hb:b<m.length):∃p,ids[b]?=some p/\aV ids (au c ids w) w (m.getD b .dead) p:=by
 have h1:b<ids.length:=by rw[hs.aK];exact hb
 refine⟨ids[b],List.getElem?_eq_getElem h1,?_⟩;have:=hs.bu b hb h1
 rwa [show m.getD b .dead=m[b] by rw[List.getD_eq_getElem?_getD,List.getElem?_eq_getElem hb];rfl]
theorem aT{α:Type}{l:List α}{i:Nat}{x:α}(h:l[i]?=some x):i<l.length:=by
 rcases Nat.lt_or_ge i l.length with h'|h'
 ·exact h'
 ·rw[List.getElem?_eq_none h'] at h;cases h
/-- What stands for a watched name. -/
def Me(m:List aq)(ids:dp)(b:Nat):Value :=
 match m.getD b .dead,ids.getD b .dead with
 | .box _ _,.lv p=>.pointer (some ⟨p.ao,0,none⟩)
 | .ez _ _ _ _,.lv p=>.map (some p.ao)
 | _,_=>.bool false
theorem rA(m:List aq):∀(ρ:List Nat) (k:Nat),(FU m k ρ).length=ρ.length
 | [],_=>rfl
 | _::ρ,k=>by simp[FU,rA m ρ]
theorem DF(hs:aF c s m a w ids){pC:dp}{bl:Nat->Prop}:∀(ρ:List Nat) (k:Nat),(∀j b,ρ[j]?=some b->pC[k+j]?=ids[b]?/\b<m.length) ->
  ∀j (h:j<(FU m k ρ).length) (h':j<(ρ.map (Me m ids)).length),Rel pC bl w (FU m k ρ)[j] (ρ.map (Me m ids))[j]
 | [],k,_,j,h,_=>by simp[FU] at h
 | b::ρ,k,hi,0,h,h'=>by
  obtain⟨e1,e2⟩:=hi 0 b rfl;obtain⟨p,hp,hb⟩:=hs.BM e2;have Ns:ids.getD b .dead=p:=by rw[List.getD_eq_getElem?_getD,hp];rfl
  simp only[FU,List.map_cons,List.getElem_cons_zero];unfold Me;rw[Ns];split
  ·rename_i ty cs hm;rw[hm] at hb ⊢;cases p with
   | lv p=>exact .ref k 0 p (by rw[Nat.add_zero] at e1;rw[e1,hp])
   | dead=>exact hb.elim
   | av=>exact hb.elim
   | aP=>exact hb.elim
   | cz vs=>exact hb.elim
  ·rename_i g n kk vv hm;rw[hm] at hb ⊢;cases p with
   | lv p=>exact .omap k p (by rw[Nat.add_zero] at e1;rw[e1,hp])
   | dead=>exact hb.elim
   | av=>exact hb.elim
   | aP=>exact hb.elim
   | cz vs=>exact hb.elim
  ·exact .aH (.ae _)
 | b::ρ,k,hi,j+1,h,h'=>by
  simp only[FU,List.map_cons,List.getElem_cons_succ]
  exact DF hs ρ (k+1) (fun j b hj=>by
   have:=hi (j+1) b (by simpa using hj)
   rwa [show k+(j+1)=k+1+j by omega] at this) j (by simpa[FU] using h) (by simpa using h')
theorem ou(k:Nat):∀(as gs:List A),kL k as gs=true->∃j:Nat,as[j]?=some (A.own k)/\gs[j]?=some (A.own k)
 | [],_,h=>by simp[kL] at h
 | x::as,[],h=>by cases x<;>simp[kL] at h
 | x::as,g::gs,h=>by
  have rest:kL k as gs=true->∃j:Nat,(x::as)[j]?=some (A.own k)/\(g::gs)[j]?=some (A.own k):=fun h=>by
   obtain⟨j,h1,h2⟩:=ou k as gs h;exact⟨j+1,by simpa using h1,by simpa using h2⟩
  unfold kL at h;split at h
  ·rename_i b iO g' PT e1 e2;cases e1;cases e2;split at h
   ·rename_i b' hb;have:=Nat.eq_of_beq_eq_true hb;subst this;split at h
    ·rename_i gj;have:=Nat.eq_of_beq_eq_true gj;subst this;exact⟨0,rfl,rfl⟩
    ·exact rest h
   ·exact rest h
  ·rename_i e1 e2;cases e1;cases e2;exact rest h
  ·cases h
theorem jw:∀ {l:List aq},fZ l=true->∀x∈l,∀cs,x≠.ghost cs
 | [],_,x,h=>by simp at h
 | y::ys,h,x,hx=>by
  rcases List.mem_cons.1 hx with rfl|hx
  ·intro cs e;subst e;simp[fZ] at h
  ·exact jw (l:=ys) (by cases y<;>simp[fZ] at h<;>exact h) x hx

theorem kM:∀ {l:List aq},fZ l=true->∀x∈l,x≠.gone
 | [],_,x,h=>by simp at h
 | y::ys,h,x,hx=>by
  rcases List.mem_cons.1 hx with rfl|hx
  ·intro e;subst e;simp[fZ] at h
  ·exact kM (l:=ys) (by cases y<;>simp[fZ] at h<;>exact h) x hx

theorem wQ(hs:aF c s m a w ids)(hG:G.ok c){F:Operand}{xs:Array Operand}{ts:Array TypeId}(ho:o.op=.call { callee:=.value F,args:=xs,argTypes:=ts }){K:List A->A->List aq->Prop}
  (h:BL P G (ev s F) (xs.toList.map (ev s)) s m K)
  (hn:∀s1 v m' a' w' ab,K s1 v m'->aF c (aZ s1 o.dst v) m' a' w' ab->next a' w'):o.wp P a w next Q:=by
 have hf:=hs.ev F;have TF:G.G w:=hG.now hs.frame;unfold BL at h;split at h
 ·rename_i g cap hv;rw[hv] at hf;obtain⟨us,HR,Ar,Ke⟩:=hf.fM;rw[cD,wN] at h;generalize has:xs.toList.map (ev s)++cap=as at h;generalize hρ:Kh [] ((as.map (reach m 8)).flatten)=ρ at h;generalize Kn:xs.toList.map a.eval++us=vs
  have hrel:∀j (h:j<as.length) (h':j<vs.length),Rel ids (au c ids w) w as[j] vs[j]:=by
   subst has;subst Kn;intro j h h';by_cases hj:j<xs.toList.length
   ·rw[List.getElem_append_left (by simpa using hj),List.getElem_append_left (by simpa using hj)];exact kI hs xs.toList j (by simpa using hj) (by simpa using hj)
   ·rw[List.getElem_append_right (by simpa using hj),List.getElem_append_right (by simpa using hj)];simp at h h' hj;have:=Ke (j-xs.size) (by omega) (by omega);simpa using this
  have hlen:vs.length=as.length:=by subst has;subst Kn;simp[Ar]
  have run : ∀ fn cd, P.funcs[g]? = some fn → fn.body = some cd → (fn.name == "runtime.NumGoroutine") = false → (execOp a.eval o).run P w = .ok (.enter g vs.toArray) w := by
   intro fn cd h1 h2 h3;have e:execOp a.eval o=(do let d <-resolve a.eval { callee:=.value F,args:=xs,argTypes:=ts } o.type;invoke d.target d.args):=by unfold execOp;rw[ho]
   have e2:(xs.map a.eval++us.toArray)=vs.toArray:=by subst Kn;apply Array.ext';simp
   have h4 : ¬ fn.name = "runtime.NumGoroutine" := by simpa using h3
   rw[e];simp[resolve,HR,Deferred.ofValue,invoke,callFunc,h1,h2,h4,e2]
  split at h
  ·rename_i yD oK;have yD:=va yD;have oK:=iz oK;rw[cD,dF] at h;generalize SF:as.map (ij (bP (eF ρ 1)) 4)=iO at h;obtain⟨r,mo,hc,h⟩:=h;split at h
   ·rename_i go iC;split at h
    ·rename_i xL hle;have hle:ρ.length<=iC.length:=Nat.le_of_ble_eq_true hle;have Yh:=kM xL;have xL:=jw xL;rw[cD,dF,dX] at h
     -- the SG names
     let gs:List Value:=vs++ρ.map (Me m ids)
     let pC:dp:=.cz gs::ρ.map fun b=>ids.getD b .dead
     let c':Ctx:=⟨w,au c ids w,fN pC,gs⟩
     have wR:∀b,b∈ρ->∃p,ids[b]?=some p/\ids.getD b .dead=p/\aV ids (au c ids w) w (m.getD b .dead) p/\∀vs,p≠.cz vs:=by
      intro b hb;obtain⟨p,h1,h2⟩:=hs.BM (yD b hb).2;refine⟨p,h1,by rw[List.getD_eq_getElem?_getD,h1];rfl,h2,?_⟩;rintro vs rfl;exact wP (yD b hb).1 h2
     have qk:∀j b,ρ[j]?=some b->pC[j+1]?=ids[b]?:=by
      intro j b hj;obtain⟨p,h1,h2,_⟩:=wR b (List.mem_of_getElem? hj);show(ρ.map fun b=>ids.getD b .dead)[j]?=_;rw[List.getElem?_map,hj,h1];simp only[Option.map_some,h2]
     have jx:∀(i:Nat) p,pC[i]?=some (.lv p)->∃j b,i=j+1/\ρ[j]?=some b/\ids[b]?=some (.lv p):=by
      intro i p hi;cases i with
      | zero=>simp[pC] at hi
      | succ j =>
       have cr:(ρ.map fun b=>ids.getD b .dead)[j]?=some (.lv p):=hi;rw[List.getElem?_map] at cr;cases hj:ρ[j]? with
       | none=>rw[hj] at cr;cases cr
       | some b=>exact⟨j,b,rfl,hj,by rw[<-qk j b hj];exact hi⟩
     have Js:∀x,fN pC x->∃b p,b∈ρ/\ids[b]?=some (.lv p)/\p.has x:=by
      rintro x ⟨p,hp,hx⟩;obtain⟨i,hi⟩:=List.getElem?_of_mem hp;obtain⟨j,b,_,h2,h3⟩:=jx i p hi;exact⟨b,p,List.mem_of_getElem? h2,h3,hx⟩
     have WM:∀b p x,b∈ρ->ids[b]?=some (.lv p)->p.has x->fN pC x:=by
      intro b p x hb hp hx;obtain⟨j,hj⟩:=List.getElem?_of_mem hb;exact⟨p,List.mem_of_getElem? (by rw[qk j b hj];exact hp),hx⟩
     have Jt:∀b,au c ids w b->¬fN pC b:=by
      intro b hb hm;obtain⟨b',p,_,h2,h3⟩:=Js b hm;rcases hb with hb|⟨_,_,hb⟩
      ·exact hs.oM hb (hs.ar p (List.mem_of_getElem? h2) b h3).1
      ·exact hb p (List.mem_of_getElem? h2) h3
     have hτ:qj (bP (eF ρ 1)) ids pC:=by
      have key:∀b b',eF ρ 1 b=some b'->pC[b']?=ids[b]?:=by
       intro b b' hb;obtain⟨h1,h2⟩:=fE _ _ _ _ hb;have:=qk _ _ h2
       rwa [show b'-1+1=b' by omega] at this
      exact⟨fun b b' p h1 h2=>⟨p,by rw[key b b' h1];exact h2,rfl⟩,fun b b' p h1 h2 _=>⟨p,by rw[key b b' h1];exact h2,gD p⟩,fun b b' p h1 h2=>⟨p,by rw[key b b' h1];exact h2,rfl⟩,fun b b' h1 h2=>by rw[key b b' h1];exact h2,fun b b' h1 h2=>by rw[key b b' h1];exact h2⟩
     have Ki:iO.length=as.length:=by rw[<-SF];simp
     have tq:∀j (h:j<iO.length) (h':j<vs.length),Rel pC (au c' pC w) w iO[j] vs[j]:=by
      intro j h h';have:iO[j]=ij (bP (eF ρ 1)) 4 (as[j]'(by omega)):=by simp[<-SF]
      rw[this];exact dA (fun _ h=>.inl h) (fun _ _=>rfl) hτ 4 _ _ (hrel j (by omega) h')
     have Yi:aF c' iO (.ghost (iO.map Vc++FU m 1 ρ)::ρ.map fun b=>gE (bP (eF ρ 1)) 4 (m.getD b .dead)) ⟨vs.toArray,[]⟩ w pC:=by
      refine⟨rfl,by simp[hlen,Ki],fun i h h'=>by simpa using tq i h (by simpa using h'),by simp[pC],?_,?_,?_,Fr.refl _ _ _ _,?_,?_⟩
      ·intro i h1 h2;cases i with
       | zero =>
        show aV pC (au c' pC w) w (.ghost (iO.map Vc++FU m 1 ρ)) (.cz gs);refine⟨by simp[gs,rA,hlen,Ki],fun j g1 g2=>?_⟩;by_cases hj:j<iO.length
        ·rw[List.getElem_append_left (by simpa using hj)];simp only[gs];rw[List.getElem_append_left (by omega),List.getElem_map];have:=tq j hj (by omega);generalize iO[j]=x at this ⊢;cases x<;>first|exact this|exact .aH (.ae _)
        ·rw[List.getElem_append_right (by simpa using hj)];simp only[gs];rw[List.getElem_append_right (by omega)];have:=DF (pC:=pC) (bl:=au c' pC w) hs ρ 1 (fun j b hj=>⟨by rw[Nat.add_comm];exact qk j b hj,(yD b (List.mem_of_getElem? hj)).2⟩) (j-iO.length) (by simp at g1;rw[rA] at *;omega) (by simp;simp[rA] at g1;omega);simpa[hlen,Ki] using this
       | succ i =>
        have hi:i<ρ.length:=by simpa using h1
        obtain⟨p,q1,q2,q3,q4⟩:=wR ρ[i] (List.getElem_mem hi);show aV pC (au c' pC w) w ((ρ.map fun b=>gE (bP (eF ρ 1)) 4 (m.getD b .dead))[i]'(by simpa using hi)) ((ρ.map fun b=>ids.getD b .dead)[i]'(by simpa using hi));rw[List.getElem_map,List.getElem_map,q2];exact jT (fun _ h=>.inl h) (fun _ _=>rfl) hτ 4 (fun _ _ _ _=>rfl) q3
      ·intro i j p q x h1 h2 h3 h4;obtain⟨i',b1,rfl,e1,e2⟩:=jx i p h1;obtain⟨j',b2,rfl,e3,e4⟩:=jx j q h2;have:=hs.ah b1 b2 p q x e2 e4 h3 h4;subst this;have:=(List.getElem?_inj (aT e1) oK).1 (e1.trans e3.symm);omega
      ·intro p hp x hx;obtain⟨i,hi⟩:=List.getElem?_of_mem hp;obtain⟨j,b,_,h2,h3⟩:=jx i p hi;exact⟨.inr ⟨p,hp,hx⟩,(hs.ar p (List.mem_of_getElem? h3) x hx).2⟩
      ·exact fun b hb=>⟨cw hs hb,Jt b hb⟩
      ·intro du Et;rcases List.mem_cons.1 Et with e|e
       ·cases e;rfl
       ·simp only[List.mem_map] at e;obtain⟨b,hb,e⟩:=e;obtain⟨p,_,q2,_,q4⟩:=wR b hb;exact absurd (q2.symm.trans e) (q4 du)
     have Yj:G.ok c':=by
      refine⟨TF,fun b hb=>?_⟩;obtain⟨b',p,_,h2,h3⟩:=Js b hb;rcases (hs.ar p (List.mem_of_getElem? h2) b h3).1 with h|h
      ·exact Nat.le_trans (G.lt _ hG.1) h
      ·exact hG.2 b h
     obtain⟨⟨fn,cd,f1,f2,f3⟩,hc⟩:=hc;unfold Oper.wp;rw[run fn cd f1 f2 f3];show Calls P g _ w _;refine bg (hc (au c ids w) w vs gs pC Yj Yi) ?_;rintro e w' ⟨v,Nt,rfl,hr⟩;have hr:aF c' [r] (.ghost go::iC) ⟨#[v],[]⟩ w' Nt:=hr
     -- behind the call
     match Nt,hr with
     | [],hr=>have:=hr.aK;simp at this
     | g0::gT,hr =>
     have vB:gT.length=iC.length:=by have:=hr.aK;simpa using this
     have Fe:=hr.bu 0 (by simp) (by simp);simp only[List.getElem_cons_zero] at Fe
     have Yk:∃PT,g0=.cz PT:=by
      cases g0 with
      | cz PT=>exact⟨PT,rfl⟩
      | dead=>exact Fe.elim
      | av=>exact Fe.elim
      | aP=>exact Fe.elim
      | lv p=>exact Fe.elim
     obtain⟨PT,rfl⟩:=Yk;have Yl:PT=gs:=hr.cz PT (by simp);subst Yl;obtain⟨Tr,J6⟩:=Fe
     have PU:∀(j:Nat) x v,go[j]?=some x->gs[j]?=some v->Rel (.cz gs::gT) (au c' (.cz gs::gT) w') w' x v:=by
      intro j x v e1 e2;have g1:=aT e1;have g2:=aT e2;have:=J6 j g1 g2;rw[List.getElem?_eq_getElem g1] at e1;rw[List.getElem?_eq_getElem g2] at e2;cases e1;cases e2;exact this
     have ql:∀b,b<w.heap.size->¬fN pC b->w'.heap[b]?=w.heap[b]?:=fun b h1 h2=>hr.frame.block b h1 h2;have Vd:w.heap.size<=w'.heap.size:=hr.frame.size;have xq:ids.length=m.length:=hs.aK;generalize zw:setMany ρ gT ids++gT.drop ρ.length=iW
     have SH:∀(k b:Nat) p,ρ[k]?=some b->gT[k]?=some p->iW[b]?=some p:=by
      intro k b p h1 h2;have hb:=(yD b (List.mem_of_getElem? h1)).2;rw[<-zw,List.getElem?_append_left (by rw[bX,xq];exact hb)];exact nk ρ gT ids k b p oK h1 h2 (by rw[xq];exact hb)
     have Jp:∀b,b∉ρ->b<m.length->iW[b]?=ids[b]?:=by
      intro b h1 h2;rw[<-zw,List.getElem?_append_left (by rw[bX,xq];exact h2)];exact kK _ _ _ _ h1
     have Ym:∀(k:Nat) p,ρ.length<=k->gT[k]?=some p->iW[m.length+(k-ρ.length)]?=some p:=by
      intro k p h1 h2;rw[<-zw,List.getElem?_append_right (by rw[bX,xq];omega),bX,xq,List.getElem?_drop];rw[show ρ.length+(m.length+(k-ρ.length)-m.length)=k by omega];exact h2
     have inv2:∀(i:Nat) p,iW[i]?=some p->(i∉ρ/\i<m.length/\ids[i]?=some p)\/∃k:Nat,gT[k]?=some p/\((ρ[k]?=some i)\/(ρ.length<=k/\i=m.length+(k-ρ.length))):=by
      intro i p hi;rcases Nat.lt_or_ge i m.length with aI|HE
      ·by_cases hm:i∈ρ
       ·obtain⟨k,hk⟩:=List.getElem?_of_mem hm;have pN:=aT hk;have:gT[k]?=some (gT[k]'(by omega)):=List.getElem?_eq_getElem _;rw[SH k i _ hk this] at hi;exact .inr ⟨k,by rw[this];exact hi,.inl hk⟩
       ·rw[Jp i hm aI] at hi;exact .inl ⟨hm,aI,hi⟩
      ·rw[<-zw,List.getElem?_append_right (by rw[bX,xq];exact HE),bX,xq,List.getElem?_drop] at hi;exact .inr ⟨ρ.length+(i-m.length),hi,.inr ⟨by omega,by omega⟩⟩
     have SI:∀x,c'.new x->c.new x:=by
      rintro x (h|h)
      ·exact .inl (Nat.le_trans hs.frame.size h)
      ·obtain⟨b,p,_,h2,h3⟩:=Js x h;exact(hs.ar p (List.mem_of_getElem? h2) x h3).1
     have PV:∀p,dH.lv p∈iW->∀x,p.has x->(∃i,i∉ρ/\ids[i]?=some (.lv p))\/(c'.new x/\x<w'.heap.size/\dH.lv p∈gT):=by
      intro p hp x hx;obtain⟨i,hi⟩:=List.getElem?_of_mem hp;rcases inv2 i _ hi with⟨h1,_,h3⟩|⟨k,h1,_⟩
      ·exact .inl ⟨i,h1,h3⟩
      ·have:=hr.ar p (List.mem_cons_of_mem _ (List.mem_of_getElem? h1)) x hx;exact .inr ⟨this.1,this.2,List.mem_of_getElem? h1⟩
     have BN:∀(i:Nat) p x,i∉ρ->ids[i]?=some (.lv p)->p.has x->x<w.heap.size/\¬fN pC x:=by
      intro i p x h1 h2 h3;refine⟨(hs.ar p (List.mem_of_getElem? h2) x h3).2,fun hm=>?_⟩;obtain⟨b,q,h4,h5,h6⟩:=Js x hm;have:=hs.ah i b p q x h2 h5 h3 h6;subst this;exact h1 h4
     have hA:∀b,au c ids w b->au c iW w' b:=by
      intro b hb;have Yn:=Jt b hb;have aI:=cw hs hb;rcases hb with hb|⟨h1,h2,h3⟩
      ·exact .inl hb
      ·refine .inr ⟨h1,by omega,fun p hp hx=>?_⟩;rcases PV p hp b hx with⟨i,_,h5⟩|⟨h4|h4,_,_⟩
       ·exact h3 p (List.mem_of_getElem? h5) hx
       ·have h4:w.heap.size<=b:=h4;omega
       ·exact Yn h4
     have hB:∀b,au c' (.cz gs::gT) w' b->au c iW w' b:=by
      rintro b (hb|⟨h1,h2,h3⟩)
      ·exact hA b hb
      ·refine .inr ⟨SI b h1,h2,fun p hp hx=>?_⟩;rcases PV p hp b hx with⟨i,h4,h5⟩|⟨_,_,h4⟩
       ·obtain⟨g1,g2⟩:=BN i p b h4 h5 hx;rcases h1 with h1|h1
        ·have h1:w.heap.size<=b:=h1;omega
        ·exact g2 h1
       ·exact h3 p (List.mem_cons_of_mem _ h4) hx
     have hH:∀b,au c ids w b->w'.heap[b]?=w.heap[b]?:=fun b hb=>ql b (cw hs hb) (Jt b hb)
     have hυ:qj (bP (ji ρ m.length)) (.cz gs::gT) iW:=by
      have key:∀b b' p,ji ρ m.length b=some b'->(dH.cz gs::gT)[b]?=some p->iW[b']?=some p:=by
       intro b b' p h1 h2;cases b with
       | zero=>simp[ji] at h1
       | succ j =>
        have h2:gT[j]?=some p:=by simpa using h2
        simp only[ji] at h1;split at h1
        ·rename_i hj;have hj:j<ρ.length:=Nat.le_of_ble_eq_true hj;cases h1;exact SH j _ p (by rw[List.getD_eq_getElem?_getD,List.getElem?_eq_getElem hj];rfl) h2
        ·rename_i hj;have hj:¬j<ρ.length:=fun h'=>by rw[show Nat.blt j ρ.length=true from Nat.ble_eq_true_of_le h'] at hj;cases hj
         cases h1;exact Ym j p (by omega) h2
      exact⟨fun b b' p h1 h2=>⟨p,key b b' _ h1 h2,rfl⟩,fun b b' p h1 h2 _=>⟨p,key b b' _ h1 h2,gD p⟩,fun b b' p h1 h2=>⟨p,key b b' _ h1 h2,rfl⟩,fun b b' h1 h2=>key b b' _ h1 h2,fun b b' h1 h2=>key b b' _ h1 h2⟩
     have SJ:∀(k b:Nat),ρ[k]?=some b->gs[iO.length+k]?=some (Me m ids b):=by
      intro k b hk;show(vs++ρ.map (Me m ids))[iO.length+k]?=_;rw[List.getElem?_append_right (by omega),List.getElem?_map,show iO.length+k-vs.length=k by omega,hk];rfl
     have hκ:qj ⟨oq ρ go iO.length,tu ρ iO go m iC,ot ρ go iO.length⟩ ids iW:=by
      have SK:∀k:Nat,gT[k]?≠some .av:=by
       intro k b1;have pN:=aT b1;have nB:=hr.bu (k+1) (by simp;omega) (by simp;omega);rw[List.getElem?_eq_getElem pN] at b1;simp only[List.getElem_cons_succ,Option.some.inj b1] at nB;have h2:=Yh _ (List.getElem_mem (show k<iC.length by omega));generalize iC[k]'(by omega)=x at nB h2;cases x<;>first|exact nB.elim|exact absurd rfl h2|cases nB
      have I3:∀b,ids[b]?=some .av->eF ρ 0 b=none->iW[b]?=some .av:=fun b h2 hp=>by
       rw[Jp b (jU _ _ _ hp) (by rw[<-xq];exact aT h2)];exact h2
      have WN:∀b k,ids[b]?=some .av->eF ρ 0 b=some k->False:=fun b k h2 hp=>by
       obtain⟨_,hk⟩:=fE _ _ _ _ hp;obtain⟨p',q1,q2,q3,_⟩:=wR b (List.mem_of_getElem? hk);rw[h2] at q1;cases q1;have:=(yD b (List.mem_of_getElem? hk)).1;cases hx:m.getD b .dead<;>rw[hx] at q3 this<;>first|exact q3.elim|(simp[jV] at this)
      refine⟨?_,?_,?_,?_,?_⟩;rotate_left 3
      ·intro b b' h1 h2;have h1:oq ρ go iO.length b=some b':=h1;unfold oq at h1;split at h1
       ·rename_i hp;cases h1;exact I3 b h2 hp
       ·rename_i k hp;exact(WN b k h2 hp).elim
      ·intro b b' h1 h2;have h1:ot ρ go iO.length b=some b':=h1;unfold ot at h1;split at h1
       ·rename_i hp;cases h1;exact I3 b h2 hp
       ·rename_i k hp;exact(WN b k h2 hp).elim
      ·intro b b' p h1 h2;have h1:oq ρ go iO.length b=some b':=h1;unfold oq at h1;split at h1
       ·rename_i hp;cases h1;exact⟨p,by rw[Jp b (jU _ _ _ hp) (by rw[<-xq];exact aT h2)];exact h2,rfl⟩
       ·rename_i k hp;obtain⟨_,hk⟩:=fE _ _ _ _ hp;rw[Nat.sub_zero] at hk;split at h1
        ·rename_i k' o' Ju;split at h1
         ·rename_i gn;cases h1;have gn:=Nat.eq_of_beq_eq_true gn;subst gn
          have PW:go[iO.length+k]?=some (.ref (k+1) 0):=by
           rw[List.getD_eq_getElem?_getD] at Ju;cases hx:go[iO.length+k]? with
           | none=>rw[hx] at Ju;cases Ju
           | some y=>rw[hx] at Ju;simpa using Ju
          obtain⟨p',e1,e2⟩:=(PU _ _ _ PW (SJ k b hk)).gK.resolve_right (fun h=>SK k (by simpa using h.1));have e1:gT[k]?=some (.lv p'):=by simpa using e1
          refine⟨p',SH k b _ hk e1,?_⟩;have Ns:ids.getD b .dead=.lv p:=by rw[List.getD_eq_getElem?_getD,h2];rfl
          unfold Me at e2;rw[Ns] at e2;split at e2
          ·rename_i q _ he;cases he;simp only[Value.pointer.injEq,Option.some.injEq,Addr.mk.injEq] at e2;exact e2.1.symm
          ·cases e2
          ·cases e2
         ·cases h1
        ·cases h1
      ·intro b b' p h1 h2 Ns;have h1:tu ρ iO go m iC b=some b':=h1;unfold tu at h1;split at h1
       ·rename_i hp;cases h1;exact⟨p,by rw[Jp b (jU _ _ _ hp) (by rw[<-xq];exact aT h2)];exact h2,gD p⟩
       ·rename_i k hp;obtain⟨_,hk⟩:=fE _ _ _ _ hp;rw[Nat.sub_zero] at hk;split at h1
        ·rename_i Ve Az;cases h1;obtain⟨j,e1,e2⟩:=ou _ _ _ Ve;have hj:=aT e1
         have Yo:gs[j]?=some (vs[j]'(by omega)):=by
          show(vs++ρ.map (Me m ids))[j]?=_;rw[List.getElem?_append_left (by omega),List.getElem?_eq_getElem]
         have R1:=tq j hj (by omega);rw[List.getElem?_eq_getElem hj] at e1;rw[Option.some.inj e1] at R1;have R2:=PU j _ _ e2 Yo;have PX:pC[k+1]?=some p:=by rw[qk k b hk];exact h2
         have pN:k<gT.length:=by have:=aT hk;omega
         have RT:gT[k]?=some gT[k]:=List.getElem?_eq_getElem pN;refine⟨gT[k],SH k b _ hk RT,?_⟩
         have SK:gT[k]?≠some .av:=by
          intro b1;rw[RT] at b1;have b1:=Option.some.inj b1;have nB:=hr.bu (k+1) (by simp;omega) (by simp;omega);simp only[List.getElem_cons_succ,b1] at nB;have Nj:iC.getD k .dead=iC[k]'(by omega):=by rw[List.getD_eq_getElem?_getD,List.getElem?_eq_getElem];rfl
          rw[<-Nj] at nB;unfold wO at Az;split at Az
          ·rename_i wS pQ;rw[pQ] at nB;exact nB
          ·rename_i wS pQ;rw[pQ] at nB;exact nB
          ·rename_i wS pQ;rw[pQ] at nB;exact nB
          ·rename_i wS pQ;rw[pQ] at nB;exact nB
          ·cases Az
         rcases R1.jc with⟨a1,a2⟩|⟨p1,Yp,a1,a2,a3,a4⟩|⟨a1,_⟩
         rotate_right
         ·rw[PX] at a1;cases a1;obtain⟨p',q1,q2,q3,_⟩:=wR b (List.mem_of_getElem? hk);rw[h2] at q1;cases q1;unfold wO at Az;split at Az
          ·rename_i wS pQ;rw[wS] at q3;exact q3.elim
          ·rename_i wS pQ;rw[wS] at q3;exact q3.elim
          ·rename_i wS pQ;rw[wS] at q3;exact q3.elim
          ·rename_i wS pQ;rw[wS] at q3;exact q3.elim
          ·cases Az
         ·rw[PX] at a1;cases a1;rcases R2.jc with⟨b1,b2⟩|⟨p2,PY,b1,b2,b3,b4⟩|⟨b1,_⟩
          rotate_right
          ·exact absurd (by simpa using b1) SK
          ·have b1:gT[k]?=some .aP:=by simpa using b1
           rw[RT] at b1;exact Option.some.inj b1
          ·rw[a2] at b4;cases b4
         ·rw[PX] at a1;cases a1;rcases R2.jc with⟨b1,b2⟩|⟨p2,PY,b1,b2,b3,b4⟩|⟨b1,_⟩
          rotate_right
          ·exact absurd (by simpa using b1) SK
          ·rw[a4] at b2;cases b2
          ·have b1:gT[k]?=some (.lv p2):=by simpa using b1
           rw[RT] at b1;have b1:=Option.some.inj b1;rw[a4] at b4;simp only[Value.slice.injEq,Option.some.injEq,Addr.mk.injEq] at b4;obtain⟨⟨c1,_⟩,c2,c3⟩:=b4;obtain⟨p',q1,q2,q3,_⟩:=wR b (List.mem_of_getElem? hk);rw[h2] at q1;cases q1;have nB:=hr.bu (k+1) (by simp;omega) (by simp;omega);simp only[List.getElem_cons_succ,b1] at nB;have Nj:iC.getD k .dead=iC[k]'(by omega):=by rw[List.getD_eq_getElem?_getD,List.getElem?_eq_getElem];rfl
           rw[<-Nj] at nB
           have bM:p2.sz=p1.sz:=by
            unfold wO at Az;split at Az
            ·rename_i wS pQ;rw[wS] at q3;rw[pQ] at nB;have:=Nat.eq_of_beq_eq_true Az;rw[nB.1,q3.1,this]
            ·rename_i wS pQ;rw[wS] at q3;rw[pQ] at nB;rw[nB.1,q3.1]
            ·rename_i wS pQ;rw[wS] at q3;rw[pQ] at nB;obtain⟨_,_,e9,_⟩:=nB;have:=Nat.eq_of_beq_eq_true Az;rw[e9,q3.1,this]
            ·rename_i wS pQ;rw[wS] at q3;rw[pQ] at nB;rw[nB.1,q3.1]
            ·cases Az
           rw[b1];exact⟨p2,rfl,c1.symm,by rw[<-b3,<-a3,bM,c3],c2.symm,bM⟩
        ·cases h1
      ·intro b b' p h1 h2;have h1:ot ρ go iO.length b=some b':=h1;unfold ot at h1;split at h1
       ·rename_i hp;cases h1;exact⟨p,by rw[Jp b (jU _ _ _ hp) (by rw[<-xq];exact aT h2)];exact h2,rfl⟩
       ·rename_i k hp;obtain⟨_,hk⟩:=fE _ _ _ _ hp;rw[Nat.sub_zero] at hk;split at h1
        ·rename_i k' Ju;split at h1
         ·rename_i gn;cases h1;have gn:=Nat.eq_of_beq_eq_true gn;subst gn
          have PW:go[iO.length+k]?=some (.omap (k+1)):=by
           rw[List.getD_eq_getElem?_getD] at Ju;cases hx:go[iO.length+k]? with
           | none=>rw[hx] at Ju;cases Ju
           | some y=>rw[hx] at Ju;simpa using Ju
          obtain⟨p',e1,e2⟩:=(PU _ _ _ PW (SJ k b hk)).iM.resolve_right (fun h=>SK k (by simpa using h.1));have e1:gT[k]?=some (.lv p'):=by simpa using e1
          refine⟨p',SH k b _ hk e1,?_⟩;have Ns:ids.getD b .dead=.lv p:=by rw[List.getD_eq_getElem?_getD,h2];rfl
          unfold Me at e2;rw[Ns] at e2;split at e2
          ·cases e2
          ·rename_i q _ he;cases he;simp only[Value.map.injEq,Option.some.injEq] at e2;exact e2.symm
          ·cases e2
         ·cases h1
        ·cases h1
     refine hn _ _ _ _ w' iW h (aF.aZ ?_ o.dst (dA hB (fun _ _=>rfl) hυ 4 _ _ (by simpa using hr.bE 0 (by simp) (by simp))))
     have Vf:iW.length=(setMany ρ (iC.map (gE (bP (ji ρ m.length)) 4)) (m.map (gE ⟨oq ρ go iO.length,tu ρ iO go m iC,ot ρ go iO.length⟩ 4))++(iC.drop ρ.length).map (gE (bP (ji ρ m.length)) 4)).length:=by
      rw[<-zw];simp[bX,xq,vB]
     have back:∀(k:Nat) x p,iC[k]?=some x->gT[k]?=some p->aV iW (au c iW w') w' (gE (bP (ji ρ m.length)) 4 x) p:=by
      intro k x p h1 h2;have g1:=aT h1;have g2:=aT h2;have:=hr.bu (k+1) (by simp;omega) (by simp;omega);simp only[List.getElem_cons_succ] at this;rw[List.getElem?_eq_getElem g1] at h1;rw[List.getElem?_eq_getElem g2] at h2;cases h1;cases h2;exact jT hB (fun _ _=>rfl) hυ 4 (fun _ _ _ _=>rfl) this
     refine⟨hs.defers,by simp[hs.len],?_,Vf,?_,?_,?_,?_,hs.dL,?_⟩
     ·intro i h1 h2;rw[List.getElem_map];exact dA hA hH hκ 4 _ _ (hs.bE i (by simpa using h1) h2)
     ·intro i h1 h2;have e2:iW[i]?=some iW[i]:=List.getElem?_eq_getElem h2;have e1:=List.getElem?_eq_getElem h1;generalize iW[i]=p at e2 ⊢;generalize ZG:(setMany ρ (iC.map (gE (bP (ji ρ m.length)) 4)) (m.map (gE ⟨oq ρ go iO.length,tu ρ iO go m iC,ot ρ go iO.length⟩ 4))++(iC.drop ρ.length).map (gE (bP (ji ρ m.length)) 4))[i]=x at e1 ⊢;rcases inv2 i p e2 with⟨g1,g2,g3⟩|⟨k,g1,g2|⟨g2,g3⟩⟩
      ·rw[List.getElem?_append_left (by rw[bX];simpa using g2),kK _ _ _ _ g1,List.getElem?_map,List.getElem?_eq_getElem g2] at e1;cases e1;have hb:=hs.bu i g2 (by rw[xq];exact g2);rw[List.getElem?_eq_getElem (by rw[xq];exact g2)] at g3;cases g3;refine jT hA hH hκ 4 ?_ hb;intro q hq y hy;obtain⟨f1,f2⟩:=BN i q y g1 (by rw[List.getElem?_eq_getElem (by rw[xq];exact g2),hq]) hy;exact ql y f1 f2
      ·have PL:=(yD i (List.mem_of_getElem? g2)).2;have oJ:k<iC.length:=by have:=aT g1;omega
       rw[List.getElem?_append_left (by rw[bX];simpa using PL),
        nk ρ (iC.map (gE (bP (ji ρ m.length)) 4)) _ k i (gE (bP (ji ρ m.length)) 4 iC[k]) oK g2 (by rw[List.getElem?_map,List.getElem?_eq_getElem oJ];rfl) (by simpa using PL)] at e1
       cases e1;exact back k _ p (List.getElem?_eq_getElem oJ) g1
      ·have oJ:k<iC.length:=by have:=aT g1;omega
       rw[g3,List.getElem?_append_right (by rw[bX];simp),bX,List.getElem?_map,List.getElem?_drop,List.length_map,
        show ρ.length+(m.length+(k-ρ.length)-m.length)=k by omega,List.getElem?_eq_getElem oJ] at e1
       cases e1;exact back k _ p (List.getElem?_eq_getElem oJ) g1
     ·intro i j p q x h1 h2 h3 h4
      have mix:∀(i:Nat) p (k:Nat) q,i∉ρ->ids[i]?=some (.lv p)->gT[k]?=some (.lv q)->p.has x->q.has x->False:=by
       intro i p k q g1 g2 g3 g4 g5;obtain⟨f1,f2⟩:=BN i p x g1 g2 g4;rcases (hr.ar q (List.mem_cons_of_mem _ (List.mem_of_getElem? g3)) x g5).1 with f|f
       ·have f:w.heap.size<=x:=f;omega
       ·exact f2 f
      rcases inv2 i _ h1 with⟨g1,g2,g3⟩|⟨k,g1,g2⟩<;>rcases inv2 j _ h2 with⟨e1,e2,e3⟩|⟨k',e1,e2⟩
      ·exact hs.ah i j p q x g3 e3 h3 h4
      ·exact(mix i p k' q g1 g3 e1 h3 h4).elim
      ·exact(mix j q k p e1 e3 g1 h4 h3).elim
      ·have:=hr.ah (k+1) (k'+1) p q x (by simpa using g1) (by simpa using e1) h3 h4;have:k=k':=by omega
       subst this;rcases g2 with g2|⟨g2,g3⟩<;>rcases e2 with e2|⟨e2,e3⟩
       ·rw[g2] at e2;exact Option.some.inj e2
       ·have:=aT g2;omega
       ·have:=aT e2;omega
       ·omega
     ·intro p hp x hx;rcases PV p hp x hx with⟨i,h1,h2⟩|⟨h1,h2,_⟩
      ·have:=hs.ar p (List.mem_of_getElem? h2) x hx;exact⟨this.1,by omega⟩
      ·exact⟨SI x h1,h2⟩
     ·refine hs.frame.go hr.frame.os hr.frame.tape hr.frame.output Vd (fun k hk hm=>?_) hr.frame.drawn;refine ql k (Nat.lt_of_lt_of_le hk hs.frame.size) (fun QM=>?_);obtain⟨b,p,_,h2,h3⟩:=Js k QM;rcases (hs.ar p (List.mem_of_getElem? h2) k h3).1 with f|f
      ·omega
      ·exact hm f
     ·intro du Et;obtain⟨i,hi⟩:=List.getElem?_of_mem Et;rcases inv2 i _ hi with⟨_,_,h3⟩|⟨k,h1,_⟩
      ·exact hs.cz du (List.mem_of_getElem? h3)
      ·have oJ:k<iC.length:=by have:=aT h1;omega
       have:=hr.bu (k+1) (by simp;omega) (by simp;have:=aT h1;omega);simp only[List.getElem_cons_succ] at this;rw[List.getElem?_eq_getElem (aT h1)] at h1;rw[Option.some.inj h1] at this;have SL:=xL _ (List.getElem_mem oJ);generalize iC[k]=x at this SL;cases x<;>first|exact this.elim|(rename_i cs;exact absurd rfl (SL cs))|(have this:dH.cz du=.dead:=this;cases this)|(have this:dH.cz du=.av:=this;cases this)
    ·exact h.elim
   ·exact h.elim
  ·exact h.elim
 ·exact h.elim
end
section
variable {c:Ctx} {s:List A} {m:List aq} {a:Act} {w w':World} {ids ab:dp} {P:Program} {im bl:Nat->Prop} {tt:TT} {G:aG}
variable {next:Act->World->Prop} {Q:Exit->Act->World->Prop} {o:Oper}

/-- A row of ours, taken for a value that nobody writes. -/
theorem Mf(hs:aF c s m a w ids){b:Nat}{v:Value}(hA:∀x,au c ids w x->bl x)(hZ:∀p,ids[b]?=some (.lv p)->∀x,p.has x->bl x)(hr:Rel ids (au c ids w) w (.own b) v):
  aw bl w (wk m 1 (.own b)) v:=by
 cases hr with
 | aH h=>cases h
 | jN b x n cap h=>simp only[wk,hs.da h];exact .ae _
 | fH b h =>
  simp only[wk];split
  ·rename_i ty sz n row hb;rcases mA hs (.fH b h) hb with⟨rfl,_,_⟩|⟨p,cap,g1,_⟩
   ·exact .rJ _ _
   ·rw[h] at g1;cases g1
  ·rename_i hb
   have aI:b<ids.length:=by
    rcases Nat.lt_or_ge b ids.length with h'|h'
    ·exact h'
    ·rw[List.getElem?_eq_none h'] at h;cases h
   have:=hs.bu b (by rw[<-hs.aK];exact aI) aI;rw[List.getElem?_eq_getElem aI] at h
   have e:m[b]'(by rw[<-hs.aK];exact aI)=m.getD b .dead:=by
    rw[List.getD_eq_getElem?_getD,List.getElem?_eq_getElem (by rw[<-hs.aK];exact aI)];rfl
   rw[e,hb,Option.some.inj h] at this;have this:_=0:=this;subst this;split
   ·exact .rJ _ _
   ·exact .ae _
  ·rename_i ty agg sh n dI cs jb has val hb
   have aI:b<ids.length:=by
    rcases Nat.lt_or_ge b ids.length with h'|h'
    ·exact h'
    ·rw[List.getElem?_eq_none h'] at h;cases h
   have:=hs.bu b (by rw[<-hs.aK];exact aI) aI;rw[List.getElem?_eq_getElem aI] at h
   have e:m[b]'(by rw[<-hs.aK];exact aI)=m.getD b .dead:=by
    rw[List.getD_eq_getElem?_getD,List.getElem?_eq_getElem (by rw[<-hs.aK];exact aI)];rfl
   rw[e,hb,Option.some.inj h] at this;have this:_=0:=this;subst this;split
   ·exact .rJ _ _
   ·exact .ae _
  ·exact .ae _
 | own b cap p h hn hm =>
  simp only[wk];split
  ·rename_i ty sz n row hb;obtain⟨x,lq,kX⟩:=hs.dU h;rw[bf lq] at hb;subst hb;obtain⟨q1,q2,qP,g1,g2,g3,hl,g5⟩:=kX;subst q1;subst q2
   have aI:∀i j,i<p.n->j<p.sz->i*p.sz+j<qP.size:=by
    intro i j hi hj;have:=Nat.mul_le_mul_right p.sz (show i+1<=p.n from hi);rw[Nat.add_mul] at this;omega
   refine .sl p.n p.sz row p.ao 0 cap (fun i j=>qP.getD (i*p.sz+j) undef) (hZ p h _ (.inl rfl)) hn.1 hl ?_ ?_ ?_
   ·intro i j hi hj;have hk:=aI i j hi hj;rw[Nat.zero_add,cell_of_row w p.ao _ qP ty (0,0) g1];simp[Array.getD_eq_getD_getElem?,hk]
   ·intro i j hi hj;have hk:=aI i j hi hj;have:=(g5 i j hi (by rw[hl i hi];exact hj) hk).2;simpa[Array.getD_eq_getD_getElem?,hk] using this
   ·intro i j hi hj;have hk:=aI i j hi (by rw[<-hl i hi];exact hj);have:=(g5 i j hi hj hk).1;simp only[Array.getD_eq_getD_getElem?,Array.getElem?_eq_getElem hk,Option.getD_some];exact this.mono hA (fun _ _=>rfl)
  ·rename_i ty aM sz n hole len row hb;split
   ·skip
    obtain⟨x,lq,kX⟩:=hs.dU h;rw[bf lq] at hb;subst hb;obtain⟨q1,q2,q3,qP,g1,g2,g3,kb,g5⟩:=kX;subst q2;refine .sl p.n 1 _ p.ao 0 cap (fun i j=>qP.getD (i*1+j) undef) (hZ p h _ (.inl rfl)) hn.1 (fun _ _=>rfl) ?_ ?_ ?_
    ·intro i j hi hj;rw[Nat.zero_add,cell_of_row w p.ao _ qP ty (0,0) g1];simp[Array.getD_eq_getD_getElem?,show i+j<qP.size by omega]
    ·intro i j hi hj;have Jg:j=0:=by omega
     subst Jg;have hk:i<qP.size:=by omega
     simp only[Nat.mul_one,Nat.add_zero,Array.getD_eq_getD_getElem?,Array.getElem?_eq_getElem hk,Option.getD_some];rcases (g5 i hi (by simp) hk).1 with⟨e,_⟩|⟨q,mU,du,e,_⟩<;>rw[e]<;>rfl
    ·intro i j hi hj;have Jg:j=0:=by simp at hj;omega
     subst Jg;have hk:i<qP.size:=by omega
     simp only[Nat.mul_one,Nat.add_zero,Array.getD_eq_getD_getElem?,Array.getElem?_eq_getElem hk,Option.getD_some,List.getElem_cons_zero];obtain⟨k1,k2,_⟩:=g5 i hi (by simp) hk;rcases k1 with⟨e1,e2,_⟩|⟨q,mU,du,e1,e2,e3,e4,e5,e6,e7,e8⟩
     ·rw[e1,e2];exact .rJ _ _
     ·rw[e1]
      have aI:∀i' j,i'<len i->j<sz->i'*sz+j<du.size:=by
       intro i' j cr hj;have h1:=Nat.mul_le_mul_right sz (show i'+1<=len i from cr);have h2:=Nat.mul_le_mul_right sz e5;rw[Nat.add_mul] at h1;omega
      refine .sl (len i) sz (row i) q 0 mU (fun i' j=>du.getD (i'*sz+j) undef) (hZ p h _ (.inr (k2 q e2))) e5 e7 ?_ ?_ ?_
      ·intro i' j cr hj;have hk:=aI i' j cr hj;rw[Nat.zero_add,cell_of_row w q _ du aM (0,0) e3];simp[Array.getD_eq_getD_getElem?,hk]
      ·intro i' j cr hj;have hk:=aI i' j cr hj;have:=(e8 i' j cr (by rw[e7 i' cr];exact hj) hk).2;simpa[Array.getD_eq_getD_getElem?,hk] using this
      ·intro i' j cr hj;have hk:=aI i' j cr (by rw[<-e7 i' cr];exact hj);have:=(e8 i' j cr hj hk).1;simp only[Array.getD_eq_getD_getElem?,Array.getElem?_eq_getElem hk,Option.getD_some];exact this.mono hA (fun _ _=>rfl)
   ·exact .ae _
  ·rename_i ty agg sh n dI cs jb has val hb;split
   ·rename_i he;obtain⟨x,lq,kX⟩:=hs.dU h;rw[bf lq] at hb;subst hb;exact zk kX he hn.1 hA (hZ p h)
   ·exact .ae _
  ·exact .ae _
theorem Jv(hs:aF c s m a w ids){b:Nat}{v:Value}(hA:∀x,au c ids w x->bl x)(hZ:∀p,ids[b]?=some (.lv p)->∀x,p.has x->bl x)(hr:Rel ids (au c ids w) w (.omap b) v):
  aw bl w (wk m 1 (.omap b)) v:=by
 cases hr with
 | fD b x h=>simp only[wk,hs.da h];exact .ae _
 | aH h=>cases h
 | omap b p h =>
  simp only[wk];split
  ·rename_i g n key val hb;obtain⟨x,lq,kX⟩:=hs.dU h;rw[bf lq] at hb;subst hb;obtain⟨es,clock,f,g1,g2,g3,g4,g5,g6,g7⟩:=kX;exact .mv g n key val p.ao es clock f (hZ p h _ (.inl rfl)) g1 g2 g3 g4 (fun i hi=>(g5 i hi).mono hA (fun _ _=>rfl)) g6 g7
  ·exact .ae _

def zz(b:Nat)(q:Option (List A))(y z:A):Nat->A->A
 | 0,_=>.ae
 | d+1,x=>match x with
  | .ref b' o=>match Nat.beq b' b with
   | true=>match q with
    | some cs=>.bref cs o
    | none=>.ae
   | false=>.ref b' o
  | .oref b' i o=>match Nat.beq b' b with
   | true=>.ae
   | false=>.oref b' i o
  | .own b'=>match Nat.beq b' b with
   | true=>y
   | false=>.own b'
  | .omap b'=>match Nat.beq b' b with
   | true=>z
   | false=>.omap b'
  | .qc _ _=>.ae
  | .mF _ _=>.ae
  | .agg cs=>.agg (cs.map (zz b q y z d))
  | .tup cs=>.tup (cs.map (zz b q y z d))
  | .fn f cs=>.fn f (cs.map (zz b q y z d))
  | x=>x
def Jw(b:Nat)(q:Option (List A))(y z:A)(d:Nat):aq->aq
 | .box ty cs=>.box ty (cs.map (zz b q y z d))
 | .ghost cs=>.ghost (cs.map (zz b q y z d))
 | .cF ty g sh n hi cs jb has val=>.cF ty g sh n hi (cs.map (zz b q y z d)) jb has val
 | x=>x
theorem kN{b:Nat}{q:Option (List A)}{y z:A}(hq:∀cs o v,q=some cs->Rel ids im w (.ref b o) v->aw bl w (.bref cs o) v)(hi:∀b,im b->bl b)(hd:∀(b':Nat) p,b'≠b->ids[b']?=some p->ab[b']?=some p)
  (hy:∀v,Rel ids im w (.own b) v->aw bl w y v) (Er:∀v,Rel ids im w (.omap b) v->aw bl w z v) :
  ∀(d:Nat) (x:A) (v:Value),Rel ids im w x v->Rel ab bl w (zz b q y z d x) v
 | 0,x,v,_=>.aH (.ae _)
 | d+1,x,v,h=>by
  have keep:∀y,aw im w y v->Rel ab bl w y v:=fun y hy=>.aH (hy.mono hi (fun _ _=>rfl));cases x with
  | ref b' o =>
   simp only[zz];split
   ·rename_i hb;have:=Nat.eq_of_beq_eq_true hb;subst this;split
    ·exact .aH (hq _ _ _ rfl h)
    ·exact .aH (.ae _)
   ·rename_i hb;rcases h.gK with⟨p,h1,rfl⟩|⟨h1,x,y,rfl⟩;rotate_left
    ·exact .jM _ _ x y (hd b' _ (fun e=>by subst e;simp at hb) h1)
    exact .ref _ _ p (hd b' _ (fun e=>by subst e;simp at hb) h1)
  | oref b' i o =>
   simp only[zz];split
   ·exact .aH (.ae _)
   ·rename_i hb;rcases h.gS with⟨p,h1,rfl⟩|⟨h1,x,y,rfl⟩;rotate_left
    ·exact .fY _ _ _ x y (hd b' _ (fun e=>by subst e;simp at hb) h1)
    exact .oref _ _ _ p (hd b' _ (fun e=>by subst e;simp at hb) h1)
  | own b' =>
   simp only[zz];split
   ·rename_i hb;have:=Nat.eq_of_beq_eq_true hb;subst this;exact .aH (hy v h)
   ·rename_i hb;have hne:b'≠b:=fun e=>by subst e;simp at hb
    rcases h.jc with⟨h1,rfl⟩|⟨p,cap,h1,h2,h3,rfl⟩|⟨h1,x,n,cap,rfl⟩
    ·exact .fH _ (hd b' _ hne h1)
    ·exact .own _ cap p (hd b' _ hne h1) h2 h3
    ·exact .jN _ x n cap (hd b' _ hne h1)
  | omap b' =>
   simp only[zz];split
   ·rename_i hb;have:=Nat.eq_of_beq_eq_true hb;subst this;exact .aH (Er v h)
   ·rename_i hb;rcases h.iM with⟨p,h1,rfl⟩|⟨h1,x,rfl⟩;rotate_left
    ·exact .fD _ x (hd b' _ (fun e=>by subst e;simp at hb) h1)
    exact .omap _ p (hd b' _ (fun e=>by subst e;simp at hb) h1)
  | agg cs =>
   obtain⟨vs,rfl,hl,ho,hr⟩:=h.gL;exact .agg _ vs (by simpa using hl) ho (fun j h h'=>by rw[List.getElem_map];exact kN hq hi hd hy Er d _ _ (hr j (by simpa using h) h'))
  | tup cs =>
   obtain⟨vs,rfl,hl,hr⟩:=h.kA;exact .tup _ vs (by simpa using hl) (fun j h h'=>by rw[List.getElem_map];exact kN hq hi hd hy Er d _ _ (hr j (by simpa using h) h'))
  | fn f cs =>
   obtain⟨vs,rfl,hl,hr⟩:=h.fM;exact .fn f _ vs (by simpa using hl) (fun j h h'=>by rw[List.getElem_map];exact kN hq hi hd hy Er d _ _ (hr j (by simpa using h) h'))
  | int k n=>cases h with|aH h=>exact keep _ h
  | bool k=>cases h with|aH h=>exact keep _ h
  | sb k=>cases h with|aH h=>exact keep _ h
  | str k=>cases h with|aH h=>exact keep _ h
  | gk=>cases h with|aH h=>exact keep _ h
  | bref cs off=>cases h with|aH h=>exact keep _ h
  | aR=>cases h with|aH h=>exact keep _ h
  | sl n sz row=>cases h with|aH h=>exact keep _ h
  | bz=>cases h with|aH h=>exact keep _ h
  | fF=>cases h with|aH h=>exact keep _ h
  | mv g n k v=>cases h with|aH h=>exact keep _ h
  | ae=>exact .aH (.ae _)
  | qc=>exact .aH (.ae _)
  | mF=>exact .aH (.ae _)

theorem aF.freeze(hs:aF c s m a w ids)(b:Nat)(q:Option (List A))(y z:A)(d:Nat)(hq:q=none\/∃ty cs,q=some cs/\m.getD b .dead=.box ty cs/\cs.any (cE 4)=false)(hy:y=wk m 1 (.own b)\/y=.ae)(Er:z=wk m 1 (.omap b)\/z=.ae):
  aF c (s.map (zz b q y z d)) ((m.map (Jw b q y z d)).set b .dead) a w (ids.set b .dead):=by
 have mem:∀(k:Nat) r,(ids.set b .dead)[k]?=some (dH.lv r)->k≠b/\ids[k]?=some (.lv r):=by
  intro k r h;rw[List.getElem?_set] at h;split at h
  ·split at h<;>cases h
  ·rename_i hne;exact⟨fun e=>hne e.symm,h⟩
 have aU:∀r,dH.lv r∈ids.set b .dead->∀x,r.has x->x<w.heap.size/\(w.heap.size<=x\/∃(b:Nat) (p:Id),ids[b]?=some (.lv p)/\p.has x):=by
  intro r hr x hx;obtain⟨k,hk⟩:=List.getElem?_of_mem hr;obtain⟨_,e⟩:=mem k r hk;exact⟨(hs.ar r (List.mem_of_getElem? e) x hx).2,.inr ⟨k,r,e,hx⟩⟩
 obtain⟨dt,dI⟩:=hs.cI (w':=w) (ab:=ids.set b .dead) (Nat.le_refl _) (fun _ _ _=>rfl) aU
 have hZ:∀p,ids[b]?=some (.lv p)->∀x,p.has x->au c (ids.set b .dead) w x:=by
  intro p hp x hx;have hf:=hs.ar p (List.mem_of_getElem? hp) x hx;refine .inr ⟨hf.1,hf.2,fun q hq E6=>?_⟩;obtain⟨k,hk⟩:=List.getElem?_of_mem hq;obtain⟨e1,e2⟩:=mem k q hk;exact e1 (hs.ah k b q p x e2 hp E6 hx)
 have hd:∀(b':Nat) p,b'≠b->ids[b']?=some p->(ids.set b .dead)[b']?=some p:=by
  intro b' p hne h;rw[List.getElem?_set_ne (fun e=>hne e.symm)];exact h
 have Kg:∀cs o v,q=some cs->Rel ids (au c ids w) w (.ref b o) v->aw (au c (ids.set b .dead) w) w (.bref cs o) v:=by
  intro cs o v he hv;rcases hq with h|⟨ty,dc,h,Jx,lr⟩
  ·rw[h] at he;cases he
  ·rw[h] at he;cases he;obtain⟨p,bQ,rfl⟩:=hs.wB hv (by rw[Jx];simp);obtain⟨vs,h1,h2,h3,h4⟩:=hs.rz bQ Jx
   have:=aw.bref (im:=au c (ids.set b .dead) w) (w:=w) p.ao 0 o cs (fun j=>vs.getD j undef) (hZ p bQ _ (.inl rfl))
    (fun j hj=>by have:=h2 j (by omega);simpa[List.getD_eq_getElem?_getD,show j<vs.length by omega] using this)
    (fun j hj=>by have:=h3 _ (List.getElem_mem (show j<vs.length by omega));simpa[List.getD_eq_getElem?_getD,show j<vs.length by omega] using this)
    (fun j hj=>by
     have g1:cE 4 cs[j]=false:=by
      have:=List.any_eq_false.1 lr _ (List.getElem_mem hj);simpa using this
     have g2:=cm 4 _ _ g1 (h4 j hj (by omega));have g3:=g2.mono dt (fun _ _=>rfl);simpa[List.getD_eq_getElem?_getD,show j<vs.length by omega] using g3)
   simpa using this
 have TM:∀v,Rel ids (au c ids w) w (.own b) v->aw (au c (ids.set b .dead) w) w y v:=by
  intro v hv;rcases hy with h|h
  ·rw[h];exact Mf hs dt hZ hv
  ·rw[h];exact .ae _
 have Mg:∀v,Rel ids (au c ids w) w (.omap b) v->aw (au c (ids.set b .dead) w) w z v:=by
  intro v hv;rcases Er with h|h
  ·rw[h];exact Jv hs dt hZ hv
  ·rw[h];exact .ae _
 refine hs.ln rfl rfl rfl (Nat.le_refl _) (fun _ _ _=>rfl) aU (fun vs h=>by
  rcases List.mem_or_eq_of_mem_set h with h|h
  ·exact h
  ·cases h) ?_ (by simp) (by simp[hs.aK]) ?_ ?_
 ·intro k k' r r' x e1 e2 x1 x2;exact hs.ah k k' r r' x (mem k r e1).2 (mem k' r' e2).2 x1 x2
 ·intro k h h';rw[List.getElem_map];exact kN Kg dt hd TM Mg d _ _ (hs.bE k (by simpa using h) h')
 ·intro k hk gn;simp only[List.length_set,List.length_map] at hk gn;rw[List.getElem_set,List.getElem_set];split
  ·exact rfl
  ·rename_i he;rw[List.getElem_map];have hB:=hs.bu k hk gn;cases hm:m[k] with
   | box ty cs =>
    rw[hm] at hB;cases hp:ids[k] with
    | dead=>rw[hp] at hB;exact hB.elim
    | av=>rw[hp] at hB;exact hB.elim
    | aP=>rw[hp] at hB;exact hB.elim
    | cz vs=>rw[hp] at hB;exact hB.elim
    | lv p =>
     rw[hp] at hB;obtain⟨vs,g1,g2,g3,g4⟩:=hB;refine⟨vs,g1,g2,by simpa using g3,?_⟩;intro j hj bW;have:=g4 j (by simpa using hj) bW;rw[List.getElem_map];exact⟨kN Kg dt hd TM Mg d _ _ this.1,this.2⟩
   | dead=>rw[hm] at hB;exact hB
   | gone=>rw[hm] at hB;exact hB
   | ghost cs =>
    rw[hm] at hB;cases hp:ids[k] with
    | dead=>rw[hp] at hB;exact hB.elim
    | av=>rw[hp] at hB;exact hB.elim
    | aP=>rw[hp] at hB;exact hB.elim
    | lv p=>rw[hp] at hB;exact hB.elim
    | cz vs =>
     rw[hp] at hB;refine⟨by simpa using hB.1,fun j hj bW=>?_⟩;rw[List.getElem_map];exact kN Kg dt hd TM Mg d _ _ (hB.2 j (by simpa using hj) bW)
   | row ty sz n row=>rw[hm] at hB;exact aV.lR (ids:=[]) (ab:=_) dt dI (fun _ _ h=>by simp at h) (fun _ _ _ _=>rfl) (by cases h:ids[k]<;>rw[h] at hB<;>exact hB)
   | nest ty aM sz n ho le row=>rw[hm] at hB;exact aV.lR (ids:=[]) (ab:=_) dt dI (fun _ _ h=>by simp at h) (fun _ _ _ _=>rfl) (by cases h:ids[k]<;>rw[h] at hB<;>exact hB)
   | ez g n key val=>rw[hm] at hB;exact aV.lR (ids:=[]) (ab:=_) dt dI (fun _ _ h=>by simp at h) (fun _ _ _ _=>rfl) (by cases h:ids[k]<;>rw[h] at hB<;>exact hB)
   | n0 g n key val=>rw[hm] at hB;exact aV.lR (ids:=[]) (ab:=_) dt dI (fun _ _ h=>by simp at h) (fun _ _ _ _=>rfl) (by cases h:ids[k]<;>rw[h] at hB<;>exact hB)
   | cF ty g sh n dI cs jb has val =>
    rw[hm] at hB;cases hp:ids[k] with
    | dead=>rw[hp] at hB;exact hB.elim
    | av=>rw[hp] at hB;exact hB.elim
    | aP=>rw[hp] at hB;exact hB
    | cz vs=>rw[hp] at hB;exact hB.elim
    | lv p =>
     rw[hp] at hB;exact lL (zz b q y z d) (fun _ _=>rfl) (fun _ _ h=>h.mono dt (fun _ _=>rfl)) (fun x v h=>kN Kg dt hd TM Mg d x v h) hB
   | bC ty sz n Φ=>rw[hm] at hB;exact aV.lR (ids:=[]) (ab:=_) dt dI (fun _ _ h=>by simp at h) (fun _ _ _ _=>rfl) (by cases h:ids[k]<;>rw[h] at hB<;>exact hB)
   | E2 g n key val se=>rw[hm] at hB;exact aV.lR (ids:=[]) (ab:=_) dt dI (fun _ _ h=>by simp at h) (fun _ _ _ _=>rfl) (by cases h:ids[k]<;>rw[h] at hB<;>exact hB)

def Mh(b:Nat)(s:List A)(m:List aq)(K:List A->List aq->Prop):Prop :=
 match m.getD b .dead with
 | .row _ sz n row=>fd.pv 4 (s.map (zz b none (.sl n sz row) .ae 4)) fun s'=>pz ((m.map (Jw b none (.sl n sz row) .ae 4)).set b .dead) fun m'=>K s' m'
 | .nest _ _ sz n hole len row=>match hole with
  | none=>fd.pv 4 (s.map (zz b none (.sl n 1 fun i=>[.sl (len i) sz (row i)]) .ae 4)) fun s'=>pz ((m.map (Jw b none (.sl n 1 fun i=>[.sl (len i) sz (row i)]) .ae 4)).set b .dead) fun m'=>K s' m'
  | some _=>False
 | .ez g n key val=>fd.pv 4 (s.map (zz b none .ae (.mv g n key val) 4)) fun s'=>pz ((m.map (Jw b none .ae (.mv g n key val) 4)).set b .dead) fun m'=>K s' m'
 | .box _ cs=>match cs.any (cE 4) with
  | false=>fd.pv 4 (s.map (zz b (some cs) .ae .ae 4)) fun s'=>pz ((m.map (Jw b (some cs) .ae .ae 4)).set b .dead) fun m'=>K s' m'
  | true=>False
 | _=>False
theorem tv(hs:aF c s m a w ids){b:Nat}{K:List A->List aq->Prop}(h:Mh b s m K):∃s' m' ab,K s' m'/\aF c s' m' a w ab:=by
 unfold Mh at h;split at h
 ·rename_i ty sz n row hb;rw[cD,dF] at h;exact⟨_,_,_,h,hs.freeze b none _ _ 4 (.inl rfl) (.inl (by simp only[wk,hb])) (.inr rfl)⟩
 ·rename_i ty aM sz n hole len row hb;split at h
  ·rw[cD,dF] at h;exact⟨_,_,_,h,hs.freeze b none _ _ 4 (.inl rfl) (.inl (by simp only[wk,hb])) (.inr rfl)⟩
  ·exact h.elim
 ·rename_i g n key val hb;rw[cD,dF] at h;exact⟨_,_,_,h,hs.freeze b none _ _ 4 (.inl rfl) (.inr rfl) (.inl (by simp only[wk,hb]))⟩
 ·rename_i ty cs hb;split at h
  ·rename_i aU;rw[cD,dF] at h;exact⟨_,_,_,h,hs.freeze b (some cs) _ _ 4 (.inr ⟨ty,cs,rfl,hb,aU⟩) (.inr rfl) (.inr rfl)⟩
  ·exact h.elim
 ·exact h.elim
def wT:List Nat->List A->List aq->(List A->List aq->Prop)->Prop
 | [],s,m,K=>K s m
 | b::bs,s,m,K=>Mh b s m fun s' m'=>wT bs s' m' K
theorem mQ:∀(bs:List Nat) {s:List A} {m:List aq} {ids:dp} {K:List A->List aq->Prop},aF c s m a w ids->wT bs s m K->∃s' m' ab,K s' m'/\aF c s' m' a w ab
 | [],s,m,ids,K,hs,h=>⟨s,m,ids,h,hs⟩
 | b::bs,s,m,ids,K,hs,h=>by
  obtain⟨s',m',ab,h',bH⟩:=tv hs h;exact mQ bs bH h'
end
section
variable {c:Ctx} {s:List A} {m:List aq} {a:Act} {w w':World} {ids ab:dp} {P:Program} {im bl:Nat->Prop} {tt:TT} {G:aG}
variable {next:Act->World->Prop} {Q:Exit->Act->World->Prop} {o:Oper}

theorem Rel.fh{b:Nat}(hi:∀b,im b->bl b)(hw:∀b,im b->w'.heap[b]?=w.heap[b]?)(hd:∀(b':Nat) p,b'≠b->ids[b']?=some p->p≠.dead->∃q,ab[b']?=some q/\iq p q)
  (hb:ab[b]?=some .av) {x:A} {v:Value} (h:Rel ids im w x v):Rel ab bl w' x v:=by
 have st:∀b1,b1≠b->ids[b1]?=some .av->ab[b1]?=some .av:=fun b1 e h=>by
  obtain⟨q,h1,h2⟩:=hd _ _ e h (by simp);have h2:q=.av:=h2;rw[h1,h2]
 induction h with
 | aH h=>exact .aH (h.mono hi hw)
 | ref b1 off p h =>
  by_cases e:b1=b
  ·subst e;exact .jM _ _ _ _ hb
  ·obtain⟨q,h1,p',rfl,h2⟩:=hd _ _ e h (by simp);rw[<-h2.1];exact .ref _ off p' h1
 | oref b1 i off p h =>
  by_cases e:b1=b
  ·subst e;exact .fY _ _ _ _ _ hb
  ·obtain⟨q,h1,p',rfl,h2⟩:=hd _ _ e h (by simp);rw[<-h2.1,<-h2.2.2.2.1];exact .oref _ i off p' h1
 | fH b1 h =>
  by_cases e:b1=b
  ·subst e;exact .jN _ _ _ _ hb
  ·obtain⟨q,h1,h2⟩:=hd _ _ e h (by simp);have h2:q=.aP:=h2;subst h2;exact .fH _ h1
 | own b1 cap p h hn hm =>
  by_cases e:b1=b
  ·subst e;exact .jN _ _ _ _ hb
  ·obtain⟨q,h1,p',rfl,h2⟩:=hd _ _ e h (by simp);rw[<-h2.1,<-h2.2.2.1];exact .own _ cap p' h1 (by rw[h2.2.2.1];exact hn) (by rw[h2.2.1,h2.2.2.2.1];exact hm)
 | jN b1 x n cap h =>
  by_cases e:b1=b
  ·subst e;exact .jN _ _ _ _ hb
  ·exact .jN _ _ _ _ (st _ e h)
 | jM b1 off x y h =>
  by_cases e:b1=b
  ·subst e;exact .jM _ _ _ _ hb
  ·exact .jM _ _ _ _ (st _ e h)
 | fY b1 i off x y h =>
  by_cases e:b1=b
  ·subst e;exact .fY _ _ _ _ _ hb
  ·exact .fY _ _ _ _ _ (st _ e h)
 | fD b1 x h =>
  by_cases e:b1=b
  ·subst e;exact .fD _ _ hb
  ·exact .fD _ _ (st _ e h)
 | omap b1 p h =>
  by_cases e:b1=b
  ·subst e;exact .fD _ _ hb
  ·obtain⟨q,h1,p',rfl,h2⟩:=hd _ _ e h (by simp);rw[<-h2.1];exact .omap _ p' h1
 | qc b1 k p n h hn =>
  by_cases e:b1=b
  ·subst e;exact .ph _ _ _ hb
  ·obtain⟨q,h1,p',rfl,h2⟩:=hd _ _ e h (by simp);exact .qc _ _ p' n h1 (h2.2.2.2.2 _ _ hn)
 | ph b1 k n h =>
  by_cases e:b1=b
  ·subst e;exact .ph _ _ _ hb
  ·exact .ph _ _ _ (st _ e h)
 | mF b1 k cap x p h hx =>
  by_cases e:b1=b
  ·subst e;exact .na _ _ _ _ _ hb
  ·obtain⟨q,h1,p',rfl,h2⟩:=hd _ _ e h (by simp);rw[<-h2.1,<-h2.2.2.1];exact .mF _ k cap x p' h1 (by rw[h2.2.2.1,h2.2.2.2.1];exact hx)
 | pj b1 k h =>
  by_cases e:b1=b
  ·subst e;exact .na _ _ _ _ _ hb
  ·obtain⟨q,h1,h2⟩:=hd _ _ e h (by simp);have h2:q=.aP:=h2;subst h2;exact .pj _ _ h1
 | na b1 k x n cap h =>
  by_cases e:b1=b
  ·subst e;exact .na _ _ _ _ _ hb
  ·exact .na _ _ _ _ _ (st _ e h)
 | agg cs vs hl ho hr ih=>exact .agg cs vs hl ho ih
 | tup cs vs hl hr ih=>exact .tup cs vs hl ih
 | fn f cs vs hl hr ih=>exact .fn f cs vs hl ih

theorem aV.fh{b:Nat}(hi:∀b,im b->bl b)(hw:∀b,im b->w'.heap[b]?=w.heap[b]?)(hd:∀(b':Nat) p,b'≠b->ids[b']?=some p->p≠.dead->∃q,ab[b']?=some q/\iq p q)
  (hb:ab[b]?=some .av) {x:aq} {p:dH} (hp:∀q,p=.lv q->∀k,q.has k->w'.heap[k]?=w.heap[k]?) (h:aV ids im w x p):aV ab bl w' x p:=by
 cases x with
 | box ty cs =>
  cases p with
  | dead=>exact h
  | av=>exact h
  | aP=>exact h
  | cz vs=>exact h
  | lv q =>
   obtain⟨vs,h1,h2,h3,h4⟩:=h;exact⟨vs,by rw[hp _ rfl _ (.inl rfl)];exact h1,h2,h3,fun j h h'=>⟨(h4 j h h').1.fh hi hw hd hb,(h4 j h h').2⟩⟩
 | dead=>exact h
 | gone=>exact h
 | row ty sz n row=>have h:=aV.mono (ids:=ids) (ab:=ids) hi hw (fun _ _ h _=>h) hp h;cases p<;>exact h
 | nest ty aM sz n ho le row=>have h:=aV.mono (ids:=ids) (ab:=ids) hi hw (fun _ _ h _=>h) hp h;cases p<;>exact h
 | ez g n k v=>have h:=aV.mono (ids:=ids) (ab:=ids) hi hw (fun _ _ h _=>h) hp h;cases p<;>exact h
 | n0 g n k v=>have h:=aV.mono (ids:=ids) (ab:=ids) hi hw (fun _ _ h _=>h) hp h;cases p<;>exact h
 | E2 g n k v se=>have h:=aV.mono (ids:=ids) (ab:=ids) hi hw (fun _ _ h _=>h) hp h;cases p<;>exact h
 | bC ty sz n Φ=>have h:=aV.mono (ids:=ids) (ab:=ids) hi hw (fun _ _ h _=>h) hp h;cases p<;>exact h
 | cF ty g sh n dI cs jb has val =>
  cases p with
  | dead=>exact h
  | av=>exact h
  | aP=>exact h
  | cz vs=>exact h
  | lv q=>exact pk (hp _ rfl) (fun _ _ h=>h.mono hi hw) (fun _ _ h=>h.fh hi hw hd hb) h
 | ghost cs =>
  cases p with
  | dead=>exact h
  | av=>exact h
  | aP=>exact h
  | lv q=>exact h
  | cz vs=>exact⟨h.1,fun j h1 h2=>(h.2 j h1 h2).fh hi hw hd hb⟩

/-- Block b is gone; what it was, changed, lies at a place that was kept. -/
theorem aF.wU(hs:aF c s m a w ids)(b az:Nat)(hb:b<m.length)(kH:m[b]?≠some .dead)(dB:m[az]?=some .dead)(q:dH)(x:aq)
  (Nl:w'.os=w.os) (Sv:w'.tape=w.tape) (Sw:w'.output=w.output) (bM:w.heap.size<=w'.heap.size)
  (eU:∀k,k<w.heap.size->(∀p,ids[b]?=some (.lv p)->¬p.has k)->w'.heap[k]?=w.heap[k]?)
  (UZ:∀vs,q≠.cz vs)
  (hq:∀p',q=.lv p'->∀x,p'.has x->x<w'.heap.size/\(w.heap.size<=x\/∃p,ids[b]?=some (.lv p)/\p.has x))
  (hx:(∀u v,aw (au c ids w) w u v->aw (au c ((ids.set b .av).set az q) w') w' u v)->aV ((ids.set b .av).set az q) (au c ((ids.set b .av).set az q) w') w' x q)
  (xG:en w.drawn w'.drawn:=by exact en.refl _) :
  aF c s ((m.set b .gone).set az x) a w' ((ids.set b .av).set az q):=by
 have eD:b<ids.length:=by rw[hs.aK];exact hb
 obtain⟨SM,Vg⟩:=List.getElem?_eq_some_iff.1 dB;have PZ:az<ids.length:=by rw[hs.aK];exact SM
 have TN:ids[az]?=some .dead:=by
  have:=hs.bu az SM PZ;rw[Vg] at this;rw[List.getElem?_eq_getElem PZ,show ids[az]=.dead from this]
 have AL:az≠b:=fun e=>by subst e;exact kH dB
 have bD:∀k,k≠az->k≠b->((ids.set b .av).set az q)[k]?=ids[k]?:=by
  intro k hk hne;rw[List.getElem?_set_ne (fun e=>hk e.symm),List.getElem?_set_ne (fun e=>hne e.symm)]
 have dG:((ids.set b .av).set az q)[b]?=some .av:=by rw[List.getElem?_set_ne AL,List.getElem?_set_self eD]
 have jh:((ids.set b .av).set az q)[az]?=some q:=by rw[List.getElem?_set_self (by simpa using PZ)]
 have aY:∀(k:Nat) (r:Id),((ids.set b .av).set az q)[k]?=some (.lv r)->(k=az/\q=.lv r)\/(k≠b/\k≠az/\ids[k]?=some (.lv r)):=by
  intro k r h;by_cases P0:k=az
  ·subst P0;rw[jh] at h;exact .inl ⟨rfl,Option.some.inj h⟩
  ·by_cases pB:k=b
   ·subst pB;rw[dG] at h;cases h
   ·rw[bD k P0 pB] at h;exact .inr ⟨pB,P0,h⟩
 have aU:∀r,dH.lv r∈((ids.set b .av).set az q)->∀y,r.has y->y<w'.heap.size/\(w.heap.size<=y\/∃(b:Nat) (p:Id),ids[b]?=some (.lv p)/\p.has y):=by
  intro r hr y hy;obtain⟨k,hk⟩:=List.getElem?_of_mem hr;rcases aY k r hk with⟨_,e⟩|⟨_,_,e⟩
  ·obtain⟨h1,h2⟩:=hq r e y hy;exact⟨h1,h2.imp id fun⟨p,h3,h4⟩=>⟨b,p,h3,h4⟩⟩
  ·exact⟨Nat.lt_of_lt_of_le (hs.ar r (List.mem_of_getElem? e) y hy).2 bM,.inr ⟨k,r,e,hy⟩⟩
 have SN:∀k,k<w.heap.size->(∀(b:Nat) (p:Id),ids[b]?=some (.lv p)->¬p.has k)->w'.heap[k]?=w.heap[k]?:=fun k hk h=>eU k hk (fun p hp=>h b p hp);obtain⟨dt,dI⟩:=hs.cI (w':=w') (ab:=(ids.set b .av).set az q) bM SN aU
 have hd:∀(b':Nat) r,b'≠b->ids[b']?=some r->r≠.dead->∃q',((ids.set b .av).set az q)[b']?=some q'/\iq r q':=by
  intro b' r rf hr FV;exact⟨r,by rw[bD b' (fun e=>by subst e;rw[TN] at hr;exact FV (Option.some.inj hr).symm) rf];exact hr,eE r⟩
 refine hs.ln (xG:=xG) Nl Sv Sw bM SN aU (fun vs h=>?_) ?_ rfl (by simp[hs.aK]) (fun i h h'=>(hs.bE i h h').fh dt dI hd dG) ?_
 ·rcases List.mem_or_eq_of_mem_set h with h|h
  ·rcases List.mem_or_eq_of_mem_set h with h|h
   ·exact h
   ·cases h
  ·exact absurd h.symm (UZ vs)
 ·intro k k' r r' y e1 e2 x1 x2;rcases aY k r e1 with⟨rfl,e⟩|⟨ne,_,e⟩<;>rcases aY k' r' e2 with⟨rfl,e'⟩|⟨ne',_,e'⟩
  ·rfl
  ·rcases (hq r e y x1).2 with h|⟨p,h1,h2⟩
   ·have:=(hs.ar r' (List.mem_of_getElem? e') y x2).2;omega
   ·exact absurd (hs.ah _ _ p r' y h1 e' h2 x2).symm ne'
  ·rcases (hq r' e' y x2).2 with h|⟨p,h1,h2⟩
   ·have:=(hs.ar r (List.mem_of_getElem? e) y x1).2;omega
   ·exact absurd (hs.ah _ _ r p y e h1 x1 h2) ne
  ·exact hs.ah k k' r r' y e e' x1 x2
 ·intro k hk gn;simp only[List.length_set] at hk;have gp:((ids.set b .av).set az q)[k]?=some ((ids.set b .av).set az q)[k]:=List.getElem?_eq_getElem gn;rw[List.getElem_set];split
  ·rename_i he;subst he;rw[jh] at gp;rw[<-Option.some.inj gp];exact hx (fun u v h=>h.mono dt dI)
  ·rename_i Vh;rw[List.getElem_set];split
   ·rename_i he;subst he;rw[dG] at gp;rw[<-Option.some.inj gp];exact rfl
   ·rename_i he;have oo:k<ids.length:=by rw[hs.aK];exact hk
    rw[bD k (fun e=>Vh e.symm) (fun e=>he e.symm),List.getElem?_eq_getElem oo] at gp;rw[<-Option.some.inj gp];refine(hs.bu k hk oo).fh dt dI hd dG ?_;intro q' Kg y hy;have Sx:ids[k]?=some (.lv q'):=by rw[List.getElem?_eq_getElem oo,Kg]
    refine eU y (hs.ar q' (List.mem_of_getElem? Sx) y hy).2 (fun p0 Tq e=>?_);exact he (hs.ah b k p0 q' y Tq Sx e hy)
/-- A nest from which an inner row is taken. -/
theorem aF.P1(hs:aF c s m a w ids){b i:Nat}{az:Nat}(dB:m[az]?=some .dead){ty aM:TypeId}{sz n:Nat}{len:Nat->Nat}{row:Nat->Nat->List A}(hb:m.getD b .dead=.nest ty aM sz n none len row)(hi:i<n):
  ∃p vs ab v,ids[b]?=some (.lv p)/\w.heap[p.ao]?=some (.cells vs ty (0,0))/\vs[i]?=some v/\p.sz=1 /\
   aF c s ((m.set b (.nest ty aM sz n (some i) len row)).set az (.row aM sz (len i) (row i))) a w ab/\Rel ab (au c ab w) w (.own az) v:=by
 obtain⟨p,bQ,hB,kH,eD⟩:=om hs hb (by omega);obtain⟨g1,g2,g3,vs,h1,h2,h3,kb,h4⟩:=hB;have wM:i<vs.size:=by omega
 obtain⟨k1,k2,k3⟩:=h4 i hi (by simp) wM
 -- the new names
 let p':Id:=⟨p.ao,p.k,p.n,p.sz,fun x=>p.y8 x/\kb i≠some x,p.sY⟩
 have lU:∀x,p'.has x->p.has x:=by
  rintro x (h|h)
  ·exact .inl h
  ·exact .inr h.1
 have hq:∃q:dH,(∀q',q=.lv q'->∀x,q'.has x->kb i=some x)/\(∀im w',(∀x,kb i=some x->w'.heap[x]?=w.heap[x]?)->(∀u v,aw (au c ids w) w u v->aw im w' u v)->∀ab,aV ab im w' (.row aM sz (len i) (row i)) q) /\
   (∀ab im w' k,ab[k]?=some q->Rel ab im w' (.own k) vs[i]):=by
  rcases k1 with⟨e1,e2,e3⟩|⟨q,cap,us,e1,e2,e3,e4,e5,e6,e7,e8⟩
  ·exact⟨.aP,(fun q' h=>by cases h),(fun _ _ _ _ _=>e2),(fun ab im w' k h=>by rw[e1];exact .fH k h)⟩
  ·refine⟨.lv (mkId q us.size (len i) sz),(fun q' h x hx=>by cases h;rw[cg hx];exact e2),?_,?_⟩
   ·intro im w' hk hm ab;refine⟨rfl,rfl,us,by show w'.heap[q]?=_;rw[hk q e2];exact e3,rfl,?_,e7,fun i' j cr h h'=>⟨hm _ _ (e8 i' j cr h h').1,(e8 i' j cr h h').2⟩⟩;show len i*sz<=us.size;rw[e4];exact Nat.mul_le_mul_right _ e5
   ·intro ab im w' k h;rw[e1];exact .own k cap (mkId q us.size (len i) sz) h ⟨e5,e6⟩ e4.symm
 obtain⟨q,At,CG,U'⟩:=hq;obtain⟨SM,Vg⟩:=List.getElem?_eq_some_iff.1 dB;have PZ:az<ids.length:=by rw[hs.aK];exact SM
 have TN:ids[az]?=some .dead:=by
  have:=hs.bu az SM PZ;rw[Vg] at this;rw[List.getElem?_eq_getElem PZ,show ids[az]=.dead from this]
 have AL:az≠b:=fun e=>by subst e;rw[TN] at bQ;cases bQ
 let ab:=(ids.set b (.lv p')).set az q
 have L0:ab.length=ids.length:=by simp[ab]
 have bD:∀k,k≠az->k≠b->ab[k]?=ids[k]?:=by
  intro k hk hne;simp only[ab];rw[List.getElem?_set_ne (fun e=>hk e.symm),List.getElem?_set_ne (fun e=>hne e.symm)]
 have dG:ab[b]?=some (.lv p'):=by
  simp only[ab];rw[List.getElem?_set_ne AL,List.getElem?_set_self eD]
 have jh:ab[az]?=some q:=by
  simp only[ab];rw[List.getElem?_set_self (by simpa using PZ)]
 have aY:∀(k:Nat) (r:Id),ab[k]?=some (.lv r)->(k=b/\r=p')\/(k=az/\q=.lv r)\/(k≠b/\k≠az/\ids[k]?=some (.lv r)):=by
  intro k r h;by_cases P0:k=az
  ·subst P0;rw[jh] at h;exact .inr (.inl ⟨rfl,Option.some.inj h⟩)
  ·by_cases pB:k=b
   ·subst pB;rw[dG] at h;cases h;exact .inl ⟨rfl,rfl⟩
   ·rw[bD k P0 pB] at h;exact .inr (.inr ⟨pB,P0,h⟩)
 have aU:∀r,dH.lv r∈ab->∀x,r.has x->x<w.heap.size/\(w.heap.size<=x\/∃(b:Nat) (p:Id),ids[b]?=some (.lv p)/\p.has x):=by
  intro r hr x hx;obtain⟨k,hk⟩:=List.getElem?_of_mem hr;rcases aY k r hk with⟨_,rfl⟩|⟨_,e⟩|⟨_,_,e⟩
  ·exact⟨(hs.ar p (List.mem_of_getElem? bQ) x (lU x hx)).2,.inr ⟨b,p,bQ,lU x hx⟩⟩
  ·have E6:p.has x:=.inr (k2 x (At r e x hx));exact⟨(hs.ar p (List.mem_of_getElem? bQ) x E6).2,.inr ⟨b,p,bQ,E6⟩⟩
  ·exact⟨(hs.ar r (List.mem_of_getElem? e) x hx).2,.inr ⟨k,r,e,hx⟩⟩
 obtain⟨dt,dI⟩:=hs.cI (w':=w) (ab:=ab) (Nat.le_refl _) (fun _ _ _=>rfl) aU
 have hd:∀(b':Nat) r,ids[b']?=some r->r≠.dead->∃q,ab[b']?=some q/\iq r q:=by
  intro b' r hr FV;by_cases rf:b'=b
  ·subst rf;rw[bQ] at hr;cases hr;exact⟨_,dG,p',rfl,rfl,rfl,rfl,rfl,fun _ _ h=>h⟩
  ·exact⟨r,by rw[bD b' (fun e=>by subst e;rw[TN] at hr;exact FV (Option.some.inj hr).symm) rf];exact hr,eE r⟩
 have la:∀u v,aw (au c ids w) w u v->aw (au c ab w) w u v:=fun u v h=>h.mono dt dI;refine⟨p,vs,ab,vs[i],bQ,h1,Array.getElem?_eq_getElem wM,g1,?_,U' _ _ _ _ jh⟩
 have Va:∀vs,q≠.cz vs:=fun vs e=>by
  have:=CG (au c ids w) w (fun _ _=>rfl) (fun _ _ h=>h) [];rw[e] at this;exact this
 refine hs.ln rfl rfl rfl (Nat.le_refl _) (fun _ _ _=>rfl) aU (fun vs h=>by
  simp only[ab] at h;rcases List.mem_or_eq_of_mem_set h with h|h
  ·rcases List.mem_or_eq_of_mem_set h with h|h
   ·exact h
   ·cases h
  ·exact absurd h.symm (Va vs)) ?_ rfl (by simp[ab,hs.aK]) (fun i h h'=>(hs.bE i h h').lR dt dI hd) ?_
 ·intro k k' r r' x e1 e2 x1 x2;have Yg:∀y,q=.lv r->r.has y->p.y8 y:=fun y e hy=>k2 y (At r e y hy);rcases aY k r e1 with⟨rfl,rfl⟩|⟨rfl,e⟩|⟨ne,_,e⟩<;>rcases aY k' r' e2 with⟨rfl,rfl⟩|⟨rfl,e'⟩|⟨ne',_,e'⟩
  ·rfl
  ·exfalso;have hx:=At r' e' x x2;rcases x1 with h|h
   ·exact g3 (by rw[<-h];exact k2 x hx)
   ·exact h.2 hx
  ·exact absurd (hs.ah _ _ p r' x bQ e' (lU x x1) x2).symm ne'
  ·exfalso;have hx:=At r e x x1;rcases x2 with h|h
   ·exact g3 (by rw[<-h];exact k2 x hx)
   ·exact h.2 hx
  ·rfl
  ·exact absurd (hs.ah _ _ p r' x bQ e' (.inr (k2 x (At r e x x1))) x2).symm ne'
  ·exact absurd (hs.ah _ _ r p x e bQ x1 (lU x x2)) ne
  ·exact absurd (hs.ah _ _ r p x e bQ x1 (.inr (k2 x (At r' e' x x2)))) ne
  ·exact hs.ah k k' r r' x e e' x1 x2
 ·intro k hk gn;simp only[List.length_set] at hk;have gp:ab[k]?=some ab[k]:=List.getElem?_eq_getElem gn;rw[List.getElem_set];split
  ·rename_i he;subst he;rw[jh] at gp;rw[<-Option.some.inj gp];exact CG _ _ (fun _ _=>rfl) la _
  ·rename_i Vh;rw[List.getElem_set];split
   ·rename_i he;subst he;rw[dG] at gp;rw[<-Option.some.inj gp];refine⟨g1,g2,(fun h=>g3 h.1),vs,h1,h2,h3,kb,?_⟩;intro j hj Jn Mc;obtain⟨j1,j2,j3⟩:=h4 j hj (by simp) Mc;have Au:j≠i:=fun e=>Jn (by rw[e]);refine⟨j1.mono dt dI (fun _ _=>rfl),fun x hx=>⟨j2 x hx,fun e=>?_⟩,fun j' bW _ e1 e2=>j3 j' bW (by simp) e1 e2⟩;exact Au (k3 j hj (by simp) (by rw[hx,e]) (by rw[e];simp))
   ·rename_i he;have oo:k<ids.length:=by rw[hs.aK];exact hk
    rw[bD k (fun e=>Vh e.symm) (fun e=>he e.symm),List.getElem?_eq_getElem oo] at gp;rw[<-Option.some.inj gp];exact(hs.bu k hk oo).lR dt dI hd (fun _ _ _ _=>rfl)
/-- An inner row is put back. -/
theorem aF.Jy(hs:aF c s m a w ids){b b' i:Nat}{ty aM:TypeId}{sz n n':Nat}{len:Nat->Nat}{row:Nat->Nat->List A}{dr:Nat->List A}(hb:m.getD b .dead=.nest ty aM sz n (some i) len row)
  (gj:m.getD b' .dead=.row aM sz n' dr) (hne:b≠b') (hi:i<n) {v:Value} (hv:Rel ids (au c ids w) w (.own b') v) :
  ∃p vs ab,ids[b]?=some (.lv p)/\w.heap[p.ao]?=some (.cells vs ty (0,0))/\i<vs.size/\p.sz=1 /\
   aF c s ((m.set b (.nest ty aM sz n none (gz len i n') (gz row i dr))).set b' .gone) a (w.setRow p.ao (vs.setIfInBounds i v)) ab:=by
 obtain⟨p,bQ,hB,kH,eD⟩:=om hs hb (by omega);obtain⟨g1,g2,g3,vs,h1,h2,h3,kb,h4⟩:=hB;have wM:i<vs.size:=by omega
 obtain⟨zp,Jo⟩:=getD_some (by simp) gj;have nj:b'<ids.length:=by rw[hs.aK];exact zp
 let w':=w.setRow p.ao (vs.setIfInBounds i v)
 have bM:w'.heap.size=w.heap.size:=by simp[w',World.setRow]
 -- the inner DE name
 have hx:∃x:Option Nat,(∀y,x=some y->∃q,ids[b']?=some (.lv q)/\q.ao=y) /\
   (∀im w',(∀y,x=some y->w'.heap[y]?=w.heap[y]?)->(∀u v,aw (au c ids w) w u v->aw im w' u v)->mO im w' aM sz n' dr v x):=by
  rcases mA hs hv gj with⟨e1,e2,e3⟩|⟨q,cap,e1,e2,e3,e4,e5,e6⟩
  ·exact⟨none,(fun y h=>by cases h),fun _ _ _ _=>.inl ⟨e2,e1,rfl⟩⟩
  ·have FT:=hs.bu b' zp nj;rw[List.getElem?_eq_getElem nj] at e1;rw[Jo,Option.some.inj e1] at FT;obtain⟨q1,q2,us,q3,q4,q5,q6,q7⟩:=FT;refine⟨some q.ao,(fun y h=>by cases h;exact⟨q,by rw[List.getElem?_eq_getElem nj];exact e1,rfl⟩),fun im w' hk hm=>.inr ⟨q.ao,cap,us,e6,rfl,by rw[hk _ rfl];exact q3,by rw[q4,e3],e2.1,e2.2,q6,fun i' j cr h h'=>⟨hm _ _ (q7 i' j cr h h').1,(q7 i' j cr h h').2⟩⟩⟩
 obtain⟨x,u7,SC⟩:=hx
 let p':Id:=⟨p.ao,p.k,p.n,p.sz,fun y=>p.y8 y\/x=some y,p.sY⟩
 have lU:∀y,p'.has y->p.has y\/x=some y:=by
  rintro y (h|h|h)
  ·exact .inl (.inl h)
  ·exact .inl (.inr h)
  ·exact .inr h
 let ab:=(ids.set b (.lv p')).set b' .av
 have L0:ab.length=ids.length:=by simp[ab]
 have bD:∀k,k≠b->k≠b'->ab[k]?=ids[k]?:=by
  intro k h1 h2;simp only[ab];rw[List.getElem?_set_ne (fun e=>h2 e.symm),List.getElem?_set_ne (fun e=>h1 e.symm)]
 have dG:ab[b]?=some (.lv p'):=by
  simp only[ab];rw[List.getElem?_set_ne (fun e=>hne e.symm),List.getElem?_set_self eD]
 have ig:ab[b']?=some .av:=by
  simp only[ab];rw[List.getElem?_set_self (by simpa using nj)]
 have aY:∀(k:Nat) (r:Id),ab[k]?=some (.lv r)->(k=b/\r=p')\/(k≠b/\k≠b'/\ids[k]?=some (.lv r)):=by
  intro k r h;by_cases pB:k=b
  ·subst pB;rw[dG] at h;cases h;exact .inl ⟨rfl,rfl⟩
  ·by_cases tr:k=b'
   ·subst tr;rw[ig] at h;cases h
   ·rw[bD k pB tr] at h;exact .inr ⟨pB,tr,h⟩
 have aU:∀r,dH.lv r∈ab->∀y,r.has y->y<w'.heap.size/\(w.heap.size<=y\/∃(b:Nat) (p:Id),ids[b]?=some (.lv p)/\p.has y):=by
  intro r hr y hy;rw[bM];obtain⟨k,hk⟩:=List.getElem?_of_mem hr;rcases aY k r hk with⟨_,rfl⟩|⟨_,_,e⟩
  ·rcases lU y hy with h|h
   ·exact⟨(hs.ar p (List.mem_of_getElem? bQ) y h).2,.inr ⟨b,p,bQ,h⟩⟩
   ·obtain⟨q,q1,q2⟩:=u7 y h;have:q.has y:=.inl q2.symm;exact⟨(hs.ar q (List.mem_of_getElem? q1) y this).2,.inr ⟨b',q,q1,this⟩⟩
  ·exact⟨(hs.ar r (List.mem_of_getElem? e) y hy).2,.inr ⟨k,r,e,hy⟩⟩
 have eU:∀k,k<w.heap.size->(∀(b:Nat) (p:Id),ids[b]?=some (.lv p)->¬p.has k)->w'.heap[k]?=w.heap[k]?:=by
  intro k _ hk;exact setRow_other w p.ao k _ (fun e=>hk b p bQ (.inl e))
 obtain⟨dt,dI⟩:=hs.cI (w':=w') (ab:=ab) (by rw[bM];exact Nat.le_refl _) eU aU
 have hd:∀(k:Nat) r,k≠b'->ids[k]?=some r->r≠.dead->∃q,ab[k]?=some q/\iq r q:=by
  intro k r hk hr _;by_cases rf:k=b
  ·subst rf;rw[bQ] at hr;cases hr;exact⟨_,dG,p',rfl,rfl,rfl,rfl,rfl,fun _ _ h=>h⟩
  ·exact⟨r,by rw[bD k rf hk];exact hr,eE r⟩
 have la:∀u v,aw (au c ids w) w u v->aw (au c ab w') w' u v:=fun u v h=>h.mono dt dI
 have SD:∀(k:Nat) (r:Id) y,ids[k]?=some (.lv r)->k≠b->r.has y->w'.heap[y]?=w.heap[y]?:=by
  intro k r y hr hk hy;refine setRow_other w p.ao y _ (fun e=>hk ?_);exact hs.ah k b r p y hr bQ hy (.inl e)
 refine⟨p,vs,ab,bQ,h1,wM,g1,?_⟩
 refine hs.ln rfl rfl rfl (by show w.heap.size<=w'.heap.size;rw[bM];exact Nat.le_refl _) eU aU (fun vs h=>by
  simp only[ab] at h;rcases List.mem_or_eq_of_mem_set h with h|h
  ·rcases List.mem_or_eq_of_mem_set h with h|h
   ·exact h
   ·cases h
  ·cases h) ?_ (by simp) (by simp[ab,hs.aK]) ?_ ?_
 ·intro k k' r r' y e1 e2 x1 x2;rcases aY k r e1 with⟨rfl,rfl⟩|⟨ne,Jp,e⟩<;>rcases aY k' r' e2 with⟨rfl,rfl⟩|⟨ne',Jq,e'⟩
  ·rfl
  ·rcases lU y x1 with h|h
   ·exact absurd (hs.ah _ _ p r' y bQ e' h x2).symm ne'
   ·obtain⟨q,q1,q2⟩:=u7 y h;exact absurd (hs.ah _ _ q r' y q1 e' (.inl q2.symm) x2).symm Jq
  ·rcases lU y x2 with h|h
   ·exact absurd (hs.ah _ _ r p y e bQ x1 h) ne
   ·obtain⟨q,q1,q2⟩:=u7 y h;exact absurd (hs.ah _ _ r q y e q1 x1 (.inl q2.symm)) Jp
  ·exact hs.ah k k' r r' y e e' x1 x2
 ·intro k h h';exact(hs.bE k h h').fh dt dI hd ig
 ·intro k hk gn;have gp:ab[k]?=some ab[k]:=List.getElem?_eq_getElem gn;simp only[List.length_set] at hk;rw[List.getElem_set];split
  ·rename_i he;subst he;rw[ig] at gp;rw[<-Option.some.inj gp];exact rfl
  ·rename_i he;rw[List.getElem_set];split
   ·rename_i gu;subst gu;rw[dG] at gp;rw[<-Option.some.inj gp]
    have HT:∀j (h:j<(vs.setIfInBounds i v).size) (h':j<vs.size),(vs.setIfInBounds i v)[j]=if i=j then v else vs[j]:=by
     intro j h h';rw[Array.getElem_setIfInBounds]
    have PQ:∀y,x=some y->w'.heap[y]?=w.heap[y]?:=by
     intro y hy;obtain⟨q,q1,q2⟩:=u7 y hy;exact SD b' q y q1 (fun e=>hne e.symm) (.inl q2.symm)
    have Vb:∀y,p.y8 y->w'.heap[y]?=w.heap[y]?:=by
     intro y hy;exact setRow_other w p.ao y _ (fun e=>g3 (by rw[<-e];exact hy))
    refine⟨g1,g2,?_,vs.setIfInBounds i v,setRow_heap w p.ao vs _ ty _ h1,by simp[h2];rfl,h3,gz kb i x,?_⟩
    ·rintro(h|h)
     ·exact g3 h
     ·obtain⟨q,q1,q2⟩:=u7 _ h;exact hne (hs.ah b b' p q p.ao bQ q1 (.inl rfl) (.inl q2.symm))
    ·intro j hj _ Mc;have Jr:j<vs.size:=by simpa using Mc
     rw[HT j Mc Jr];by_cases Au:j=i
     ·subst Au;rw[if_pos rfl];simp only[gz,if_pos];refine⟨SC _ _ PQ la,(fun y hy=>.inr hy),?_⟩;intro j' bW _ e1 e2;by_cases nQ:j'=j
      ·exact nQ
      ·exfalso;rw[if_neg nQ] at e1;cases zq:x with
       | none=>exact e2 zq
       | some y =>
        have PR:j'<vs.size:=by omega
        obtain⟨_,k2,_⟩:=h4 j' bW (by simp;exact fun e=>nQ e.symm) PR;obtain⟨q,q1,q2⟩:=u7 y zq;exact hne (hs.ah b b' p q y bQ q1 (.inr (k2 y (by rw[e1,zq]))) (.inl q2.symm))
     ·rw[if_neg (fun e=>Au e.symm)];simp only[gz,if_neg Au];obtain⟨k1,k2,k3⟩:=h4 j hj (by simp;exact fun e=>Au e.symm) Jr;refine⟨k1.mono dt dI (fun y hy=>Vb y (k2 y hy)),(fun y hy=>.inl (k2 y hy)),?_⟩;intro j' bW _ e1 e2;by_cases nQ:j'=i
      ·exfalso;subst nQ;rw[if_pos rfl] at e1;cases zq:x with
       | none=>rw[zq] at e1;exact e2 e1.symm
       | some y =>
        obtain⟨q,q1,q2⟩:=u7 y zq;exact hne (hs.ah b b' p q y bQ q1 (.inr (k2 y (by rw[<-e1,zq]))) (.inl q2.symm))
      ·rw[if_neg nQ] at e1;exact k3 j' bW (by simp;exact fun e=>nQ e.symm) e1 e2
   ·rename_i gu;have oJ:k<m.length:=hk;have oo:k<ids.length:=by rw[hs.aK];exact oJ
    rw[bD k (fun e=>gu e.symm) (fun e=>he e.symm),List.getElem?_eq_getElem oo] at gp;rw[<-Option.some.inj gp];refine(hs.bu k oJ oo).fh dt dI hd ig ?_;intro q hq y hy;exact SD k q y (by rw[List.getElem?_eq_getElem oo,hq]) (fun e=>gu e.symm) hy

def setAt{α:Type}(l:List α):Nat->List α->List α
 | _,[]=>l
 | k,x::xs=>(setAt l (k+1) xs).set k x
theorem mC{α:Type}(l:List α):∀(k:Nat) (xs:List α),(setAt l k xs).length=l.length
 | _,[]=>rfl
 | k,x::xs=>by rw[setAt,List.length_set,mC l (k+1) xs]
theorem pD{α:Type}(l:List α):∀(k:Nat) (xs:List α) (i:Nat),(xs.length=0\/k+xs.length<=l.length)->(setAt l k xs)[i]?=if k<=i/\i<k+xs.length then xs[i-k]? else l[i]?
 | k,[],i,_=>by rw[setAt,if_neg (by simp)]
 | k,x::xs,i,h=>by
  have h:k+(xs.length+1)<=l.length:=by simpa using h
  rw[setAt,List.getElem?_set,pD l (k+1) xs i (by omega),mC];by_cases hk:k=i
  ·subst hk;rw[if_pos rfl,if_pos (by omega),if_pos (by simp)];simp
  ·rw[if_neg hk];by_cases h2:k+1<=i/\i<k+1+xs.length
   ·rw[if_pos h2,if_pos (by simp;omega),show i-k=(i-(k+1))+1 by omega];rfl
   ·rw[if_neg h2,if_neg (by simp;omega)]
abbrev Kj(az:Nat):Ren:=bP fun i=>some (az+i)
theorem zA(x:Nat):¬fN [] x:=by rintro⟨p,h,_⟩;cases h
theorem vb(m:List aq):∀(xs:List aq) (pre:List aq),setAt (m++pre++List.replicate xs.length .dead) (m++pre).length xs=m++pre++xs
 | [],pre=>by simp[setAt]
 | x::xs,pre=>by
  have h:=vb m xs (pre++[.dead]);rw[setAt]
  have e1:m++pre++List.replicate (x::xs).length aq.dead=m++(pre++[.dead])++List.replicate xs.length .dead:=by
   simp[List.replicate_succ]
  have e2:(m++pre).length+1=(m++(pre++[aq.dead])).length:=by simp;omega
  rw[e1,e2,h];simp
/-- A function that makes blocks of its own: they lie at places that are kept. -/
theorem Ff(hs:aF c s m a w ids){g:FuncId}{vs:List Value}
  {r:A} {mo:List aq} (xL:fZ mo=true) {az:Nat} (fp:∀j,j<mo.length->m[az+j]?=some .dead)
  (hc:Calls P g vs.toArray w fun e w'=>∃v gT,e=.returned v/\aF ⟨w,au c ids w,fN [],[]⟩ [r] mo ⟨#[v],[]⟩ w' gT) :
  Calls P g vs.toArray w fun e w'=>∃v ab,e=.returned v/\∀d,aF c (_root_.Go.Proofs.YtijddijloelacaaGreat.Am.aZ s d (ij (Kj az) 4 r)) (setAt m az (mo.map (gE (Kj az) 4))) (a.put d v) w' ab:=by
 have aI:mo.length=0\/az+mo.length<=m.length:=by
  rcases Nat.eq_zero_or_pos mo.length with h|h
  ·exact .inl h
  ·have:=(List.getElem?_eq_some_iff.1 (fp (mo.length-1) (by omega))).1;omega
 refine bg hc ?_;rintro e w' ⟨v,gT,rfl,hr⟩;have vB:gT.length=mo.length:=hr.aK;have E3:=hr.frame;have P2:∀k,k<w.heap.size->w'.heap[k]?=w.heap[k]?:=fun k hk=>E3.block k hk (zA k)
 have Jz:∀(j:Nat) p,gT[j]?=some (.lv p)->∀x,p.has x->w.heap.size<=x/\x<w'.heap.size:=by
  intro j p hj x hx;have:=hr.ar p (List.mem_of_getElem? hj) x hx;rcases this.1 with h|h
  ·exact⟨h,this.2⟩
  ·exact(zA x h).elim
 have Vi:∀(j:Nat) p,gT[j]?=some p->(∀vs,p≠.cz vs)/\p≠.av:=by
  intro j p hj;have Kc:=aT hj;have hB:=hr.bu j (by omega) Kc;rw[List.getElem?_eq_getElem Kc] at hj;rw[Option.some.inj hj] at hB;have h1:=jw xL _ (List.getElem_mem (show j<mo.length by omega));have h2:=kM xL _ (List.getElem_mem (show j<mo.length by omega));generalize mo[j]'(by omega)=x at hB h1 h2;constructor
  ·rintro vs rfl;cases x<;>first|exact hB.elim|exact absurd rfl (h1 _)|cases hB
  ·rintro rfl;cases x<;>first|exact hB.elim|exact absurd rfl h2|cases hB
 have TO:∀i,(setAt ids az gT)[i]?=if az<=i/\i<az+gT.length then gT[i-az]? else ids[i]?:=fun i=>pD ids az gT i (by rw[hs.aK];omega)
 have Nu:∀(i:Nat) p,ids[i]?=some p->p≠.dead->(setAt ids az gT)[i]?=some p:=by
  intro i p hi hp;rw[TO,if_neg]
  ·exact hi
  ·rintro⟨h1,h2⟩;have h3:=fp (i-az) (by omega);rw[show az+(i-az)=i by omega] at h3;obtain⟨h4,h5⟩:=List.getElem?_eq_some_iff.1 h3;have:=hs.bu i h4 (by rw[hs.aK];exact h4);rw[h5] at this;rw[List.getElem?_eq_getElem (by rw[hs.aK];exact h4)] at hi;exact hp ((Option.some.inj hi).symm.trans this)
 have zB:∀(j:Nat) p,gT[j]?=some p->(setAt ids az gT)[az+j]?=some p:=by
  intro j p hj;have:=aT hj;rw[TO,if_pos (by omega),show az+j-az=j by omega];exact hj
 have ox:∀(i:Nat) p,(setAt ids az gT)[i]?=some p->(∃j,i=az+j/\gT[j]?=some p)\/(¬(az<=i/\i<az+gT.length)/\ids[i]?=some p):=by
  intro i p h;rw[TO] at h;split at h
  ·rename_i hh;exact .inl ⟨i-az,by omega,h⟩
  ·rename_i hh;exact .inr ⟨hh,h⟩
 have aU:∀p',dH.lv p'∈setAt ids az gT->∀x,p'.has x->x<w'.heap.size/\(w.heap.size<=x\/∃(b:Nat) (p:Id),ids[b]?=some (.lv p)/\p.has x):=by
  intro p' hp x hx;obtain⟨i,hi⟩:=List.getElem?_of_mem hp;rcases ox i _ hi with⟨j,_,hj⟩|⟨_,hi⟩
  ·have:=Jz j p' hj x hx;exact⟨this.2,.inl this.1⟩
  ·exact⟨Nat.lt_of_lt_of_le (hs.ar p' (List.mem_of_getElem? hi) x hx).2 E3.size,.inr ⟨i,p',hi,hx⟩⟩
 obtain⟨dt,dI⟩:=hs.cI (w':=w') (ab:=setAt ids az gT) E3.size (fun k hk _=>P2 k hk) aU
 have WO:∀b,au ⟨w,au c ids w,fN [],[]⟩ gT w' b->au c (setAt ids az gT) w' b:=by
  rintro b (h|⟨h1,h2,h3⟩)
  ·exact dt b h
  ·have HE:w.heap.size<=b:=by
    rcases h1 with h|h
    ·exact h
    ·exact(zA b h).elim
   refine .inr ⟨.inl (Nat.le_trans hs.frame.size HE),h2,fun p hp hx=>?_⟩;obtain⟨i,hi⟩:=List.getElem?_of_mem hp;rcases ox i _ hi with⟨j,_,hj⟩|⟨_,hi⟩
   ·exact h3 p (List.mem_of_getElem? hj) hx
   ·have:=(hs.ar p (List.mem_of_getElem? hi) b hx).2;omega
 have hτ:qj (Kj az) gT (setAt ids az gT):=by
  refine⟨fun b b' p h1 h2=>?_,fun b b' p h1 h2 _=>?_,fun b b' p h1 h2=>?_,fun b b' h1 h2=>?_,fun b b' h1 h2=>?_⟩;all_goals cases h1
  ·exact⟨p,zB _ _ h2,rfl⟩
  ·exact⟨p,zB _ _ h2,gD p⟩
  ·exact⟨p,zB _ _ h2,rfl⟩
  ·exact zB _ _ h2
  ·exact zB _ _ h2
 have uo:aF c s (setAt m az (mo.map (gE (Kj az) 4))) a w' (setAt ids az gT):=by
  refine hs.ln (xG:=E3.drawn) E3.os E3.tape E3.output E3.size (fun k hk _=>P2 k hk) aU (fun vs h=>?_) ?_ rfl (by rw[mC,mC,hs.aK]) (fun i h h'=>(hs.bE i h h').mono dt dI (fun b p h1 h2=>Nu b p h1 h2)) ?_
  ·obtain⟨i,hi⟩:=List.getElem?_of_mem h;rcases ox i _ hi with⟨j,_,hj⟩|⟨_,hi⟩
   ·exact absurd rfl ((Vi j _ hj).1 vs)
   ·exact List.mem_of_getElem? hi
  ·intro k k' p q x e1 e2 x1 x2;rcases ox k _ e1 with⟨j,rfl,hj⟩|⟨_,hj⟩<;>rcases ox k' _ e2 with⟨j',rfl,bW⟩|⟨_,bW⟩
   ·rw[hr.ah j j' p q x hj bW x1 x2]
   ·have:=(Jz j p hj x x1).1;have:=(hs.ar q (List.mem_of_getElem? bW) x x2).2;omega
   ·have:=(Jz j' q bW x x2).1;have:=(hs.ar p (List.mem_of_getElem? hj) x x1).2;omega
   ·exact hs.ah k k' p q x hj bW x1 x2
  ·intro k hk gn;have e1:(setAt ids az gT)[k]?=some (setAt ids az gT)[k]:=List.getElem?_eq_getElem gn;have e2:(setAt m az (mo.map (gE (Kj az) 4)))[k]?=some (setAt m az (mo.map (gE (Kj az) 4)))[k]:=List.getElem?_eq_getElem hk;rw[pD _ _ _ _ (by simpa using aI)] at e2;simp only[List.length_map] at e2;rw[TO] at e1;rw[vB] at e1;by_cases A3:az<=k/\k<az+mo.length
   ·rw[if_pos A3] at e1 e2;rw[List.getElem?_map] at e2;have hj:k-az<mo.length:=by omega
    rw[List.getElem?_eq_getElem hj] at e2;rw[List.getElem?_eq_getElem (by omega)] at e1;simp only[Option.map_some] at e2;rw[<-Option.some.inj e1,<-Option.some.inj e2];exact jT WO (fun _ _=>rfl) hτ 4 (fun _ _ _ _=>rfl) (hr.bu (k-az) hj (by omega))
   ·rw[if_neg A3] at e1 e2;have oJ:k<m.length:=aT e2;have oo:k<ids.length:=aT e1;rw[List.getElem?_eq_getElem oJ] at e2;rw[List.getElem?_eq_getElem oo] at e1;rw[<-Option.some.inj e1,<-Option.some.inj e2];refine(hs.bu k oJ oo).mono dt dI (fun b p h1 h2=>Nu b p h1 h2) (fun q hq y hy=>P2 y ?_);exact(hs.ar q (by rw[<-hq];exact List.getElem_mem _) y hy).2
 refine⟨v,_,rfl,fun d=>uo.aZ d ?_⟩;have:=hr.bE 0 (by simp) (by simp);exact dA WO (fun _ _=>rfl) hτ 4 _ _ (by simpa using this)
theorem Fg(hs:aF c s m a w ids)(hG:G.ok c){g:FuncId}{as:List A}{vs:List Value}(hlen:vs.length=as.length)(hrel:∀j (h:j<as.length) (h':j<vs.length),aw (au c ids w) w as[j] vs[j])
  {r:A} {mo:List aq} (hc:aL P G g as [] r mo) (xL:fZ mo=true) {az:Nat} (fp:∀j,j<mo.length->m[az+j]?=some .dead) :
  Calls P g vs.toArray w fun e w'=>∃v ab,e=.returned v/\∀d,aF c (_root_.Go.Proofs.YtijddijloelacaaGreat.Am.aZ s d (ij (Kj az) 4 r)) (setAt m az (mo.map (gE (Kj az) 4))) (a.put d v) w' ab:=by
 have h0:aF ⟨w,au c ids w,fN [],[]⟩ as [] ⟨vs.toArray,[]⟩ w []:=by
  refine⟨rfl,by simp[hlen],fun i h h'=>.aH ((hrel i h (by simpa using h')).mono (fun b hb=>.inl hb) (fun _ _=>rfl)),rfl,fun b h=>absurd h (Nat.not_lt_zero _),(fun b b' p q x h=>by simp at h),(fun p h=>by cases h),Fr.refl _ _ _ _,fun b hb=>⟨cw hs hb,zA b⟩,fun vs h=>by cases h⟩
 exact Ff hs xL fp (hc.2 (au c ids w) w vs [] [] ⟨hG.now hs.frame,fun b hb=>(zA b hb).elim⟩ h0)

def tw(P:Program)(G:aG)(f:A)(args:List A)(az:Nat)(K:A->List aq->Prop):Prop :=
 match f with
 | .fn g cap=>fd.pv 4 (args++cap) fun as=>match as.any (cE 4) with
  | false=>∃r mo,aL P G g as [] r mo/\match fZ mo with
   | true=>fd 4 (ij (Kj az) 4 r) fun r'=>pz (mo.map (gE (Kj az) 4)) fun iC=>K r' iC
   | false=>False
  | true=>False
 | _=>False
def JA:List aq->List aq->(List aq->Prop)->Prop
 | m,[],K=>K m
 | m,x::xs,K=>E4 m x fun m'=>JA m' xs K
theorem DG:∀(xs m:List aq) (K:List aq->Prop),JA m xs K=K (m++xs)
 | [],m,K=>by simp[JA]
 | x::xs,m,K=>by rw[JA,rp,DG xs];simp
theorem qm(hs:aF c s m a w ids)(hG:G.ok c){F:Operand}{xs:Array Operand}{ts:Array TypeId}(ho:o.op=.call { callee:=.value F,args:=xs,argTypes:=ts }){az:Nat}{K:A->List aq->Prop}
  (h:tw P G (ev s F) (xs.toList.map (ev s)) az K)
  (hn:∀r' iC,K r' iC->(∃(m':List aq) (Mi:dp),aF c s m' a w Mi/\(∀j,j<iC.length->m'[az+j]?=some .dead)/\∀a' w' ab,aF c (_root_.Go.Proofs.YtijddijloelacaaGreat.Am.aZ s o.dst r') (setAt m' az iC) a' w' ab->next a' w')):o.wp P a w next Q:=by
 have hf:=hs.ev F;unfold tw at h;split at h
 ·rename_i g cap hv;rw[hv] at hf;obtain⟨us,HR,Ar,Ke⟩:=hf.fM;rw[cD] at h
  have hrel:∀j (h:j<(xs.toList.map (ev s)++cap).length) (h':j<(xs.toList.map a.eval++us).length),Rel ids (au c ids w) w (xs.toList.map (ev s)++cap)[j] (xs.toList.map a.eval++us)[j]:=by
   intro j h h';by_cases hj:j<xs.toList.length
   ·rw[List.getElem_append_left (by simpa using hj),List.getElem_append_left (by simpa using hj)];exact kI hs xs.toList j (by simpa using hj) (by simpa using hj)
   ·rw[List.getElem_append_right (by simpa using hj),List.getElem_append_right (by simpa using hj)];simp at h h' hj;have:=Ke (j-xs.size) (by omega) (by omega);simpa using this
  have hlen:(xs.toList.map a.eval++us).length=(xs.toList.map (ev s)++cap).length:=by simp[Ar]
  have run : ∀ fn cd, P.funcs[g]? = some fn → fn.body = some cd → (fn.name == "runtime.NumGoroutine") = false → (execOp a.eval o).run P w = .ok (.enter g (xs.toList.map a.eval ++ us).toArray) w := by
   intro fn cd h1 h2 h3;have e:execOp a.eval o=(do let d <-resolve a.eval { callee:=.value F,args:=xs,argTypes:=ts } o.type;invoke d.target d.args):=by unfold execOp;rw[ho]
   have e2:(xs.map a.eval++us.toArray)=(xs.toList.map a.eval++us).toArray:=by apply Array.ext';simp
   have h4 : ¬ fn.name = "runtime.NumGoroutine" := by simpa using h3
   rw[e];simp[resolve,HR,Deferred.ofValue,invoke,callFunc,h1,h2,h4,e2]
  split at h
  ·rename_i aU;obtain⟨r,mo,hc,hk⟩:=h;split at hk
   ·rename_i xL;rw[dX,dF] at hk;obtain⟨m',Mi,J7,fp,hn⟩:=hn _ _ hk;obtain⟨fn,cd,h1,h2,h3⟩:=hc.1;unfold Oper.wp;rw[run fn cd h1 h2 h3];show Calls P g _ w _
    have SO:∀j (h:j<(xs.toList.map (ev s)++cap).length) (h':j<(xs.toList.map a.eval++us).length),aw (au c Mi w) w (xs.toList.map (ev s)++cap)[j] (xs.toList.map a.eval++us)[j]:=by
     intro j h h'
     have hw:cE 4 (xs.toList.map (ev s)++cap)[j]=false:=by
      have:=List.any_eq_false.1 aU _ (List.getElem_mem h);simpa using this
     have WS:=J7.ev F;rw[hv] at WS;obtain⟨Yq,RE,VO,Yr⟩:=WS.fM;have Vj:Yq=us:=by rw[HR] at RE;simpa using RE.symm
     subst Vj;refine cm (ids:=Mi) 4 _ _ hw ?_;by_cases hj:j<xs.toList.length
     ·rw[List.getElem_append_left (by simpa using hj),List.getElem_append_left (by simpa using hj)];exact kI J7 xs.toList j (by simpa using hj) (by simpa using hj)
     ·rw[List.getElem_append_right (by simpa using hj),List.getElem_append_right (by simpa using hj)];simp at h h' hj;have:=Yr (j-xs.size) (by omega) (by omega);simpa using this
    refine bg (Fg J7 hG hlen SO hc xL (fun j hj=>fp j (by simpa using hj))) ?_;rintro e w' ⟨v,ab,rfl,bH⟩;exact hn _ _ _ (bH o.dst)
   ·exact hk.elim
  ·exact h.elim
 ·exact h.elim
def BO(P:Program)(G:aG)(f:A)(args:List A)(m:List aq)(K:KT):Prop:=dj m.length fun n=>tw P G f args n fun r' iC=>JA m iC fun m'=>K r' m'
theorem wV(hs:aF c s m a w ids)(hG:G.ok c){F:Operand}{xs:Array Operand}{ts:Array TypeId}(ho:o.op=.call { callee:=.value F,args:=xs,argTypes:=ts }){K:KT}
  (h:BO P G (ev s F) (xs.toList.map (ev s)) m K) (hn:bZ c s o K next):o.wp P a w next Q:=by
 unfold BO at h;rw[aN] at h;refine qm hs hG ho h ?_;intro r' iC hk;rw[DG] at hk;refine⟨m++List.replicate iC.length .dead,ids++List.replicate iC.length .dead,?_,fun j hj=>?_,?_⟩
 ·refine hs.grow (Bw.refl _ w) _ _ (by simp) ?_ ?_ ?_ ?_
  ·intro i g1 g2;simp only[List.getElem_replicate];rfl
  ·intro p hp;rw[List.mem_replicate] at hp;cases hp.2
  ·intro p hp;rw[List.mem_replicate] at hp;cases hp.2
  ·intro i j p q x g1 g2 _ _;rw[List.getElem?_replicate] at g1;split at g1<;>cases g1
 ·rw[List.getElem?_append_right (by omega),List.getElem?_replicate,if_pos (by omega)]
 ·intro a' w' ab bH;have e:=vb m iC [];simp only[List.append_nil] at e;rw[e] at bH;exact hn _ _ _ _ _ hk bH
end
def Ys:A->Option KS
 | .int k _=>some (.int k)
 | .bool _=>some .bool
 | .str _=>some .str
 | _=>none
def SP:List A->Option (List KS)
 | []=>some []
 | x::xs=>match Ys x,SP xs with
  | some s,some ss=>some (s::ss)
  | _,_=>none
def mG:List Nat->List KS->Bool
 | [],[]=>true
 | n::ns,s::ss=>match s with
  | .int _=>match Nat.beq n 5 with
   | true=>mG ns ss
   | false=>false
  | .bool=>match Nat.beq n 6 with
   | true=>mG ns ss
   | false=>false
  | .str=>match Nat.beq n 4 with
   | true=>mG ns ss
   | false=>false
 | _,_=>false
def tz:List KS->List KS->Bool
 | [],[]=>true
 | s::ss,u::us=>match s,u with
  | .int k,.int k'=>match lN k k' with
   | true=>tz ss us
   | false=>false
  | .bool,.bool=>tz ss us
  | .str,.str=>tz ss us
  | _,_=>false
 | _,_=>false
theorem jW:∀ {a b:List KS},tz a b=true->a=b
 | [],[],_=>rfl
 | s::ss,u::us,h=>by
  unfold tz at h;split at h
  ·split at h
   ·rename_i hk;rw[iP.1 hk,jW h]
   ·cases h
  ·rw[jW h]
  ·rw[jW h]
  ·cases h
 | [],_::_,h=>by simp[tz] at h
 | _::_,[],h=>by simp[tz] at h
def TP:KS->A->Option KC
 | .int k,.int k' n=>match lN k' k with
  | true=>some (.int n)
  | false=>none
 | .bool,.bool b=>some (.bool b)
 | .bool,.sb b=>some (.bool b)
 | .str,.str s=>some (.str s)
 | _,_=>none
def Nv:List KS->List A->Option (List KC)
 | [],[]=>some []
 | s::ss,x::xs=>match TP s x,Nv ss xs with
  | some k,some ks=>some (k::ks)
  | _,_=>none
 | _,_=>none
/-- A key, as cells. -/
def Fh(agg:Bool)(sh:List KS)(x:A):Option (List KC) :=
 match agg,x with
 | true,.agg cs=>Nv sh cs
 | true,_=>none
 | false,.agg _=>none
 | false,x=>Nv sh [x]
def pE:Bool->Bool->Bool
 | true,true=>true
 | false,false=>true
 | _,_=>false
def fB(b:Bool)(K:Bool->Prop):Prop :=
 match b with
 | true=>K true
 | false=>K false
theorem Nw(b:Bool)(K:Bool->Prop):fB b K=K b:=by cases b<;>rfl
/-- What is known of a map's type: the keys' kinds, the element's zero. -/
def jX(tt:TT)(t:TypeId)(K:Bool->List KS->A->Prop):Prop :=
 match tt.lookup t with
 | none=>False
 | some ti=>match ti.kind,tt.lookup ti.kC,tt.lookup ti.aM with
  | 7,some tk,some te=>match tk.eqs,SP tk.zero with
   | some ns,some sh=>match mG ns sh,Nat.beq ns.length tk.size with
    | true,true=>fB tk.agg fun ag=>match te.agg with
     | true=>fl te.zero fun z=>K ag sh (.agg z)
     | false=>match te.zero with
      | [z]=>fv z fun z'=>K ag sh z'
      | _=>False
    | _,_=>False
   | _,_=>False
  | _,_,_=>False
def zC(z:A)(k:List KC)(ok:Bool)(has:List KC->Bool)(val:List KC->A)(K:A->Prop):Prop :=
 match ok with
 | true=>(has k=true->fd 3 (val k) fun v=>K (.tup [v,.bool true]))/\(has k=false->K (.tup [z,.bool false]))
 | false=>(has k=true->fd 3 (val k) fun v=>K v)/\(has k=false->K z)
def vc(agg:Bool)(sh:List KS)(z:A)(k:List KC)(ok:Bool)(iX:Bool)(tA:List KS)(has:List KC->Bool)(val:List KC->A)(K:A->Prop):Prop :=
 match pE agg iX,tz sh tA with
 | true,true=>zC z k ok has val K
 | _,_=>False
def jl(tt:TT)(t:TypeId)(x key:A)(ok:Bool)(m:List aq)(K:A->Prop):Prop :=
 jX tt t fun agg sh z=>match Fh agg sh key with
  | none=>False
  | some k=>match x with
   | .mv iX tA has val=>vc agg sh z k ok iX tA has val K
   | .omap b=>match m.getD b .dead with
    | .ez iX tA has val=>vc agg sh z k ok iX tA has val K
    | _=>False
   | .fF=>match ok with
    | true=>K (.tup [z,.bool false])
    | false=>K z
   | _=>False
def mY(has:List KC->Bool)(k:List KC)(b:Bool):List KC->Bool:=fun j=>if j=k then b else has j
def pd(val:List KC->A)(k:List KC)(v:A):List KC->A:=fun j=>if j=k then v else val j
def JB(tt:TT)(t:TypeId)(x key v:A)(m:List aq)(K:KT):Prop :=
 jX tt t fun agg sh _=>match Fh agg sh key,x,cE 4 v with
  | some k,.omap b,false=>match m.getD b .dead with
   | .ez iX tA has val=>match pE agg iX,tz sh tA with
    | true,true=>fd 4 v fun v'=>pn m b (.ez iX tA (mY has k true) (pd val k v')) fun m'=>K .ae m'
    | _,_=>False
   | _=>False
  | _,_,_=>False
def BP(tt:TT)(t:TypeId)(m:List aq)(K:KT):Prop :=
 jX tt t fun agg sh _=>kZ m (.ez agg sh (fun _=>false) (fun _=>.ae)) fun b m'=>K (.omap b) m'

section
variable {c:Ctx} {s:List A} {m:List aq} {a:Act} {w w':World} {ids ab:dp} {P:Program} {im bl:Nat->Prop} {tt:TT} {G:aG}
variable {next:Act->World->Prop} {Q:Exit->Act->World->Prop} {o:Oper}

theorem np{a b:Bool}(h:pE a b=true):a=b:=by cases a<;>cases b<;>simp[pE] at h<;>rfl
theorem lV:∀ {ns:List Nat} {sh:List KS} {k k':List KC},mG ns sh=true->gX sh k->gX sh k'->sF ns (Dp sh k) (Dp sh k') (decide (k=k'))
 | [],[],[],[],_,_,_=>by simp[Dp,sF]
 | n::ns,s::ss,x::k,y::k',h,h1,h2=>by
  cases s with
  | int kd =>
   cases x<;>first|exact h1.elim|skip
   cases y<;>first|exact h2.elim|skip
   rename_i a b;simp only[mG] at h;split at h
   ·rename_i hn;have hn:=Nat.eq_of_beq_eq_true hn;subst hn;refine⟨decide (a=b),decide (k=k'),.inl ⟨rfl,kd,a,b,rfl,rfl,by rw[Bool.eq_iff_iff];simp⟩,lV h h1 h2,?_⟩;rw[<-Bool.decide_and];apply decide_eq_decide.2;simp
   ·cases h
  | bool =>
   cases x<;>first|exact h1.elim|skip
   cases y<;>first|exact h2.elim|skip
   rename_i a b;simp only[mG] at h;split at h
   ·rename_i hn;have hn:=Nat.eq_of_beq_eq_true hn;subst hn;refine⟨decide (a=b),decide (k=k'),.inr (.inl ⟨rfl,a,b,rfl,rfl,by rw[Bool.eq_iff_iff];simp⟩),lV h h1 h2,?_⟩;rw[<-Bool.decide_and];apply decide_eq_decide.2;simp
   ·cases h
  | str =>
   cases x<;>first|exact h1.elim|skip
   cases y<;>first|exact h2.elim|skip
   rename_i a b;simp only[mG] at h;split at h
   ·rename_i hn;have hn:=Nat.eq_of_beq_eq_true hn;subst hn;refine⟨decide (a=b),decide (k=k'),.inr (.inr ⟨rfl,_,_,rfl,rfl,by rw[cQ,cQ,Bool.eq_iff_iff];simp⟩),lV h h1 h2,?_⟩;rw[<-Bool.decide_and];apply decide_eq_decide.2;simp
   ·cases h
 | [],_::_,_,_,h,_,_=>by simp[mG] at h
 | _::_,[],_,_,h,_,_=>by simp[mG] at h
 | _,s::_,[],_,_,h,_=>by cases s<;>exact h.elim
 | _,s::_,_,[],_,_,h=>by cases s<;>exact h.elim
 | _,[],_::_,_,_,h,_=>h.elim
 | _,[],_,_::_,_,_,h=>h.elim
theorem Mj{s:KS}{x:A}{k:KC}{v:Value}(h:TP s x=some k)(hx:Rel ids im w x v):v=Sk s k:=by
 cases s<;>cases x<;>simp only[TP] at h<;>first|(cases h;done)|skip
 ·split at h
  ·rename_i hk;cases h;rw[hx.bS,iP.1 hk];rfl
  ·cases h
 ·cases h;exact hx.dR
 ·cases h;exact hx.iL
 ·cases h;exact hx.gJ
theorem wX:∀ {sh:List KS} {cs:List A} {k:List KC} {vs:List Value},Nv sh cs=some k->vs.length=cs.length->(∀j (h:j<cs.length) (h':j<vs.length),Rel ids im w cs[j] vs[j])->gX sh k/\vs=Dp sh k
 | [],[],k,vs,h,hl,_=>by
  simp only[Nv,Option.some.injEq] at h;subst h;have:vs=[]:=by simpa using hl
  subst this;exact⟨trivial,rfl⟩
 | s::ss,x::xs,k,vs,h,hl,hr=>by
  simp only[Nv] at h;split at h
  ·rename_i k0 ks h1 h2;cases h
   match vs,hl with
   | v::vs,hl =>
    have e1:=Mj h1 (hr 0 (by simp) (by simp));obtain⟨e2,e3⟩:=wX (vs:=vs) h2 (by simpa using hl) (fun j g g'=>hr (j+1) (by simpa using g) (by simpa using g'));simp only[List.getElem_cons_zero] at e1;refine⟨?_,by simp only[Dp];rw[<-e1,<-e3]⟩;cases s<;>cases x<;>simp only[TP] at h1<;>first|(cases h1;done)|skip
    ·split at h1
     ·cases h1;exact e2
     ·cases h1
    ·cases h1;exact e2
    ·cases h1;exact e2
    ·cases h1;exact e2
  ·cases h
 | [],_::_,_,_,h,_,_=>by simp[Nv] at h
 | _::_,[],_,_,h,_,_=>by simp[Nv] at h
theorem zD{agg:Bool}{sh:List KS}{x:A}{k:List KC}{v:Value}(h:Fh agg sh x=some k)(hx:Rel ids im w x v):gX sh k/\v=kV agg sh k:=by
 unfold Fh at h;split at h
 ·rename_i cs;obtain⟨vs,rfl,hl,_,hr⟩:=hx.gL;obtain⟨e1,e2⟩:=wX h hl hr;exact⟨e1,by rw[e2];rfl⟩
 ·cases h
 ·cases h
 ·obtain⟨e1,e2⟩:=wX (vs:=[v]) h rfl (fun j g g'=>by
   have:j=0:=by simp at g;omega
   subst this;exact hx)
  exact⟨e1,by unfold kV;rw[<-e2];rfl⟩

theorem wY(em:Bool):∀(d:Nat) (t:TypeId) (sh:List Nat) (xs:List Value) (r:Bool) (dd:Nat),aW P d t=some sh->sF sh xs xs r->(Instr.checkKey em (d+dd) t (uf P t xs)).run P w=.ok () w
 | 0,_,_,_,_,_,h,_=>by simp[aW] at h
 | d+1,t,sh,xs,r,dd,h,hk=>by
  have e:d+1+dd=(d+dd)+1:=by omega
  rw[e];unfold aW at h;unfold uf;split at h
  ·rename_i k hd;cases h;obtain⟨x,y,rfl,_,_⟩:=my hk;rw[hd];unfold Instr.checkKey;simp only[Sem.run_bind,run_underlying hd,Result.andThen_ok];rfl
  ·rename_i hd;cases h;obtain⟨x,y,rfl,_,_⟩:=my hk;rw[hd];unfold Instr.checkKey;simp only[Sem.run_bind,run_underlying hd,Result.andThen_ok];rfl
  ·rename_i hd;cases h;obtain⟨x,y,rfl,_,_⟩:=my hk;rw[hd];unfold Instr.checkKey;simp only[Sem.run_bind,run_underlying hd,Result.andThen_ok];rfl
  ·rename_i fs hd;split at h
   ·cases h
   ·rw[hd,Instr.checkKey];simp only[Sem.run_bind,run_underlying hd,Result.andThen_ok];rw[<-Array.forIn_toList]
    have key:∀(fl:List Field) (acc:Nat) (sh:List Nat) (r:Bool),eqFs P (aW P d) acc fl=some sh->sF sh (xs.drop acc) (xs.drop acc) r ->
      ((forIn fl PUnit.unit fun f _=>do
       if f.name ≠ "_" then Instr.checkKey em (d + dd) f.type (← part f.type xs.toArray f.offset)
       pure (ForInStep.yield PUnit.unit):Sem PUnit)).run P w=.ok PUnit.unit w:=by
     intro fl
     induction fl with
     | nil=>intro acc sh r _ _;simp
     | cons f fl ih =>
      intro acc sh r h1 h2;unfold eqFs at h1;split at h1
      ·rename_i s1 i hs hi;split at h1
       ·rename_i hc;obtain⟨Ay,qS,UM,hz⟩:=hc;split at h1
        ·rename_i r0 J8;cases h1;obtain⟨r1,r2,g1,g2,rfl⟩:=iN h2;obtain⟨fd,LS⟩:=jd d f.type s1 hs;have hl:=mw h2;simp at hl;have p1:=jQ (w:=w) hi LS xs acc (by omega) (by omega);rw[UM] at p1;have q:=wY em d f.type s1 _ r1 dd hs g1;rw[List.drop_drop] at g2;have PC:=ih (acc+s1.length) r0 r2 J8 g2;subst qS;rw[List.forIn_cons];simp only[Sem.run_bind,Ay,ne_eq,not_false_eq_true,if_true,p1,q,Result.andThen_ok,Sem.run_pure];exact PC
        ·cases h1
       ·cases h1
      ·cases h1
    have:=key fs.toList 0 sh r h (by simpa using hk);simp at this ⊢;rw[this];rfl
  ·rename_i n e hd;split at h
   ·rename_i s1 i hs hi;split at h
    ·rename_i hc;cases h;rw[hd,Instr.checkKey];obtain⟨ed,QD⟩:=jd d e s1 hs;simp only[Sem.run_bind,run_underlying hd,Result.andThen_ok];simp only[Std.Legacy.Range.forIn_eq_forIn_range',Std.Legacy.Range.size,Nat.sub_zero,Nat.add_one_sub_one,Nat.div_one];have Bz:P.cellsOf e=s1.length:=by unfold Program.cellsOf;rw[hi];simp[hc.1]
     have key:∀(k b:Nat) (r:Bool),sF (List.replicate k s1).flatten (xs.drop (b*s1.length)) (xs.drop (b*s1.length)) r ->
       ((forIn (List.range' b k) PUnit.unit fun i _=>do
        Instr.checkKey em (d+dd) e (<-part e xs.toArray (i*(<-sizeOf e)))
        pure (ForInStep.yield PUnit.unit):Sem PUnit)).run P w=.ok PUnit.unit w:=by
      intro k
      induction k with
      | zero=>intro b r _;simp
      | succ k ih =>
       intro b r h2;rw[List.replicate_succ,List.flatten_cons] at h2;have hl:=mw h2;simp only[List.length_drop,List.length_append] at hl;obtain⟨r1,r2,g1,g2,rfl⟩:=iN h2;have p1:=jQ (w:=w) hi QD xs (b*s1.length) (by omega) (by omega);rw[hc.1] at p1;have q:=wY em d e s1 _ r1 dd hs g1;rw[List.drop_drop,<-Nat.succ_mul] at g2;have PC:=ih (b+1) r2 g2;rw[List.range'_succ,List.forIn_cons];simp only[Sem.run_bind,run_sizeOf w hi,Bz,p1,q,Result.andThen_ok,Sem.run_pure];exact PC
     have:=key n 0 r (by simpa using hk);simp at this ⊢;rw[this];rfl
    ·cases h
   ·cases h
  ·cases h
end
section
variable {c:Ctx} {s:List A} {m:List aq} {a:Act} {w w':World} {ids ab:dp} {P:Program} {im bl:Nat->Prop} {tt:TT} {G:aG}
variable {next:Act->World->Prop} {Q:Exit->Act->World->Prop} {o:Oper}

/-- What is known of a key's type. -/
structure oy (P:Program) (kt:TypeId) (agg:Bool) (sh:List KS):Prop where
 ex:∃d ns,P.underlying kt=some d/\agg=dM d/\aW P 6 kt=some ns/\mG ns sh=true
theorem oy.uf{kt:TypeId}{agg:Bool}{sh:List KS}(h:oy P kt agg sh)(k:List KC):uf P kt (Dp sh k)=kV agg sh k:=by
 obtain⟨d,ns,h1,h2,_,_⟩:=h.ex;unfold Am.uf kV;rw[h1,h2];cases d<;>rfl
theorem oy.vN{kt:TypeId}{agg:Bool}{sh:List KS}(h:oy P kt agg sh){k:List KC}(hk:gX sh k)(em:Bool):(Instr.checkKey em 10000 kt (kV agg sh k)).run P w=.ok () w:=by
 rw[<-h.uf];obtain⟨d,ns,_,_,h3,h4⟩:=h.ex;exact wY em 6 kt ns _ _ 9994 h3 (lV h4 hk hk)
theorem oy.eq{kt:TypeId}{agg:Bool}{sh:List KS}(h:oy P kt agg sh){k k':List KC}(hk:gX sh k)(gn:gX sh k'):(Op.equal kt (kV agg sh k) (kV agg sh k')).run P w=.ok (decide (k=k')) w:=by
 rw[<-h.uf,<-h.uf];obtain⟨d,ns,_,_,h3,h4⟩:=h.ex;exact fz 6 kt ns _ _ _ 9994 h3 (lV h4 hk gn)
theorem DH{kt:TypeId}{agg:Bool}{sh:List KS}(h:oy P kt agg sh){k:List KC}(hk:gX sh k):∀(es:List MapEntry) (f:Nat->List KC) (i0:Nat),(∀i (h:i<es.length),gX sh (f i)/\es[i].key=kV agg sh (f i)) ->
  ∃res,(Instr.findAsking kt (kV agg sh k) es i0).run P w=.ok res w/\((res=none/\∀i,i<es.length->f i≠k)\/∃i,∃(h:i<es.length),f i=k/\res=some (i0+i,es[i].val))
 | [],f,i0,_=>⟨none,by simp[Instr.findAsking],.inl ⟨rfl,fun _ h=>by simp at h⟩⟩
 | e::es,f,i0,hf=>by
  have h0:=hf 0 (by simp);have he:=h.eq (w:=w) hk h0.1;have Vk:e.key=kV agg sh (f 0):=h0.2;rw[<-Vk] at he;by_cases A3:k=f 0
  ·refine⟨some (i0,e.val),?_,.inr ⟨0,by simp,A3.symm,rfl⟩⟩;simp only[Instr.findAsking,Sem.run_bind,he,Result.andThen_ok];rw[decide_eq_true A3];rfl
  ·obtain⟨res,h1,h2⟩:=DH h hk es (fun i=>f (i+1)) (i0+1) (fun i hi=>hf (i+1) (by simpa using hi));refine⟨res,?_,?_⟩
   ·simp only[Instr.findAsking,Sem.run_bind,he,Result.andThen_ok];rw[decide_eq_false A3];exact h1
   ·rcases h2 with⟨e1,e2⟩|⟨i,hi,e1,e2⟩
    ·refine .inl ⟨e1,fun i hi=>?_⟩;cases i with
     | zero=>exact fun e=>A3 e.symm
     | succ i=>exact e2 i (by simpa using hi)
    ·exact .inr ⟨i+1,by simpa using hi,e1,by rw[e2];simp;omega⟩
theorem DI{d:TypeDesc}{sh:List KS}(ql:∀k k',gX sh k->gX sh k'->Instr.sameNow d (kV false sh k) (kV false sh k')=some (decide (k=k'))){k:List KC}(hk:gX sh k):∀(es:List MapEntry) (f:Nat->List KC) (i0:Nat),(∀i (h:i<es.length),gX sh (f i)/\es[i].key=kV false sh (f i)) ->
  ∃res,Instr.findNow d (kV false sh k) es i0=some res/\((res=none/\∀i,i<es.length->f i≠k)\/∃i,∃(h:i<es.length),f i=k/\res=some (i0+i,es[i].val))
 | [],f,i0,_=>⟨none,rfl,.inl ⟨rfl,fun _ h=>by simp at h⟩⟩
 | e::es,f,i0,hf=>by
  have h0:=hf 0 (by simp);have he:=ql k (f 0) hk h0.1;have Vk:e.key=kV false sh (f 0):=h0.2;rw[<-Vk] at he;by_cases A3:k=f 0
  ·refine⟨some (i0,e.val),?_,.inr ⟨0,by simp,A3.symm,rfl⟩⟩;rw[decide_eq_true A3] at he;simp only[Instr.findNow,he]
  ·rw[decide_eq_false A3] at he;obtain⟨res,h1,h2⟩:=DI ql hk es (fun i=>f (i+1)) (i0+1) (fun i hi=>hf (i+1) (by simpa using hi));refine⟨res,?_,?_⟩
   ·simp only[Instr.findNow,he];exact h1
   ·rcases h2 with⟨e1,e2⟩|⟨i,hi,e1,e2⟩
    ·refine .inl ⟨e1,fun i hi=>?_⟩;cases i with
     | zero=>exact fun e=>A3 e.symm
     | succ i=>exact e2 i (by simpa using hi)
    ·exact .inr ⟨i+1,by simpa using hi,e1,by rw[e2];simp;omega⟩
theorem wZ{s:KS}{k:List KC}(h:gX [s] k):∃x,k=[x]/\gX [s] [x]:=by
 match k,h with
 | [x],h=>exact⟨x,rfl,h⟩
 | [],h=>cases s<;>exact h.elim
 | x::y::l,h=>cases s<;>cases x<;>exact h.elim
theorem tB{kt:TypeId}{agg:Bool}{sh:List KS}(h:oy P kt agg sh){k:List KC}(hk:gX sh k)(es:Array MapEntry)(f:Nat->List KC)(hf:∀i (h:i<es.size),gX sh (f i)/\es[i].key=kV agg sh (f i)):
  ∃res,(Instr.findKey kt (kV agg sh k) es.toList).run P w=.ok res w/\((res=none/\∀i,i<es.size->f i≠k)\/∃i,∃(h:i<es.size),f i=k/\res=some (i,es[i].val)):=by
 obtain⟨d,ns,h1,h2,h3,h4⟩:=h.ex;have QT:∀i (h:i<es.toList.length),gX sh (f i)/\es.toList[i].key=kV agg sh (f i):=fun i hi=>by simpa using hf i (by simpa using hi)
 cases agg with
 | true =>
  have hw:(match P.underlying kt with|some (.array _ _)|some (.struct _)=>true|_=>false)=true:=by
   rw[h1];cases d<;>simp[dM] at h2<;>rfl
  obtain⟨res,e1,e2⟩:=DH (w:=w) h hk es.toList f 0 QT;exact⟨res,by rw[run_findKey_eq w hw];exact e1,by simpa using e2⟩
 | false =>
  have ql:∀k k',gX sh k->gX sh k'->Instr.sameNow d (kV false sh k) (kV false sh k')=some (decide (k=k')):=by
   intro k k' g1 g2;unfold aW at h3;rw[h1] at h3;cases d<;>simp[dM] at h2<;>simp only at h3<;>first|(cases h3;done)|skip
   all_goals
    cases h3
    match sh,h4,g1,g2 with
    | [s],h4,g1,g2 =>
     obtain⟨x,rfl,g1⟩:=wZ g1;obtain⟨y,rfl,g2⟩:=wZ g2;cases s<;>simp[mG] at h4<;>cases x<;>first|exact g1.elim|skip
     all_goals
      cases y<;>first|exact g2.elim|skip
      simp[kV,Dp,Sk,Instr.sameNow,Bool.beq_eq_decide_eq]
      try (rw[beq_toListBytes,cQ,cQ,Bool.eq_iff_iff];simp)
    | [],h4,_,_=>simp[mG] at h4
    | s::s'::ss,h4,_,_=>cases s<;>simp[mG] at h4
  obtain⟨res,e1,e2⟩:=DI ql hk es.toList f 0 QT;exact⟨res,MapKept.run_findKey h1 e1,by simpa using e2⟩

/-- What a map's type tells. -/
theorem jY(aJ:bo P tt){t:TypeId}{K:Bool->List KS->A->Prop}(h:jX tt t K)(im:Nat->Prop)(w:World):
  ∃kt et agg sh z zv,P.underlying t=some (.map kt et)/\oy P kt agg sh/\(zeroValue et).run P w=.ok zv w/\aw im w z zv/\K agg sh z:=by
 unfold jX at h;split at h
 ·exact h.elim
 ·rename_i ti iQ;split at h
  ·rename_i tk te hk TQ xx;split at h
   ·rename_i ns sh dn FM;split at h
    ·rename_i yD hlen;obtain⟨i,d,z0,g1,g2,g3,g4,g5,g6,g7,g8,_,_,_,_,_,_,g9,_⟩:=aJ.facts TQ;obtain⟨zv,z1,z2,z3⟩:=aJ.LW xx im w;have Mk:oy P ti.kC tk.agg sh:=⟨d,ns,g2,g8,by rw[<-g9];exact dn,yD⟩;rw[Nw] at h;split at h
     ·rename_i ha;rw[ck] at h;exact⟨_,_,_,_,_,zv,aJ.wE iQ hk,Mk,z1,z2 ha,h⟩
     ·rename_i ha;obtain⟨z,e1,e2⟩:=z3 ha;rw[e1] at h;simp only[db] at h;exact⟨_,_,_,_,_,zv,aJ.wE iQ hk,Mk,z1,e2,h⟩
    ·exact h.elim
   ·exact h.elim
  ·exact h.elim

theorem JC{t kt et:TypeId}{agg:Bool}{sh:List KS}(ht:P.underlying t=some (.map kt et))(Mk:oy P kt agg sh){zv:Value}(hz:(zeroValue et).run P w=.ok zv w){k:List KC}(hk:gX sh k)
  {r:Nat} {es:Array MapEntry} {clock:Nat} (hh:w.heap[r]?=some (.map es clock)) {f:Nat->List KC} (hf:∀i (h:i<es.size),gX sh (f i)/\es[i].key=kV agg sh (f i)) (ok:Bool) :
  (∃i,∃(h:i<es.size),f i=k/\(Instr.lookup t (.map (some r)) (kV agg sh k) ok).run P w=.ok (if ok then .tuple #[es[i].val,.bool true] else es[i].val) w) \/
  ((∀i,i<es.size->f i≠k)/\(Instr.lookup t (.map (some r)) (kV agg sh k) ok).run P w=.ok (if ok then .tuple #[zv,.bool false] else zv) w):=by
 obtain⟨res,e1,e2⟩:=tB (w:=w) Mk hk es f hf;have hc:=Mk.vN (w:=w) hk es.isEmpty;rcases e2 with⟨rfl,e2⟩|⟨i,hi,e2,rfl⟩
 ·refine .inr ⟨e2,?_⟩;simp only[Instr.lookup,Sem.run_bind,run_underlying ht,Result.andThen_ok,MapKept.run_getObj_map hh,Sem.run_pure,hc,e1,hz]
 ·refine .inl ⟨i,hi,e2,?_⟩;simp only[Instr.lookup,Sem.run_bind,run_underlying ht,Result.andThen_ok,MapKept.run_getObj_map hh,Sem.run_pure,hc,e1]

theorem qn(aJ:bo P tt)(hs:aF c s m a w ids){t:TypeId}{X Y:Operand}{ok:Bool}(ho:o.op=.lookup t X Y ok){K:KT}(h:jl tt t (ev s X) (ev s Y) ok m fun v=>K v m)(hn:bZ c s o K next):o.wp P a w next Q:=by
 have e:execOp a.eval o=(do pure (.value (<-Instr.lookup t (a.eval X) (a.eval Y) ok))):=by
  obtain⟨dst,op,ty,pos,after,guard⟩:=o;simp only at ho;subst ho;rfl
 unfold jl at h;obtain⟨kt,et,agg,sh,z,zv,h1,h2,h3,h4,h⟩:=jY aJ h (au c ids w) w;split at h
 ·exact h.elim
 ·rename_i k hk;obtain⟨g1,g2⟩:=zD hk (hs.ev Y)
  have main:∀(has:List KC->Bool) (val:List KC->A) (r:Nat) (es:Array MapEntry) (clock:Nat) (f:Nat->List KC),a.eval X=.map (some r)->w.heap[r]?=some (.map es clock) ->
    (∀i (h:i<es.size),gX sh (f i)/\es[i].key=kV agg sh (f i)/\has (f i)=true)->(∀k,gX sh k->has k=true->∃i,i<es.size/\f i=k)->(∀i (h:i<es.size),aw (au c ids w) w (val (f i)) es[i].val) ->
    zC z k ok has val (fun v=>K v m)->o.wp P a w next Q:=by
   intro has val r es clock f q1 q2 q3 q4 q5 q6;simp only[zC,dX] at q6;rcases JC h1 h2 h3 g1 q2 (fun i hi=>⟨(q3 i hi).1,(q3 i hi).2.1⟩) ok with⟨i,hi,e1,e2⟩|⟨e1,e2⟩
   ·have JD:has k=true:=by rw[<-e1];exact(q3 i hi).2.2
    have hrel:=q5 i hi;rw[e1] at hrel;cases ok with
    | true =>
     refine aO hs hn ⟨_,.tuple #[es[i].val,.bool true],by rw[e,q1,g2];simp only[Sem.run_bind,e2,Result.andThen_ok];rfl,q6.1 JD,?_⟩
     exact .aH (.tup [val k,.bool true] [es[i].val,.bool true] rfl (fun j g g'=>by
      match j with
      | 0=>exact hrel
      | 1=>exact .bool true
      | j+2=>exact absurd g (by simp)))
    | false=>exact aO hs hn ⟨_,es[i].val,by rw[e,q1,g2];simp only[Sem.run_bind,e2,Result.andThen_ok];rfl,q6.1 JD,.aH hrel⟩
   ·have JD:has k=false:=by
     cases hb:has k with
     | false=>rfl
     | true=>obtain⟨i,hi,he⟩:=q4 k g1 hb;exact absurd he (e1 i hi)
    cases ok with
    | true =>
     refine aO hs hn ⟨_,.tuple #[zv,.bool false],by rw[e,q1,g2];simp only[Sem.run_bind,e2,Result.andThen_ok];rfl,q6.2 JD,?_⟩
     exact .aH (.tup [z,.bool false] [zv,.bool false] rfl (fun j g g'=>by
      match j with
      | 0=>exact h4
      | 1=>exact .bool false
      | j+2=>exact absurd g (by simp)))
    | false=>exact aO hs hn ⟨_,zv,by rw[e,q1,g2];simp only[Sem.run_bind,e2,Result.andThen_ok];rfl,q6.2 JD,.aH h4⟩
  have hx:=hs.ev X;split at h
  ·rename_i iX tA has val hv;rw[hv] at hx;unfold vc at h;split at h
   ·rename_i lZ j8;have lZ:=np lZ;have j8:=jW j8;subst lZ;subst j8;cases hx with
    | aH hx =>
     generalize hX:a.eval X=V at hx;cases hx with
     | mv _ _ _ _ r es clock f hb hh gn hd hc Et=>exact main has val r es clock f hX hh gn hc Et h
   ·exact h.elim
  ·rename_i b hv;rw[hv] at hx;split at h
   ·rename_i iX tA has val DJ;unfold vc at h;split at h
    ·rename_i lZ j8;have lZ:=np lZ;have j8:=jW j8;subst lZ;subst j8;obtain⟨p,h5,h6⟩:=hs.Dr hx (by rw[DJ];simp);obtain⟨x,lq,kX⟩:=hs.dU h5;rw[bf lq] at DJ;subst DJ;obtain⟨es,clock,f,q1,q2,q3,q4,q5⟩:=kX;exact main has val p.ao es clock f h6 q1 q2 q4 q5.1 h
    ·exact h.elim
   ·exact h.elim
  ·rename_i hv;rw[hv] at hx;have hX:=hx.jP;have hc:=h2.vN (w:=w) g1 true
   have bR:(Instr.lookup t (.map none) (kV agg sh k) ok).run P w=.ok (if ok then .tuple #[zv,.bool false] else zv) w:=by
    have Yt:(Instr.findKey kt (kV agg sh k) ([]:List MapEntry)).run P w=.ok none w:=by
     obtain⟨res,e1,e2⟩:=tB (w:=w) h2 g1 #[] (fun _=>[]) (fun i hi=>by simp at hi);rcases e2 with⟨rfl,_⟩|⟨i,hi,_⟩
     ·exact e1
     ·simp at hi
    simp only[Instr.lookup,Sem.run_bind,run_underlying h1,Result.andThen_ok,Sem.run_pure];simp only[Array.isEmpty_empty,hc,Result.andThen_ok,Yt];simp only[Sem.run_bind,h3,Result.andThen_ok,Sem.run_pure]
   split at h
   ·refine aO hs hn ⟨_,.tuple #[zv,.bool false],by rw[e,hX,g2];simp only[Sem.run_bind,bR,Result.andThen_ok];rfl,h,?_⟩
    exact .aH (.tup [z,.bool false] [zv,.bool false] rfl (fun j g g'=>by
     match j with
     | 0=>exact h4
     | 1=>exact .bool false
     | j+2=>exact absurd g (by simp)))
   ·exact aO hs hn ⟨_,zv,by rw[e,hX,g2];simp only[Sem.run_bind,bR,Result.andThen_ok];rfl,h,.aH h4⟩
  ·exact h.elim

/-- A block of ours that is an object is written. -/
theorem aF.setObj(hs:aF c s m a w ids)(b:Nat)(p:Id)(bQ:ids[b]?=some (.lv p))(x:aq)(ob:Obj)
  (hx:∀w',w'.heap[p.ao]?=some ob->(∀a v,aw (au c ids w) w a v->aw (au c ids w') w' a v)->aV ids (au c ids w') w' x (.lv p)) :
  aF c s (m.set b x) a { w with heap:=w.heap.setIfInBounds p.ao ob } ids:=by
 have jn:dH.lv p∈ids:=List.mem_of_getElem? bQ;have E3:=hs.fresh p jn;have bM:({ w with heap:=w.heap.setIfInBounds p.ao ob }:World).heap.size=w.heap.size:=by simp
 have xE:∀k,k≠p.ao->({ w with heap:=w.heap.setIfInBounds p.ao ob }:World).heap[k]?=w.heap[k]?:=by
  intro k hk;simp[Array.getElem?_setIfInBounds_ne (fun e=>hk e.symm)]
 have aU:∀p',dH.lv p'∈ids->∀x,p'.has x->x<({ w with heap:=w.heap.setIfInBounds p.ao ob }:World).heap.size/\(w.heap.size<=x\/∃(b:Nat) (p:Id),ids[b]?=some (.lv p)/\p.has x):=by
  intro p' Nk y hy;obtain⟨k,hk⟩:=List.getElem?_of_mem Nk;exact⟨by rw[bM];exact(hs.ar p' Nk y hy).2,.inr ⟨k,p',hk,hy⟩⟩
 have eU:∀k,k<w.heap.size->(∀(b:Nat) (p:Id),ids[b]?=some (.lv p)->¬p.has k)->({ w with heap:=w.heap.setIfInBounds p.ao ob }:World).heap[k]?=w.heap[k]? :=
  fun k _ hk=>xE k (fun e=>hk b p bQ (.inl e))
 obtain⟨dt,dI⟩:=hs.cI (w':={ w with heap:=w.heap.setIfInBounds p.ao ob }) (ab:=ids) (by rw[bM];exact Nat.le_refl _) eU aU;refine hs.ln rfl rfl rfl (by rw[bM];exact Nat.le_refl _) eU aU (fun _ h=>h) hs.ah rfl (by simp[hs.aK]) (fun i h h'=>(hs.bE i h h').mono dt dI (fun _ _ h _=>h)) ?_;intro k hk gn;simp only[List.length_set] at hk;rw[List.getElem_set];split
 ·rename_i he;subst he;have e:ids[b]=.lv p:=by rw[List.getElem?_eq_getElem gn] at bQ;exact Option.some.inj bQ
  rw[e];refine hx _ ?_ (fun a v h=>h.mono dt dI);simp[E3.2]
 ·rename_i he;refine(hs.bu k hk gn).mono dt dI (fun _ _ h _=>h) ?_;intro q hq y hy;refine xE y (fun e=>he ?_);exact hs.ah b k p q y bQ (by rw[List.getElem?_eq_getElem gn,hq]) (.inl e) hy

theorem mR:∀(sh:List KS) (k:List KC),gX sh k->∀n,((Dp sh k).zip (Dp sh k)).all (fun(x,y)=>Instr.sameBits n x y)=true
 | [],[],_,n=>rfl
 | s::ss,x::k,h,n=>by
  cases s<;>cases x<;>first|exact h.elim|skip
  all_goals
   simp only[Dp,List.zip_cons_cons,List.all_cons,Bool.and_eq_true];refine⟨by simp[Sk,Instr.sameBits,beq_toListBytes],mR ss k h n⟩
 | [],_::_,h,_=>h.elim
 | s::_,[],h,_=>by cases s<;>exact h.elim
theorem zF{agg:Bool}{sh:List KS}{k:List KC}(hk:gX sh k)(h1:agg=false->sh.length=1):Instr.sameBits 10000 (kV agg sh k) (kV agg sh k)=true:=by
 cases agg with
 | true =>
  have:=mR sh k hk 9999;simp only[kV,Instr.sameBits];simpa using this
 | false =>
  match sh,k,hk,h1 rfl with
  | [s],k,hk,_ =>
   obtain⟨x,rfl,hk⟩:=wZ hk;cases s<;>cases x<;>first|exact hk.elim|simp[kV,Dp,Sk,Instr.sameBits,beq_toListBytes]
theorem oy.Vl{kt:TypeId}{agg:Bool}{sh:List KS}(h:oy P kt agg sh)(ha:agg=false):sh.length=1:=by
 obtain⟨d,ns,h1,h2,h3,h4⟩:=h.ex;subst ha;unfold aW at h3;rw[h1] at h3;cases d<;>simp[dM] at h2<;>simp only at h3<;>first|(cases h3;done)|skip
 all_goals
  cases h3
  match sh,h4 with
  | [s],_=>rfl
  | [],h4=>simp[mG] at h4
  | s::s'::ss,h4=>cases s<;>simp[mG] at h4

theorem Ml{t kt et:TypeId}{agg:Bool}{sh:List KS}(ht:P.underlying t=some (.map kt et))(Mk:oy P kt agg sh){k:List KC}(hk:gX sh k)
  {r:Nat} {es:Array MapEntry} {clock:Nat} (hh:w.heap[r]?=some (.map es clock)) {f:Nat->List KC} (hf:∀i (h:i<es.size),gX sh (f i)/\es[i].key=kV agg sh (f i)) (v:Value) :
  (∃i,∃(_:i<es.size),f i=k/\(Instr.mapUpdate t (.map (some r)) (kV agg sh k) v).run P w=.ok () { w with heap:=w.heap.setIfInBounds r (.map (es.modify i fun e=>{ e with key:=kV agg sh k,val:=v }) clock) }) \/
  ((∀i,i<es.size->f i≠k)/\(Instr.mapUpdate t (.map (some r)) (kV agg sh k) v).run P w=.ok () { w with heap:=w.heap.setIfInBounds r (.map (es.push { key:=kV agg sh k,val:=v,born:=clock }) (clock+1)) }):=by
 obtain⟨res,e1,e2⟩:=tB (w:=w) Mk hk es f hf;have hc:=Mk.vN (w:=w) hk false;rcases e2 with⟨rfl,e2⟩|⟨i,hi,e2,rfl⟩
 ·refine .inr ⟨e2,?_⟩;simp only[Instr.mapUpdate,Sem.run_bind,run_underlying ht,Result.andThen_ok,MapKept.run_getObj_map hh,hc,e1];exact MapKept.run_setObj_map _ hh
 ·refine .inl ⟨i,hi,e2,?_⟩
  have qL:(Instr.keyThatStays (((es[i]?).map (·.key)).getD (kV agg sh k)) (kV agg sh k)).run P w=.ok (kV agg sh k) w:=by
   have:((es[i]?).map (·.key)).getD (kV agg sh k)=kV agg sh k:=by
    rw[Array.getElem?_eq_getElem hi];show es[i].key=_;rw[(hf i hi).2,e2]
   rw[this];unfold Instr.keyThatStays;rw[if_pos (zF hk Mk.Vl)];rfl
  simp only[Instr.mapUpdate,Sem.run_bind,run_underlying ht,Result.andThen_ok,MapKept.run_getObj_map hh,hc,e1,qL];exact MapKept.run_setObj_map _ hh

theorem nr(aJ:bo P tt)(hs:aF c s m a w ids){t:TypeId}{X Y Z:Operand}(ho:o.op=.mapUpdate t X Y Z\/o.op=.insert t X Y Z){K:KT}(h:JB tt t (ev s X) (ev s Y) (ev s Z) m K)(hn:bZ c s o K next):o.wp P a w next Q:=by
 have e:execOp a.eval o=(do Instr.mapUpdate t (a.eval X) (a.eval Y) (a.eval Z);pure .skip):=by
  obtain⟨dst,op,ty,pos,after,guard⟩:=o;simp only at ho;rcases ho with ho|ho<;>subst ho<;>rfl
 unfold JB at h;obtain⟨kt,et,agg,sh,z,zv,h1,h2,_,_,h⟩:=jY aJ h (au c ids w) w;split at h
 ·rename_i k b hk E6 aU;have hx:=hs.ev X;rw[E6] at hx;obtain⟨g1,g2⟩:=zD hk (hs.ev Y);have hv:=cm 4 _ _ aU (hs.ev Z);split at h
  ·rename_i iX tA has val DJ;split at h
   ·rename_i lZ j8;have lZ:=np lZ;have j8:=jW j8;subst lZ;subst j8;rw[dX,eC] at h;obtain⟨p,h5,h6⟩:=hs.Dr hx (by rw[DJ];simp);obtain⟨x,lq,kX⟩:=hs.dU h5;rw[bf lq] at DJ;subst DJ;obtain⟨es,clock,f,q1,q2,q3,q4,q5,q6,q7⟩:=kX;rcases Ml h1 h2 g1 q1 (fun i hi=>⟨(q2 i hi).1,(q2 i hi).2.1⟩) (a.eval Z) with⟨i,hi,e1,e2⟩|⟨e1,e2⟩
    ·refine gB (by rw[e,h6,g2];simp only[Sem.run_bind,e2,Result.andThen_ok];rfl) (hn _ _ _ _ ids h (aF.jS (hs.setObj b p h5 _ _ ?_) _ _));intro w' iA Jo;refine⟨_,clock,f,iA,?_,?_,?_,?_,?_,?_⟩
     ·intro j hj;have bW:j<es.size:=by simpa using hj
      rw[Array.getElem_modify];split
      ·rename_i kU;subst kU;exact⟨(q2 i bW).1,by rw[e1],by simp[mY,e1]⟩
      ·exact⟨(q2 j bW).1,(q2 j bW).2.1,by
        unfold mY;split
        ·rfl
        ·exact(q2 j bW).2.2⟩
     ·intro i j g3 g4;exact q3 i j (by simpa using g3) (by simpa using g4)
     ·intro k' g3 g4;unfold mY at g4;split at g4
      ·rename_i he;subst he;exact⟨i,by simpa using hi,e1⟩
      ·obtain⟨j,hj,bW⟩:=q4 k' g3 g4;exact⟨j,by simpa using hj,bW⟩
     ·intro j hj;have bW:j<es.size:=by simpa using hj
      rw[Array.getElem_modify];split
      ·rename_i kU;subst kU;unfold pd;rw[if_pos e1];exact Jo _ _ hv
      ·rename_i kU;unfold pd;rw[if_neg (fun he=>kU (q3 i j hi bW (by rw[e1,he])))];exact Jo _ _ (q5 j bW)
     ·intro j hj;have bW:j<es.size:=by simpa using hj
      rw[Array.getElem_modify];split
      ·exact q6 j bW
      ·exact q6 j bW
     ·intro j j' hj bW he;have h1:j<es.size:=by simpa using hj
      have h2:j'<es.size:=by simpa using bW
      refine q7 j j' h1 h2 ?_;rw[Array.getElem_modify,Array.getElem_modify] at he;split at he<;>split at he<;>exact he
    ·refine gB (by rw[e,h6,g2];simp only[Sem.run_bind,e2,Result.andThen_ok];rfl) (hn _ _ _ _ ids h (aF.jS (hs.setObj b p h5 _ _ ?_) _ _));intro w' iA Jo;obtain⟨F,F1,F2⟩:∃F:Nat->List KC,F es.size=k/\∀j,j<es.size->F j=f j:=⟨fun j=>if j=es.size then k else f j,by simp,fun j h=>by simp[Nat.ne_of_lt h]⟩;refine⟨_,clock+1,F,iA,?_,?_,?_,?_,?_,?_⟩
     ·intro j hj;have bW:j<es.size+1:=by simpa using hj
      rw[Array.getElem_push];split
      ·rename_i aI;rw[F2 j aI]
       exact⟨(q2 j aI).1,(q2 j aI).2.1,by
        unfold mY;split
        ·rfl
        ·exact(q2 j aI).2.2⟩
      ·rename_i aI;have:j=es.size:=by omega
       rw[this,F1];exact⟨g1,rfl,by simp[mY]⟩
     ·intro i j g3 g4 g5;have g3:i<es.size+1:=by simpa using g3
      have g4:j<es.size+1:=by simpa using g4
      by_cases hi:i<es.size<;>by_cases hj:j<es.size
      ·rw[F2 i hi,F2 j hj] at g5;exact q3 i j hi hj g5
      ·have:j=es.size:=by omega
       rw[this,F1,F2 i hi] at g5;exact absurd g5 (e1 i hi)
      ·have:i=es.size:=by omega
       rw[this,F1,F2 j hj] at g5;exact absurd g5.symm (e1 j hj)
      ·omega
     ·intro k' g3 g4;unfold mY at g4;split at g4
      ·rename_i he;subst he;exact⟨es.size,by simp,F1⟩
      ·obtain⟨j,hj,bW⟩:=q4 k' g3 g4;exact⟨j,by simp;omega,by rw[F2 j hj];exact bW⟩
     ·intro j hj;have bW:j<es.size+1:=by simpa using hj
      rw[Array.getElem_push];split
      ·rename_i aI;rw[F2 j aI];unfold pd;rw[if_neg (e1 j aI)];exact Jo _ _ (q5 j aI)
      ·rename_i aI;have:j=es.size:=by omega
       rw[this,F1];unfold pd;rw[if_pos rfl];exact Jo _ _ hv
     ·intro j hj;rw[Array.getElem_push];split
      ·rename_i aI;exact Nat.lt_succ_of_lt (q6 j aI)
      ·exact Nat.lt_succ_self _
     ·intro j j' hj bW he;have h1:j<es.size+1:=by simpa using hj
      have h2:j'<es.size+1:=by simpa using bW
      rw[Array.getElem_push,Array.getElem_push] at he;split at he<;>split at he
      ·rename_i a b;exact q7 j j' a b he
      ·rename_i a b;have:=q6 j a;simp only at he;omega
      ·rename_i a b;have:=q6 j' b;simp only at he;omega
      ·omega
   ·exact h.elim
  ·exact h.elim
 ·exact h.elim

theorem w3(aJ:bo P tt)(hs:aF c s m a w ids){t:TypeId}(ho:o.op=.makeMap t none){K:KT}(h:BP tt t m K)(hn:bZ c s o K next):o.wp P a w next Q:=by
 have e:execOp a.eval o=(do pure (.value (<-Instr.makeMap t none))):=by
  obtain⟨dst,op,ty,pos,after,guard⟩:=o;simp only at ho;subst ho;rfl
 unfold BP at h;obtain⟨kt,et,agg,sh,z,zv,h1,h2,_,_,h⟩:=jY aJ h (au c ids w) w;rw[eQ] at h;have hb:=je w (.map #[] 0)
 have lh:(w.alloc (.map #[] 0)).heap[w.heap.size]?=some (.map #[] 0):=by
  show(w.heap.push _)[w.heap.size]?=_;simp
 have bH:=hs.grow hb [.ez agg sh (fun _=>false) (fun _=>.ae)] [.lv (mkId w.heap.size 0 0 0)] rfl (fun i g1 g2=>by
   have:i=0:=by simp at g1;omega
   subst this;exact⟨#[],0,fun _=>[],lh,(fun i h=>by simp at h),(fun i j h=>by simp at h),(fun k _ h=>by simp at h),(fun i h=>by simp at h),(fun i h=>by simp at h),(fun i j h=>by simp at h)⟩)
  (fun p hp x hx=>by
   simp at hp;subst hp;rw[cg hx];refine⟨Nat.le_refl _,?_⟩;show _<(w.heap.push _).size;simp) (fun vs h=>by simp at h) (fun i j p q x g1 g2 _ _=>by
   cases i with
   | zero=>cases j with
    | zero=>rfl
    | succ j=>simp at g2
   | succ i=>simp at g1)
 refine aQ (v:=.map (some w.heap.size)) (w':=w.alloc (.map #[] 0)) (by rw[e];simp only[Sem.run_bind,RowKit.run_makeMap,Result.andThen_ok];rfl) (hn _ _ _ _ _ h (bH.aZ o.dst (.omap m.length (mkId w.heap.size 0 0 0) ?_)));rw[<-hs.aK];simp
end
def qM{α:Type}(n:Nat)(f g:Nat->α):Nat->α:=fun i=>match Nat.blt i n with
 | true=>f i
 | false=>g (i-n)
theorem kr{α:Type}{n i:Nat}(f g:Nat->α)(h:i<n):qM n f g i=f i:=by
 unfold qM;rw[show Nat.blt i n=true from Nat.ble_eq_true_of_le h]
theorem ku{α:Type}{n i:Nat}(f g:Nat->α)(h:n<=i):qM n f g i=g (i-n):=by
 unfold qM;split
 ·rename_i h';have:i<n:=Nat.le_of_ble_eq_true h';omega
 ·rfl
def w4(tt:TT)(t:TypeId)(b':Nat)(s:List A)(m:List aq)(K:List A->A->List aq->Prop):Prop :=
 match tt.lookup t,m.getD b' .dead with
 | some ti,.row aM sz n' dr=>match ti.kind,Nat.beq ti.br 1 with
  | 3,true=>dj ti.aM fun ty=>pn m b' .gone fun m1=>kZ m1 (.nest ty aM sz 1 none (fun _=>n') (fun _=>dr)) fun b m'=>K s (.own b) m'
  | _,_=>False
 | _,_=>False
def JE(tt:TT)(t:TypeId)(b b2:Nat)(ty aM sz n:Nat)(len:Nat->Nat)(row:Nat->Nat->List A)(QG BR P3 n2:Nat)(BS:Nat->Nat)(iy:Nat->Nat->List A)(s:List A)(m:List aq)(K:List A->A->List aq->Prop):Prop :=
 match tt.lookup t with
 | none=>False
 | some ti=>match ti.kind,Nat.beq ti.br 1,Nat.beq ty ti.aM,Nat.beq QG ty,Nat.beq BR aM,Nat.beq P3 sz,Nat.beq b b2,n2 with
  | 3,true,true,true,true,true,false,k+1=>dj ti.dS fun eb=>(n+(k+1)<=140737488355328/\(n+(k+1))*eb<=140737488355328) /\
   fd.pv 4 (s.map (tW b 4)) fun s'=>pz (((m.map (zl b 4)).set b (.nest ty aM sz (n+(k+1)) none (qM n len BS) (qM n row iy))).set b2 .gone) fun m'=>K s' (.own b) m'
  | _,_,_,_,_,_,_,_=>False

def JF(tt:TT)(t:TypeId)(n:Nat)(s:List A)(m:List aq)(K:List A->A->List aq->Prop):Prop :=
 match tt.lookup t with
 | none=>False
 | some ti=>match ti.kind with
  | 3=>K s (.int .i64 n) m
  | _=>False
section
variable {c:Ctx} {s:List A} {m:List aq} {a:Act} {w w':World} {ids ab:dp} {P:Program} {im bl:Nat->Prop} {tt:TT} {G:aG}
variable {next:Act->World->Prop} {Q:Exit->Act->World->Prop} {o:Oper}

theorem uq(aJ:bo P tt)(hs:aF c s m a w ids){t:TypeId}{X:Operand}{b':Nat}(ho:o.op=.buildSlice t 1 #[(0,X)])(hX:ev s X=.own b')
  {K:List A->A->List aq->Prop} (h:w4 tt t b' s m K)
  (hn:∀s1 v m' a' w' ab,K s1 v m'->aF c (aZ s1 o.dst v) m' a' w' ab->next a' w'):o.wp P a w next Q:=by
 have hx:=hs.ev X;rw[hX] at hx;unfold w4 at h;split at h
 ·rename_i ti aM sz n' dr iQ gj;split at h
  ·rename_i hk he;have ng:ti.br=1:=Nat.eq_of_beq_eq_true he;rw[aN,eC,eQ] at h;obtain⟨i0,d,z0,_,hd,_,_,_,_,_,_,_,_,_,iU,_⟩:=aJ.facts iQ;obtain⟨ie,ze,gZ,iw,bM,Al,hz,oG,hne⟩:=iU hk;subst gZ;obtain⟨zp,Jo⟩:=getD_some (by simp) gj;have nj:b'<ids.length:=by rw[hs.aK];exact zp
   obtain⟨o1,o2⟩:=oe (by rfl) hx
   have bR:(Instr.buildSlice t 1 #[(0,a.eval X)]).run P w=.ok (.slice (some ⟨w.heap.size,0,none⟩) 1 1) (w.alloc (.cells #[a.eval X] ti.aM)):=by
    simp[Instr.buildSlice,underlying,hd,sizeOf,typeInfo,iw,bM,ng,zeroValue,hz,Instr.fill,newRow,o2,show Array.range 1 = #[0] from rfl]
   obtain⟨v,hv⟩:∃v,a.eval X=v:=⟨_,rfl⟩;rw[hv] at bR hx;obtain⟨w',iA⟩:∃w',w.alloc (.cells #[v] ti.aM)=w':=⟨_,rfl⟩;rw[iA] at bR;have Jb:w'.heap.size=w.heap.size+1:=by rw[<-iA];simp
   have lh:w'.heap[w.heap.size]?=some (.cells #[v] ti.aM (0,0)):=by rw[<-iA];exact heap_alloc_new w _
   have hold:∀k,k<w.heap.size->w'.heap[k]?=w.heap[k]?:=fun k hk=>by rw[<-iA];exact Below.heap_alloc w _ k hk
   -- the inner DE name
   have zq:∃x:Option Nat,(∀y,x=some y->∃q,ids[b']?=some (.lv q)/\q.ao=y) /\
     (∀im w',(∀y,x=some y->w'.heap[y]?=w.heap[y]?)->(∀u v,aw (au c ids w) w u v->aw im w' u v)->mO im w' aM sz n' dr v x):=by
    rcases mA hs hx gj with⟨e1,e2,e3⟩|⟨q,cap,e1,e2,e3,e4,e5,e6⟩
    ·exact⟨none,(fun y h=>by cases h),fun _ _ _ _=>.inl ⟨e2,e1,rfl⟩⟩
    ·have FT:=hs.bu b' zp nj;rw[List.getElem?_eq_getElem nj] at e1;rw[Jo,Option.some.inj e1] at FT;obtain⟨q1,q2,us,q3,q4,q5,q6,q7⟩:=FT;refine⟨some q.ao,(fun y h=>by cases h;exact⟨q,by rw[List.getElem?_eq_getElem nj];exact e1,rfl⟩),fun im w' hk hm=>.inr ⟨q.ao,cap,us,e6,rfl,by rw[hk _ rfl];exact q3,by rw[q4,e3],e2.1,e2.2,q6,fun i' j cr h h'=>⟨hm _ _ (q7 i' j cr h h').1,(q7 i' j cr h h').2⟩⟩⟩
   obtain⟨x,u7,SC⟩:=zq
   have P4:∀y,x=some y->y<w.heap.size:=fun y hy=>by
    obtain⟨q,q1,q2⟩:=u7 y hy;exact(hs.ar q (List.mem_of_getElem? q1) y (.inl q2.symm)).2
   let p':Id:=⟨w.heap.size,1,1,1,fun y=>x=some y,fun _=>none⟩
   let ab:=ids.set b' .av++[.lv p']
   have L0:ab.length=ids.length+1:=by simp[ab]
   have bD:∀k,k<ids.length->k≠b'->ab[k]?=ids[k]?:=by
    intro k hk hne;simp only[ab];rw[List.getElem?_append_left (by simpa using hk),List.getElem?_set_ne (fun e=>hne e.symm)]
   have ig:ab[b']?=some .av:=by
    simp only[ab];rw[List.getElem?_append_left (by simpa using nj),List.getElem?_set_self nj]
   have jh:ab[ids.length]?=some (.lv p'):=by
    simp only[ab];rw[List.getElem?_append_right (by simp)];simp
   have aY:∀(k:Nat) (r:Id),ab[k]?=some (.lv r)->(k=ids.length/\r=p')\/(k≠b'/\k<ids.length/\ids[k]?=some (.lv r)):=by
    intro k r h;by_cases pB:k=b'
    ·subst pB;rw[ig] at h;cases h
    ·rcases Nat.lt_trichotomy k ids.length with hk|hk|hk
     ·rw[bD k hk pB] at h;exact .inr ⟨pB,hk,h⟩
     ·subst hk;rw[jh] at h;cases h;exact .inl ⟨rfl,rfl⟩
     ·rw[List.getElem?_eq_none (by omega)] at h;cases h
   have aU:∀r,dH.lv r∈ab->∀y,r.has y->y<w'.heap.size/\(w.heap.size<=y\/∃(b:Nat) (p:Id),ids[b]?=some (.lv p)/\p.has y):=by
    intro r hr y hy;rw[Jb];obtain⟨k,hk⟩:=List.getElem?_of_mem hr;rcases aY k r hk with⟨_,rfl⟩|⟨_,_,e⟩
    ·rcases hy with h|h
     ·have h:y=w.heap.size:=h;exact⟨by omega,.inl (by omega)⟩
     ·obtain⟨q,q1,q2⟩:=u7 y h;have hq:q.has y:=.inl q2.symm;have:=P4 y h;exact⟨by omega,.inr ⟨b',q,q1,hq⟩⟩
    ·have:=(hs.ar r (List.mem_of_getElem? e) y hy).2;exact⟨by omega,.inr ⟨k,r,e,hy⟩⟩
   obtain⟨dt,dI⟩:=hs.cI (w':=w') (ab:=ab) (by omega) (fun k hk _=>hold k hk) aU
   have hd:∀(k:Nat) r,k≠b'->ids[k]?=some r->r≠.dead->∃q,ab[k]?=some q/\iq r q:=by
    intro k r hk hr _
    have aI:k<ids.length:=by
     rcases Nat.lt_or_ge k ids.length with h'|h'
     ·exact h'
     ·rw[List.getElem?_eq_none h'] at hr;cases hr
    exact⟨r,by rw[bD k aI hk];exact hr,eE r⟩
   have la:∀u v,aw (au c ids w) w u v->aw (au c ab w') w' u v:=fun u v h=>h.mono dt dI
   have hS:aF c s (m.set b' .gone++[.nest ti.aM aM sz 1 none (fun _=>n') (fun _=>dr)]) a w' ab:=by
    refine hs.ln (by rw[<-iA];rfl) (by rw[<-iA];rfl) (by rw[<-iA];rfl) (by omega) (fun k hk _=>hold k hk) aU (fun vs h=>by
     simp only[ab] at h;rcases List.mem_append.1 h with h|h
     ·rcases List.mem_or_eq_of_mem_set h with h|h
      ·exact h
      ·cases h
     ·simp at h) ?_ rfl (by simp[ab,hs.aK]) (fun k h h'=>(hs.bE k h h').fh dt dI hd ig) ?_ (.of (by rw[<-iA];exact Nat.le_refl _))
    ·intro k k' r r' y e1 e2 x1 x2;rcases aY k r e1 with⟨rfl,rfl⟩|⟨ne,aI,e⟩<;>rcases aY k' r' e2 with⟨rfl,rfl⟩|⟨ne',Yu,e'⟩
     ·rfl
     ·exfalso;have hy:=(hs.ar r' (List.mem_of_getElem? e') y x2).2;rcases x1 with h|h
      ·have h:y=w.heap.size:=h;omega
      ·obtain⟨q,q1,q2⟩:=u7 y h;exact ne' (hs.ah _ _ r' q y e' q1 x2 (.inl q2.symm))
     ·exfalso;have hy:=(hs.ar r (List.mem_of_getElem? e) y x1).2;rcases x2 with h|h
      ·have h:y=w.heap.size:=h;omega
      ·obtain⟨q,q1,q2⟩:=u7 y h;exact ne (hs.ah _ _ r q y e q1 x1 (.inl q2.symm))
     ·exact hs.ah k k' r r' y e e' x1 x2
    ·intro k hk gn;have gp:ab[k]?=some ab[k]:=List.getElem?_eq_getElem gn;simp only[List.length_append,List.length_set,List.length_singleton] at hk;rcases Nat.lt_or_ge k m.length with oJ|oJ
     ·rw[List.getElem_append_left (by simpa using oJ),List.getElem_set];split
      ·rename_i he;subst he;rw[ig] at gp;rw[<-Option.some.inj gp];exact rfl
      ·rename_i he;have oo:k<ids.length:=by rw[hs.aK];exact oJ
       rw[bD k oo (fun e=>he e.symm),List.getElem?_eq_getElem oo] at gp;rw[<-Option.some.inj gp];refine(hs.bu k oJ oo).fh dt dI hd ig (fun q hq y hy=>hold y ?_);exact(hs.ar q (by rw[<-hq];exact List.getElem_mem _) y hy).2
     ·have A3:k=ids.length:=by rw[hs.aK];omega
      have e2:ab[k]?=some (.lv p'):=by rw[show k=ids.length from A3];exact jh
      have gp:dH.lv p'=ab[k]:=Option.some.inj (e2.symm.trans gp);rw[<-gp,List.getElem_append_right (by simpa using oJ)];simp only[List.length_set,show k-m.length=0 by omega,List.getElem_cons_zero];refine⟨rfl,rfl,?_,#[v],lh,rfl,Nat.le_refl _,fun _=>x,?_⟩
      ·intro h;have h:x=some w.heap.size:=h;have:=P4 _ h;omega
      ·intro i hi _ Et;have Wt:i=0:=by omega
       subst Wt;refine⟨SC _ _ (fun y hy=>hold y (P4 y hy)) la,fun y hy=>hy,fun j hj _ _ _=>by omega⟩
   refine aQ (v:=.slice (some ⟨w.heap.size,0,none⟩) 1 1) (w':=w') ?_ (hn s _ _ _ _ ab h (hS.aZ o.dst ?_))
   ·unfold execOp;rw[ho];simp[hv,bR]
   ·have bQ:ab[(m.set b' .gone).length]?=some (.lv p'):=by rw[List.length_set,<-hs.aK];exact jh
    exact .own _ 1 p' bQ ⟨Nat.le_refl _,by simp[maxLen]⟩ rfl
  ·exact h.elim
 ·exact h.elim

theorem mO.one{aM:TypeId}{sz n:Nat}{row:Nat->List A}{v:Value}{x:Option Nat}(h:mO im w aM sz n row v x):v.oneCell'=true:=by
 rcases h with⟨rfl,_⟩|⟨q,cap,vs,rfl,_⟩<;>rfl
/-- What a nest's block holds. -/
theorem vd(hs:aF c s m a w ids){b:Nat}{v:Value}(hx:Rel ids (au c ids w) w (.own b) v){ty aM:TypeId}{sz n:Nat}{len:Nat->Nat}{row:Nat->Nat->List A}(hb:m.getD b .dead=.nest ty aM sz n none len row):
  ∃(xs:List Value) (kx:Nat->Option Nat),xs.length=n/\(∀i (hi:i<xs.length),mO (au c ids w) w aM sz (len i) (row i) xs[i] (kx i)) /\
   (∀i,i<n->∀y,kx i=some y->∃p,ids[b]?=some (.lv p)/\p.y8 y)/\(∀p,ids[b]?=some (.lv p)->¬p.y8 p.ao)/\(∀i j,i<n->j<n->kx j=kx i->kx i≠none->j=i) /\
   ((v=.slice none 0 0/\n=0/\xs=[])\/∃p cap cur,ids[b]?=some (.lv p)/\v=.slice (some ⟨p.ao,0,none⟩) n cap/\w.heap[p.ao]?=some (.cells cur ty (0,0))/\n<=cap/\cap<=maxLen/\cur.size=cap/\cur.toList.take n=xs):=by
 obtain⟨kH,hm⟩:=getD_some (by simp) hb;have eD:b<ids.length:=by rw[hs.aK];exact kH
 have hB:=hs.bu b kH eD;rw[hm] at hB;rcases hs.fk hx (by rw[hb];simp) with⟨h1,h2⟩|⟨p,cap,h1,h2,h3,h4⟩
 ·have:ids[b]=.aP:=by rw[List.getElem?_eq_getElem eD] at h1;exact Option.some.inj h1
  rw[this] at hB;have hB:n=0:=hB;subst hB;exact⟨[],fun _=>none,rfl,fun i hi=>by simp at hi,fun i hi=>by omega,(fun p hp=>by rw[h1] at hp;cases hp),fun i j hi=>by omega,.inl ⟨h2,rfl,rfl⟩⟩
 ·have:ids[b]=.lv p:=by rw[List.getElem?_eq_getElem eD] at h1;exact Option.some.inj h1
  rw[this] at hB;obtain⟨g1,g2,g3,vs,e1,e2,e3,kb,e4⟩:=hB;have hl:(vs.toList.take n).length=n:=by rw[List.length_take,Array.length_toList];omega
  refine⟨vs.toList.take n,kb,hl,fun i hi=>?_,fun i hi y hy=>⟨p,h1,(e4 i hi (by simp) (by omega)).2.1 y hy⟩,(fun p' hp=>by rw[h1] at hp;cases hp;exact g3),
   fun i j hi hj h1 h2=>(e4 i hi (by simp) (by omega)).2.2 j hj (by simp) h1 h2,.inr ⟨p,cap,vs,h1,by rw[h4,g2],e1,by omega,h2.2,by rw[e2,<-h3,g1];omega,rfl⟩⟩
  have cr:i<n:=by omega
  have:=(e4 i cr (by simp) (by omega)).1;simpa using this

theorem zG(aJ:bo P tt)(hs:aF c s m a w ids){t:TypeId}{X Y:Operand}{b b2:Nat}(ho:o.op=.call { callee:=.builtin .append,args:=#[X,Y],argTypes:=#[t,t] })(hX:ev s X=.own b)(hY:ev s Y=.own b2)
  {ty aM:TypeId} {sz n:Nat} {len:Nat->Nat} {row:Nat->Nat->List A} {QG BR:TypeId} {P3 n2:Nat} {BS:Nat->Nat} {iy:Nat->Nat->List A}
  (hb:m.getD b .dead=.nest ty aM sz n none len row) (j8:m.getD b2 .dead=.nest QG BR P3 n2 none BS iy)
  {K:List A->A->List aq->Prop} (h:JE tt t b b2 ty aM sz n len row QG BR P3 n2 BS iy s m K)
  (hn:∀s1 v m' a' w' ab,K s1 v m'->aF c (aZ s1 o.dst v) m' a' w' ab->next a' w'):o.wp P a w next Q:=by
 have hx:=hs.ev X;have hy:=hs.ev Y;rw[hX] at hx;rw[hY] at hy
 have e:(execOp a.eval o)=(do pure (.value (<-Builtin.append_ #[t,t] o.type #[a.eval X,a.eval Y]))):=by
  obtain⟨dst,op,ty,pos,after,guard⟩:=o;simp only at ho;subst ho;simp[execOp,resolve,invoke,builtin]
 unfold JE at h;split at h
 ·exact h.elim
 ·rename_i ti iQ;split at h
  ·rename_i k hk he q1 q2 q3 q4 q5;have ng:ti.br=1:=Nat.eq_of_beq_eq_true he;obtain rfl:=Nat.eq_of_beq_eq_true q1;obtain rfl:=Nat.eq_of_beq_eq_true q2;obtain rfl:=Nat.eq_of_beq_eq_true q3;obtain rfl:=Nat.eq_of_beq_eq_true q4;have hne:b≠b2:=fun e=>by subst e;rw[Nat.beq_refl] at q5;cases q5
   rw[aN] at h;obtain⟨⟨Ay,qS⟩,h⟩:=h;rw[cD,dF] at h;obtain⟨i0,d,z0,_,hd,_,_,_,_,_,_,_,_,_,iU,_⟩:=aJ.facts iQ;obtain⟨ie,ze,gZ,iw,bM,Al,hz,oG,Yv⟩:=iU hk;subst gZ;have Fb:ze.cells.size=ie.size:=by rw[oG,bM]
   have qR:ie.size=1:=by rw[bM,ng]
   obtain⟨kH,hm⟩:=getD_some (by simp) hb;have eD:b<ids.length:=by rw[hs.aK];exact kH
   obtain⟨Vm,pQ⟩:=getD_some (by simp) j8;have Vn:b2<ids.length:=by rw[hs.aK];exact Vm
   obtain⟨xs,kx,x1,x2,x3,x4,x5,x6⟩:=vd hs hx hb;obtain⟨ys,ky,y1,y2,y3,y4,y5,y6⟩:=vd hs hy j8
   obtain⟨q,PY,Vo,r1,r2,r3,r4,r5,r6,r7⟩:∃p cap cur,ids[b2]?=some (.lv p)/\a.eval Y=.slice (some ⟨p.ao,0,none⟩) (k+1) cap/\w.heap[p.ao]?=some (.cells cur ti.aM (0,0))/\k+1<=cap/\cap<=maxLen/\cur.size=cap/\cur.toList.take (k+1)=ys:=by
    rcases y6 with⟨_,h,_⟩|h
    ·omega
    ·exact h
   have PH:(a.eval Y=.slice none 0 0/\k+1=0/\ys=[])\/∃ad cp,a.eval Y=.slice (some ad) (k+1) cp/\ys.length=(k+1)*ie.size/\(∀j u,ys[j]?=some u->w.cell? (ad.add j)=some u):=by
    refine .inr ⟨⟨q.ao,0,none⟩,PY,r2,by rw[qR,y1];omega,fun j u hu=>?_⟩;have Ja:(⟨q.ao,0,none⟩:Addr).add j=⟨q.ao,j,none⟩:=by unfold Addr.add;split<;>simp_all
    rw[Ja,cell_of_row w q.ao j Vo ti.aM (0,0) r3];rw[<-r7,List.getElem?_take] at hu;split at hu
    ·simpa using hu
    ·cases hu
   have LZ:(a.eval X=.slice none 0 0/\n=0/\xs=[])\/∃g cap cur,a.eval X=.slice (some ⟨g,0,none⟩) n cap/\w.heap[g]?=some (.cells cur ti.aM (0,0))/\n<=cap/\cap<=maxLen/\cur.size=cap*ie.size/\cur.toList.take (n*ie.size)=xs:=by
    rcases x6 with h|⟨p,cap,cur,e1,e2,e3,e4,e5,e6,e7⟩
    ·exact .inl h
    ·exact .inr ⟨p.ao,cap,cur,e2,e3,e4,e5,by rw[qR,e6];omega,by rw[qR,Nat.mul_one];exact e7⟩
   have DL:(a.eval X).ownBlock=none\/∃p,ids[b]?=some (.lv p)/\(a.eval X).ownBlock=some p.ao:=by
    rcases x6 with⟨h,_⟩|⟨p,cap,cur,e1,e2,_⟩
    ·exact .inl (by rw[h];rfl)
    ·exact .inr ⟨p,e1,by rw[e2];rfl⟩
   obtain⟨v',w',bR,o1,o2,o3,o4,o5,L',o6⟩:=kJ (P:=P) (w:=w) t o.type ti.aM ie ze hd iw hz Fb (a.eval X) n xs LZ (a.eval Y) (k+1) ys PH
    (fun u hu=>by obtain⟨i,hi,rfl⟩:=List.getElem_of_mem hu;exact(y2 i hi).one) Ay (by rw[Al];exact qS)
   rcases o6 with⟨_,ZH⟩|⟨g,cap,cur,rfl,g1,g2,g3,g4,g5,g6,g7⟩
   ·omega
   rw[qR] at g4 g5;rw[Nat.mul_one] at g4 g5
   have hblk:∀k,k<w.heap.size->(∀p,ids[b]?=some (.lv p)->p.ao≠k)->w'.heap[k]?=w.heap[k]?:=by
    intro k hk hp;refine o5 k hk (fun e=>?_);rcases DL with h|⟨p,h1,h2⟩
    ·rw[h] at e;cases e
    ·rw[h2] at e;exact hp p h1 (Option.some.inj e)
   have eU:∀k,k<w.heap.size->(∀(b:Nat) (p:Id),ids[b]?=some (.lv p)->¬p.has k)->w'.heap[k]?=w.heap[k]?:=fun k hk hp=>hblk k hk (fun p h1 h2=>hp b p h1 (.inl h2.symm))
   let p':Id:=⟨g,cur.size,n+(k+1),1,fun y=>(∃i,i<n/\kx i=some y)\/∃i,i<k+1/\ky i=some y,fun _=>none⟩
   let ab:=(ids.set b (.lv p')).set b2 .av
   have bD:∀k,k≠b->k≠b2->ab[k]?=ids[k]?:=by
    intro k h1 h2;simp only[ab];rw[List.getElem?_set_ne (fun e=>h2 e.symm),List.getElem?_set_ne (fun e=>h1 e.symm)]
   have dG:ab[b]?=some (.lv p'):=by
    simp only[ab];rw[List.getElem?_set_ne (fun e=>hne e.symm),List.getElem?_set_self eD]
   have w5:ab[b2]?=some .av:=by
    simp only[ab];rw[List.getElem?_set_self (by simpa using Vn)]
   have aY:∀(k:Nat) (r:Id),ab[k]?=some (.lv r)->(k=b/\r=p')\/(k≠b/\k≠b2/\ids[k]?=some (.lv r)):=by
    intro k r h;by_cases pB:k=b
    ·subst pB;rw[dG] at h;cases h;exact .inl ⟨rfl,rfl⟩
    ·by_cases tr:k=b2
     ·subst tr;rw[w5] at h;cases h
     ·rw[bD k pB tr] at h;exact .inr ⟨pB,tr,h⟩
   -- WT a block of the new nest ZI
   have SQ:∀y,p'.has y->(w.heap.size<=y/\y=g)\/∃(b':Nat) (p:Id),(b'=b\/b'=b2)/\ids[b']?=some (.lv p)/\p.has y:=by
    rintro y (h|⟨i,hi,h⟩|⟨i,hi,h⟩)
    ·have h:y=g:=h;rcases g7 with h'|h'
     ·exact .inl ⟨by omega,h⟩
     ·rcases DL with h1|⟨p,h1,h2⟩
      ·rw[h1] at h';cases h'
      ·rw[h2] at h';exact .inr ⟨b,p,.inl rfl,h1,.inl (by rw[h];exact(Option.some.inj h').symm)⟩
    ·obtain⟨p,h1,h2⟩:=x3 i hi y h;exact .inr ⟨b,p,.inl rfl,h1,.inr h2⟩
    ·obtain⟨p,h1,h2⟩:=y3 i hi y h;exact .inr ⟨b2,p,.inr rfl,h1,.inr h2⟩
   have aU:∀r,dH.lv r∈ab->∀y,r.has y->y<w'.heap.size/\(w.heap.size<=y\/∃(b:Nat) (p:Id),ids[b]?=some (.lv p)/\p.has y):=by
    intro r hr y hy;obtain⟨k,hk⟩:=List.getElem?_of_mem hr;rcases aY k r hk with⟨_,rfl⟩|⟨_,_,e⟩
    ·rcases SQ y hy with⟨h1,h2⟩|⟨b',p,_,h1,h2⟩
     ·exact⟨by omega,.inl h1⟩
     ·exact⟨Nat.lt_of_lt_of_le (hs.ar p (List.mem_of_getElem? h1) y h2).2 o4,.inr ⟨b',p,h1,h2⟩⟩
    ·exact⟨Nat.lt_of_lt_of_le (hs.ar r (List.mem_of_getElem? e) y hy).2 o4,.inr ⟨k,r,e,hy⟩⟩
   obtain⟨dt,dI⟩:=hs.cI (w':=w') (ab:=ab) o4 eU aU
   -- first the names of b ZJ Vp, then b2 is gone
   have WU:∀(b':Nat) p,b'≠b->ids[b']?=some p->p≠.dead->∃q,(ids.set b .dead)[b']?=some q/\iq p q:=by
    intro b' p gj hp _;exact⟨p,by rw[List.getElem?_set_ne (fun e=>gj e.symm)];exact hp,eE p⟩
   have WV:∀(b':Nat) p,b'≠b2->(ids.set b .dead)[b']?=some p->p≠.dead->∃q,ab[b']?=some q/\iq p q:=by
    intro b' p gj hp Ns;by_cases rf:b'=b
    ·subst rf;rw[List.getElem?_set_self eD] at hp;cases hp;exact absurd rfl Ns
    ·rw[List.getElem?_set_ne (fun e=>rf e.symm)] at hp;exact⟨p,by rw[bD b' rf gj];exact hp,eE p⟩
   have la:∀u v,aw (au c ids w) w u v->aw (au c ab w') w' u v:=fun u v h=>h.mono dt dI
   have Yw:∀i,i<n->∀y,kx i=some y->w'.heap[y]?=w.heap[y]?:=by
    intro i hi y hy;obtain⟨p,h1,h2⟩:=x3 i hi y hy;refine hblk y (hs.ar p (List.mem_of_getElem? h1) y (.inr h2)).2 (fun p0 h0 e0=>?_);rw[h1] at h0;cases h0;exact x4 p h1 (by rw[e0];exact h2)
   have Yx:∀i,i<k+1->∀y,ky i=some y->w'.heap[y]?=w.heap[y]?:=by
    intro i hi y hy;obtain⟨p,h1,h2⟩:=y3 i hi y hy;refine hblk y (hs.ar p (List.mem_of_getElem? h1) y (.inr h2)).2 (fun p0 h0 e0=>?_);exact hne (hs.ah b b2 p0 p y h0 h1 (.inl e0.symm) (.inr h2))
   have hS:aF c (s.map (tW b 4)) (((m.map (zl b 4)).set b (.nest ti.aM BR P3 (n+(k+1)) none (qM n len BS) (qM n row iy))).set b2 .gone) a w' ab:=by
    refine hs.ln o1 o2 o3 o4 eU aU (fun vs h=>by
     simp only[ab] at h;rcases List.mem_or_eq_of_mem_set h with h|h
     ·rcases List.mem_or_eq_of_mem_set h with h|h
      ·exact h
      ·cases h
     ·cases h) ?_ (by simp) (by simp[ab,hs.aK]) ?_ ?_ L'
    ·intro k k' r r' y e1 e2 z1 z2
     have go:∀(kk:Nat) (rr:Id),kk≠b->kk≠b2->ids[kk]?=some (.lv rr)->p'.has y->rr.has y->False:=by
      intro kk rr n1 n2 ek a1 a2;have aI:=(hs.ar rr (List.mem_of_getElem? ek) y a2).2;rcases SQ y a1 with⟨h1,_⟩|⟨b',p,gj,h1,h2⟩
      ·omega
      ·have:=hs.ah _ _ p rr y h1 ek h2 a2;rcases gj with rfl|rfl
       ·exact n1 this.symm
       ·exact n2 this.symm
     rcases aY k r e1 with⟨rfl,rfl⟩|⟨ne,Jp,e⟩<;>rcases aY k' r' e2 with⟨rfl,rfl⟩|⟨ne',Jq,e'⟩
     ·rfl
     ·exact(go k' r' ne' Jq e' z1 z2).elim
     ·exact(go k r ne Jp e z2 z1).elim
     ·exact hs.ah k k' r r' y e e' z1 z2
    ·intro k h h';rw[List.getElem_map];have q0:=lS (bl:=au c ids w) (w':=w) (ab:=ids.set b .dead) (fun _ h=>h) (fun _ _=>rfl) WU 4 _ _ (hs.bE k (by simpa using h) h');exact q0.fh dt dI WV w5
    ·intro k hk gn;have gp:ab[k]?=some ab[k]:=List.getElem?_eq_getElem gn;simp only[List.length_set,List.length_map] at hk;rw[List.getElem_set];split
     ·rename_i he;subst he;rw[w5] at gp;rw[<-Option.some.inj gp];exact rfl
     ·rename_i he;rw[List.getElem_set];split
      ·rename_i gu;subst gu;rw[dG] at gp;rw[<-Option.some.inj gp]
       have Vq:∀i (hi:i<(xs++ys).length) (hv:i<cur.size),cur[i]=(xs++ys)[i]:=by
        intro i hi hv;have dI:i<n+(k+1):=by rw[List.length_append,x1,y1] at hi;exact hi
        simp only[<-g5];simp
       refine⟨rfl,rfl,?_,cur,g1,rfl,by show n+(k+1)<=cur.size;omega,qM n kx ky,?_⟩
       ·rintro(⟨i,hi,h⟩|⟨i,hi,h⟩)
        ·obtain⟨p,h1,h2⟩:=x3 i hi _ h;rcases g7 with h'|h'
         ·have h':w.heap.size<=p'.ao:=h';have:=(hs.ar p (List.mem_of_getElem? h1) _ (.inr h2)).2;omega
         ·rcases DL with h3|⟨p0,h3,h4⟩
          ·rw[h3] at h';cases h'
          ·rw[h4] at h';rw[h1] at h3;cases h3;have e0:p.ao=p'.ao:=Option.some.inj h';exact x4 p h1 (by rw[e0];exact h2)
        ·obtain⟨p,h1,h2⟩:=y3 i hi _ h;rcases g7 with h'|h'
         ·have h':w.heap.size<=p'.ao:=h';have:=(hs.ar p (List.mem_of_getElem? h1) _ (.inr h2)).2;omega
         ·rcases DL with h3|⟨p0,h3,h4⟩
          ·rw[h3] at h';cases h'
          ·rw[h4] at h';have e0:p0.ao=p'.ao:=Option.some.inj h';exact hne (hs.ah b b2 p0 p p'.ao h3 h1 (.inl e0.symm) (.inr h2))
       ·intro i hi _ hv;have hl:(xs++ys).length=n+(k+1):=by rw[List.length_append,x1,y1]
        rw[Vq i (by omega) hv];rcases Nat.lt_or_ge i n with pA|pA
        ·rw[kr _ _ pA,kr _ _ pA,kr _ _ pA,List.getElem_append_left (by omega)];refine⟨(x2 i (by omega)).mono dt dI (Yw i pA),fun y hy=>.inl ⟨i,pA,hy⟩,fun j hj _ e1 e2=>?_⟩;rcases Nat.lt_or_ge j n with Mm|Mm
         ·rw[kr _ _ Mm] at e1;exact x5 i j pA Mm e1 e2
         ·rw[ku _ _ Mm] at e1;exfalso;obtain⟨y,hy⟩:=Option.ne_none_iff_exists'.1 e2;obtain⟨p,h1,h2⟩:=x3 i pA y hy;obtain⟨p2,h3,h4⟩:=y3 (j-n) (by omega) y (by rw[e1,hy]);exact hne (hs.ah b b2 p p2 y h1 h3 (.inr h2) (.inr h4))
        ·rw[ku _ _ pA,ku _ _ pA,ku _ _ pA,List.getElem_append_right (by omega)];have ei:i-xs.length=i-n:=by rw[x1]
         simp only[ei];refine⟨(y2 (i-n) (by omega)).mono dt dI (Yx (i-n) (by omega)),fun y hy=>.inr ⟨i-n,by omega,hy⟩,fun j hj _ e1 e2=>?_⟩;rcases Nat.lt_or_ge j n with Mm|Mm
         ·rw[kr _ _ Mm] at e1;exfalso;obtain⟨y,hy⟩:=Option.ne_none_iff_exists'.1 e2;obtain⟨p,h1,h2⟩:=y3 (i-n) (by omega) y hy;obtain⟨p2,h3,h4⟩:=x3 j Mm y (by rw[e1,hy]);exact hne (hs.ah b b2 p2 p y h3 h1 (.inr h4) (.inr h2))
         ·rw[ku _ _ Mm] at e1;have:=y5 (i-n) (j-n) (by omega) (by omega) e1 e2;omega
      ·rename_i gu;have oo:k<ids.length:=by rw[hs.aK];exact hk
       rw[bD k (fun e=>gu e.symm) (fun e=>he e.symm),List.getElem?_eq_getElem oo] at gp;rw[<-Option.some.inj gp,List.getElem_map];have q0:=aV.Np (bl:=au c ids w) (w':=w) (ab:=ids.set b .dead) (fun _ h=>h) (fun _ _=>rfl) WU 4 (fun _ _ _ _=>rfl) (hs.bu k hk oo);refine q0.fh dt dI WV w5 (fun r hr y hy=>?_);have er:ids[k]?=some (.lv r):=by rw[List.getElem?_eq_getElem oo,hr]
       exact hblk y (hs.ar r (List.mem_of_getElem? er) y hy).2 (fun p h1 h2=>gu (hs.ah b k p r y h1 er (.inl h2.symm) hy))
   refine aQ (v:=.slice (some ⟨g,0,none⟩) (n+(k+1)) cap) (w':=w') (by rw[e];simp[bR]) (hn _ _ _ _ _ _ h (hS.aZ o.dst (.own b cap p' dG ⟨g2,g3⟩ ?_)));show cap*1=cur.size;omega
  ·exact h.elim
theorem zH(aJ:bo P tt)(hs:aF c s m a w ids){t:TypeId}{X:Operand}{b:Nat}(ho:o.op=.call { callee:=.builtin .len,args:=#[X],argTypes:=#[t] })(hX:ev s X=.own b)
  {ty aM:TypeId} {sz n:Nat} {hole:Option Nat} {len:Nat->Nat} {row:Nat->Nat->List A} (hb:m.getD b .dead=.nest ty aM sz n hole len row)
  {K:List A->A->List aq->Prop} (h:JF tt t n s m K)
  (hn:∀s1 v m' a' w' ab,K s1 v m'->aF c (aZ s1 o.dst v) m' a' w' ab->next a' w'):o.wp P a w next Q:=by
 have hx:=hs.ev X;rw[hX] at hx
 have e:(execOp a.eval o)=(do pure (.value (<-Builtin.len_ #[t] o.type #[a.eval X]))):=by
  obtain⟨dst,op,ty,pos,after,guard⟩:=o;simp only at ho;subst ho;rw[BigFrame.execOp_builtin,BigFrame.builtin_len];simp
 unfold JF at h;split at h
 ·exact h.elim
 ·rename_i ti iQ;split at h
  ·rename_i hk;obtain⟨i0,d,z0,_,hd,_,_,_,_,_,_,_,_,_,iU,_⟩:=aJ.facts iQ;obtain⟨ie,ze,gZ,_⟩:=iU hk;subst gZ;obtain⟨kH,hm⟩:=getD_some (by simp) hb;have eD:b<ids.length:=by rw[hs.aK];exact kH
   have hB:=hs.bu b kH eD;rw[hm] at hB
   have hv:∃ad cap,a.eval X=.slice ad n cap:=by
    rcases hs.fk hx (by rw[hb];simp) with⟨h1,h2⟩|⟨p,cap,h1,h2,h3,h4⟩
    ·have:ids[b]=.aP:=by rw[List.getElem?_eq_getElem eD] at h1;exact Option.some.inj h1
     rw[this] at hB;have hB:n=0:=hB;subst hB;exact⟨_,_,h2⟩
    ·have:ids[b]=.lv p:=by rw[List.getElem?_eq_getElem eD] at h1;exact Option.some.inj h1
     rw[this] at hB;have e2:p.n=n:=hB.2.1;exact⟨_,_,by rw[h4,e2]⟩
   obtain⟨ad,cap,hv⟩:=hv;refine aQ (v:=.int .i64 n) (w':=w) ?_ (hn s _ m _ _ ids h (hs.aZ o.dst (.aH (.int _ _))));rw[e,hv];simp[Builtin.len_,underlying,hd,goInt]
  ·exact h.elim
end
/-- How many entries a map has: as many as any list of them, each once. -/
def P5(sh:List KS)(has:List KC->Bool)(K:A->Prop):Prop :=
 ∀keys:List (List KC),keys.Nodup->(∀k∈keys,gX sh k/\has k=true)->(∀k,gX sh k->has k=true->k∈keys)->K (.int .i64 keys.length)
def oz(tt:TT)(t:TypeId)(x:A)(m:List aq)(K:A->Prop):Prop :=
 jX tt t fun _ _ _=>match x with
  | .mv _ sh has _=>P5 sh has K
  | .omap b=>match m.getD b .dead with
   | .ez _ sh has _=>P5 sh has K
   | _=>False
  | _=>False
section
variable {c:Ctx} {s:List A} {m:List aq} {a:Act} {w w':World} {ids ab:dp} {P:Program} {im bl:Nat->Prop} {tt:TT} {G:aG}
variable {next:Act->World->Prop} {Q:Exit->Act->World->Prop} {o:Oper}
theorem DN{sh:List KS}{has:List KC->Bool}{K:A->Prop}{n:Nat}{f:Nat->List KC}(hk:∀i,i<n->gX sh (f i)/\has (f i)=true)(hd:∀i j,i<n->j<n->f i=f j->i=j)
  (hc:∀k,gX sh k->has k=true->∃i,i<n/\f i=k) (h:P5 sh has K):K (.int .i64 n):=by
 have h:=h ((List.range n).map f) ?_ ?_ ?_
 ·simpa using h
 ·unfold List.Nodup;rw[List.pairwise_map];exact List.Pairwise.imp_of_mem (fun ha hb AL e=>AL (hd _ _ (List.mem_range.1 ha) (List.mem_range.1 hb) e)) List.nodup_range
 ·intro k gn;obtain⟨i,hi,rfl⟩:=List.mem_map.1 gn;exact hk i (List.mem_range.1 hi)
 ·intro k h1 h2;obtain⟨i,hi,rfl⟩:=hc k h1 h2;exact List.mem_map.2 ⟨i,List.mem_range.2 hi,rfl⟩
theorem jy(aJ:bo P tt)(hs:aF c s m a w ids){X:Operand}{t:TypeId}
  (ho:o.op=.call { callee:=.builtin .len,args:=#[X],argTypes:=#[t] }) {K:KT} (h:oz tt t (ev s X) m fun v=>K v m) (hn:bZ c s o K next):o.wp P a w next Q:=by
 have hx:=hs.ev X
 have e:(execOp a.eval o)=(do pure (.value (<-Builtin.len_ #[t] o.type #[a.eval X]))):=by
  obtain⟨dst,op,ty,pos,after,guard⟩:=o;simp only at ho;subst ho;rw[BigFrame.execOp_builtin,BigFrame.builtin_len];simp
 unfold oz at h;obtain⟨kt,et,agg,sh,z,zv,h1,h2,_,_,h⟩:=jY aJ h (au c ids w) w
 have fin:∀(r:Nat) (es:Array MapEntry) (clock:Nat),a.eval X=.map (some r)->w.heap[r]?=some (.map es clock)->K (.int .i64 es.size) m->o.wp P a w next Q:=by
  intro r es clock hv hh hk;refine aQ (v:=.int .i64 es.size) (w':=w) ?_ (hn _ _ _ _ _ hk (hs.aZ o.dst (.aH (.int _ _))));rw[e,hv];simp[Builtin.len_,run_underlying h1,MapKept.run_getObj_map hh,goInt]
 split at h
 ·rename_i iX tA has val hX;rw[hX] at hx;cases hx with
  | aH hi =>
   generalize hv:a.eval X=v at hi;cases hi with
   | mv _ _ _ _ r es clock f hb hh hk hd hc QE D5 Cg =>
    exact fin r es clock hv hh (DN (fun i hi=>⟨(hk i hi).1,(hk i hi).2.2⟩) hd hc h)
 ·rename_i b hX;rw[hX] at hx;split at h
  ·rename_i iX tA has val hb;obtain⟨kH,hm⟩:=getD_some (by simp) hb;have eD:b<ids.length:=by rw[hs.aK];exact kH
   have hB:=hs.bu b kH eD;rw[hm] at hB;cases hp:ids[b] with
   | dead=>rw[hp] at hB;exact hB.elim
   | av=>rw[hp] at hB;exact hB.elim
   | cz vs=>rw[hp] at hB;exact hB.elim
   | aP=>rw[hp] at hB;exact hB.elim
   | lv p =>
    rw[hp] at hB;obtain⟨es,clock,f,g1,g2,g3,g4,_⟩:=hB;have bQ:ids[b]?=some (.lv p):=by rw[List.getElem?_eq_getElem eD,hp]
    have hv:a.eval X=.map (some p.ao):=by
     generalize a.eval X=v at hx;cases hx with
     | omap _ q hq=>rw[bQ] at hq;cases hq;rfl
     | fD _ x hq=>rw[bQ] at hq;cases hq
     | aH hi=>cases hi
    exact fin p.ao es clock hv g1 (DN (fun i hi=>⟨(g2 i hi).1,(g2 i hi).2.2⟩) g3 g4 h)
  ·exact h.elim
 ·exact h.elim
end
def WW(tt:TT)(t:TypeId)(b n:Nat)(i:A)(K:A->Prop):Prop :=
 match tt.lookup t,i with
 | some ti,.int _ ix=>match ti.kind,Nat.beq ti.br 1 with
  | 3,true=>(0<=ix/\ix<(n:Int))/\K (.oref b ix.toNat 0)
  | _,_=>False
 | _,_=>False
def Vr(tt:TT)(t:TypeId)(i off n hi:Nat)(cs:List A)(K:A->Prop):Prop :=
 match tt.lookup t,off,cs with
 | some ti,0,[x]=>match ti.agg with
  | false=>(i=hi/\i<n)/\fd 3 x K
  | true=>False
 | _,_,_=>False
def TR(tt:TT)(t:TypeId)(i off:Nat)(y:A)(ty:TypeId)(agg:Bool)(sh:List KS)(n:Nat)(cs:List A)(jb:Nat->Nat)(has:Nat->List KC->Bool)(val:Nat->List KC->A)(K:aq->Prop):Prop :=
 match tt.lookup t,off,cs,y with
 | some ti,0,[],.omap k=>match Nat.beq ti.size 1 with
  | true=>i<n/\K (.cF ty agg sh n i [.omap k] jb has val)
  | false=>False
 | _,_,_,_=>False
section
variable {c:Ctx} {s:List A} {m:List aq} {a:Act} {w w':World} {ids ab:dp} {P:Program} {im bl:Nat->Prop} {tt:TT} {G:aG}
variable {next:Act->World->Prop} {Q:Exit->Act->World->Prop} {o:Oper}
variable {ty:TypeId} {agg:Bool} {sh:List KS} {n hi:Nat} {cs:List A} {jb:Nat->Nat} {has:Nat->List KC->Bool} {val:Nat->List KC->A}
end
section
variable {c:Ctx} {s:List A} {m:List aq} {a:Act} {w w':World} {ids ab:dp} {P:Program} {im bl:Nat->Prop} {tt:TT} {G:aG}
variable {next:Act->World->Prop} {Q:Exit->Act->World->Prop} {o:Oper}

def Yy(tt:TT)(t:TypeId)(x key:A)(m:List aq)(K:KT):Prop :=
 jX tt t fun agg sh _=>match Fh agg sh key,x with
  | some k,.omap b=>match m.getD b .dead with
   | .n0 iX tA has val=>match pE agg iX,tz sh tA with
    | true,true=>pn m b (.n0 iX tA (mY has k true) (pd val k .ae)) fun m'=>K (.tup [.ae,.qc b k]) m'
    | _,_=>False
   | _=>False
  | _,_=>False
end

def SR(row:Nat->List A):Nat->Option (List UInt8)
 | 0=>some []
 | n+1=>match SR row n with
  | some l=>match row n with
   | [.int .u8 v]=>some (l++[UInt8.ofNat v.toNat])
   | _=>none
  | none=>none
def BT(tt:TT)(src dst:TypeId)(x:A)(m:List aq)(K:KT):Prop :=
 match x with
 | .own b=>match m.getD b .dead with
  | .row _ sz n row=>match tt.lookup src,tt.lookup dst with
   | some si,some di=>match si.kind,di.kind,tt.lookup si.aM,Nat.beq sz 1 with
    | 3,4,some ei,true=>match ei.kind,ei.ik,SR row n with
     | 5,.u8,some l=>K (.str l) m
     | _,_,_=>False
    | _,_,_,_=>False
   | _,_=>False
  | _=>False
 | _=>uX tt src dst x fun v=>K v m
theorem DO:∀(row:Nat->List A) (n:Nat) (l:List UInt8),SR row n=some l->l.length=n/\∀i,i<n->∃v:Int,row i=[.int .u8 v]/\l[i]?=some (UInt8.ofNat v.toNat)
 | row,0,l,h=>by
  simp only[SR,Option.some.injEq] at h;subst h;exact⟨rfl,fun i h=>absurd h (Nat.not_lt_zero _)⟩
 | row,n+1,l,h=>by
  unfold SR at h;split at h
  ·rename_i l0 h0;obtain⟨g1,g2⟩:=DO row n l0 h0;split at h
   ·rename_i v hv;have h:=Option.some.inj h;subst h;refine⟨by simp[g1],fun i hi=>?_⟩;rcases Nat.lt_or_eq_of_le (Nat.le_of_lt_succ hi) with q|q
    ·obtain⟨v',e1,e2⟩:=g2 i q;exact⟨v',e1,by rw[List.getElem?_append_left (by omega)];exact e2⟩
    ·subst q;exact⟨v,hv,by rw[List.getElem?_append_right (by omega),g1];simp⟩
   ·cases h
  ·cases h
section
variable {c:Ctx} {s:List A} {m:List aq} {a:Act} {w w':World} {ids ab:dp} {P:Program} {im bl:Nat->Prop} {tt:TT} {G:aG}
variable {next:Act->World->Prop} {Q:Exit->Act->World->Prop} {o:Oper}
theorem w6(aJ:bo P tt)(hs:aF c s m a w ids){X:Operand}{src dst:TypeId}(ho:o.op=.convert src dst X){K:KT}(h:BT tt src dst (ev s X) m K)(hn:bZ c s o K next):o.wp P a w next Q:=by
 unfold BT at h;split at h
 ·rename_i b hv;split at h
  ·rename_i ty sz n row DJ;split at h
   ·rename_i si di Yz YA;split at h
    ·rename_i ei FH nz YB bM;split at h
     ·rename_i l iU YC hl;have bM:sz=1:=Nat.eq_of_beq_eq_true bM;subst bM;have hx:=hs.ev X;rw[hv] at hx;have e:execOp a.eval o=(do let z <-convert src dst (a.eval X);pure (.value z)):=by unfold execOp;rw[ho]
      obtain⟨_,d1,_,_,UN,_,_,_,_,_,_,_,_,_,b3,_⟩:=aJ.facts Yz;obtain⟨_,_,rfl,_⟩:=b3 FH;obtain⟨_,d2,_,_,UO,_,_,_,_,_,_,_,_,_,_,_,b4,_⟩:=aJ.facts YA;obtain rfl:=b4 nz;obtain⟨_,d3,_,_,Vs,_,_,_,_,_,_,_,_,_,_,b5,_⟩:=aJ.facts YB;obtain rfl:=b5 iU;rw[YC] at Vs;obtain⟨Uf,WX⟩:=DO row n l hl;rcases hs.fk hx (by rw[DJ];simp) with⟨h1,h2⟩|⟨p,cap,h1,_,_,h2⟩
      ·have hb:b<ids.length:=by
        rcases Nat.lt_or_ge b ids.length with h'|h'
        ·exact h'
        ·rw[List.getElem?_eq_none h'] at h1;cases h1
       have hm:b<m.length:=by rw[<-hs.aK];exact hb
       have hB:=hs.bu b hm hb;rw[List.getElem?_eq_getElem hb] at h1;rw[Option.some.inj h1] at hB;have e2:m.getD b .dead=m[b]:=by rw[List.getD_eq_getElem?_getD,List.getElem?_eq_getElem hm];rfl
       rw[<-e2,DJ] at hB;have ZK:n=0:=hB;have QY:l=[]:=List.length_eq_zero_iff.1 (by omega);subst QY;refine aO hs hn ⟨_,.string ByteArray.empty,?_,h,.aH (.str [])⟩;have bR:=run_convert_bytes_nil (P:=P) (w:=w) src si.aM UN Vs 0 0 dst UO;rw[e,h2];simp only[Sem.run_bind,bR,Result.andThen_ok];rfl
      ·obtain⟨x,lq,kX⟩:=hs.dU h1;rw[bf lq] at DJ;subst DJ;obtain⟨g1,g2,vs,g3,g4,g5,g6,g7⟩:=kX
       have xK:∀i,i<n->w.cell? ⟨p.ao,0+i,none⟩=some (.int .u8 (((List.range n).map fun i=>match row i with|[.int _ v]=>v|_=>0).getD i 0)):=by
        intro i hi;obtain⟨v,e1,_⟩:=WX i hi;have aI:i*1+0<vs.size:=by omega
        have hr:=(g7 i 0 hi (by rw[g6 i hi];omega) aI).1;have e3:(row i)[0]'(by rw[g6 i hi];omega)=.int .u8 v:=by simp only[e1,List.getElem_cons_zero]
        rw[e3] at hr
        have Et:vs[i*1+0]=.int .u8 v:=by
         generalize vs[i*1+0]=vv at hr;cases hr;rfl
        have e4:((List.range n).map fun i=>match row i with|[.int _ v]=>v|_=>0).getD i 0=v:=by
         simp[List.getD_eq_getElem?_getD,hi,e1]
        rw[e4];unfold World.cell?;simp only[g3,Nat.zero_add];have Ev:i<vs.size:=by omega
        simp only[Nat.mul_one,Nat.add_zero] at Et;simp[Array.getElem?_eq_getElem Ev,Et]
       have bR:=run_convert_bytes_arg (P:=P) (w:=w) src si.aM UN Vs p.ao 0 n cap ((List.range n).map fun i=>match row i with|[.int _ v]=>v|_=>0) (by simp) xK dst UO;refine aO hs hn ⟨_,.string ⟨l.toArray⟩,?_,h,.aH (.str l)⟩;rw[e,h2,g2]
       have Aj:strOfNums ((List.range n).map fun i=>match row i with|[.int _ v]=>v|_=>0)=⟨l.toArray⟩:=by
        unfold strOfNums
        congr 2
        apply List.ext_getElem?;intro i;rcases Nat.lt_or_ge i n with hi|hi
        ·obtain⟨v,e1,e5⟩:=WX i hi;rw[e5];simp[hi,e1]
        ·rw[List.getElem?_eq_none (by simpa using hi),List.getElem?_eq_none (by omega)]
       rw[Aj] at bR;simp[bR]
     ·exact h.elim
    ·exact h.elim
   ·exact h.elim
  ·exact h.elim
 ·exact qg aJ hs ho h hn
end

def zI(P:Program)(G:aG)(tt:TT)(o:Oper)(s:List A)(m:List aq)(K:List A->A->List aq->Prop):Prop :=
 match o.op with
 | .call { callee:=.value f,args,.. }=>mP P G (ev s f) (args.toList.map (ev s)) m (K s)\/BL P G (ev s f) (args.toList.map (ev s)) s m K \/
   QF (Kh [] (((args.toList.map (ev s)).map (reach m 8)).flatten)) (fun ρ=>wT ρ s m fun s' m'=>mP P G (ev s' f) (args.toList.map (ev s')) m' (K s')) \/
   BO P G (ev s f) (args.toList.map (ev s)) m (K s)
 | .makeMap t r=>match r with
  | none=>BP tt t m (K s)
  | some _=>False
 | .convert src dst x=>BT tt src dst (ev s x) m (K s)
 | .lookup t x k ok=>jl tt t (ev s x) (ev s k) ok m fun v=>K s v m
 | .mapUpdate t x k v=>JB tt t (ev s x) (ev s k) (ev s v) m (K s)
 | .insert t x k v=>JB tt t (ev s x) (ev s k) (ev s v) m (K s)
 | .buildSlice t len ps=>match len,ps.toList with
  | 1,[(0,x)]=>match ev s x with
   | .own b'=>w4 tt t b' s m K
   | _=>lf P G tt o s m K
  | _,_=>lf P G tt o s m K
 | .call { callee:=.builtin .len,args,argTypes }=>match args.toList,argTypes.toList with
  | [x],[t]=>match ev s x with
   | .own b=>match m.getD b .dead with
    | .nest _ _ _ n _ _ _=>JF tt t n s m K
    | _=>lf P G tt o s m K
   | .omap b=>oz tt t (.omap b) m fun v=>K s v m
   | .mv g n h v=>oz tt t (.mv g n h v) m fun v=>K s v m
   | _=>lf P G tt o s m K
  | _,_=>lf P G tt o s m K
 | .call { callee:=.builtin .append,args,argTypes }=>match args.toList,argTypes.toList with
  | [x,y],[t,t']=>match ev s x,ev s y with
   | .own b,.own b2=>match m.getD b .dead,m.getD b2 .dead with
    | .nest ty aM sz n none len row,.nest QG BR P3 n2 none BS iy=>match Nat.beq t' t with
     | true=>JE tt t b b2 ty aM sz n len row QG BR P3 n2 BS iy s m K
     | false=>False
    | _,_=>lf P G tt o s m K
   | _,_=>lf P G tt o s m K
  | _,_=>lf P G tt o s m K
 | _=>lf P G tt o s m K
section
variable {c:Ctx} {s:List A} {m:List aq} {a:Act} {w w':World} {ids ab:dp} {P:Program} {im bl:Nat->Prop} {tt:TT} {G:aG}
variable {next:Act->World->Prop} {Q:Exit->Act->World->Prop} {o:Oper}
theorem zJ(aJ:bo P tt)(hG:G.ok c)(hs:aF c s m a w ids){K:List A->A->List aq->Prop}(h:zI P G tt o s m K)
  (hn:∀s1 v m' a' w' ab,K s1 v m'->aF c (aZ s1 o.dst v) m' a' w' ab->next a' w'):o.wp P a w next Q:=by
 have Mn:bZ c s o (K s) next:=fun v m' a' w' ab h1 h2=>hn s v m' a' w' ab h1 h2;unfold zI at h;split at h
 ·rename_i f args ts ho;rcases h with h|h|h|h
  ·exact lQ hs hG ho h Mn
  ·exact wQ hs hG ho h hn
  ·rw[wN] at h;obtain⟨s',m',ab,h',bH⟩:=mQ _ hs h;exact lQ bH hG ho h' (fun v m' a' w' ab h1 h2=>hn s' v m' a' w' ab h1 h2)
  ·exact wV hs hG ho h Mn
 ·rename_i t r ho;split at h
  ·exact w3 aJ hs ho h Mn
  ·exact h.elim
 ·rename_i ho;exact w6 aJ hs ho h Mn
 ·rename_i ho;exact qn aJ hs ho h Mn
 ·rename_i ho;exact nr aJ hs (.inl ho) h Mn
 ·rename_i ho;exact nr aJ hs (.inr ho) h Mn
 ·rename_i t len ps ho;split at h
  ·rename_i x QQ;split at h
   ·rename_i b' hX;have e1:ps = #[(0,x)]:=by apply Array.ext';simpa using QQ
    subst e1;exact uq aJ hs ho hX h hn
   ·exact cG aJ hG hs h hn
  ·exact cG aJ hG hs h hn
 ·rename_i args ts ho;split at h
  ·rename_i x t hx ht;have e1:args = #[x]:=by apply Array.ext';simpa using hx
   have e2:ts = #[t]:=by apply Array.ext';simpa using ht
   subst e1;subst e2;split at h
   ·rename_i b hX;split at h
    ·rename_i hb;exact zH aJ hs ho hX hb h hn
    ·exact cG aJ hG hs h hn
   ·rename_i b hX;rw[<-hX] at h;exact jy aJ hs ho h Mn
   ·rename_i g n hh v hX;rw[<-hX] at h;exact jy aJ hs ho h Mn
   ·exact cG aJ hG hs h hn
  ·exact cG aJ hG hs h hn
 ·rename_i args ts ho;split at h
  ·rename_i x y t t' hx ht;have e1:args = #[x,y]:=by apply Array.ext';simpa using hx
   have e2:ts = #[t,t']:=by apply Array.ext';simpa using ht
   subst e1;subst e2;split at h
   ·rename_i b b2 hX hY;split at h
    ·rename_i hb j8;split at h
     ·rename_i P6;have P6:=Nat.eq_of_beq_eq_true P6;subst P6;exact zG aJ hs ho hX hY hb j8 h hn
     ·exact h.elim
    ·exact cG aJ hG hs h hn
   ·exact cG aJ hG hs h hn
  ·exact cG aJ hG hs h hn
 ·exact cG aJ hG hs h hn
end
def tC(s:List A)(d:Option Nat)(v:A)(K:List A->Prop):Prop :=
 match d with
 | some d=>wD s d v K
 | none=>K s
theorem rB(s:List A)(d:Option Nat)(v:A)(K:List A->Prop):tC s d v K=K (aZ s d v):=by
 cases d with
 | none=>rfl
 | some d=>exact kD _ _ _ _
def mS(ops:List Oper)(j:Nat):Option Nat:=(ops[j]?).bind (·.dst)
def JG(g:Option Nat)(want:Bool)(s:List A)(X Y:List A->Prop):Prop :=
 match g with
 | none=>False
 | some d=>match s.getD d .ae with
  | .bool b=>match b,want with
   | true,true=>X s
   | false,false=>X s
   | true,false=>Y s
   | false,true=>Y s
  | .sb b=>match want with
   | true=>(b=true->wD s d (.bool true) X)/\(b=false->wD s d (.bool false) Y)
   | false=>(b=false->wD s d (.bool false) X)/\(b=true->wD s d (.bool true) Y)
  | .tup vs=>match vs with
   | []=>Y s
   | _=>False
  | _=>False
def ur(P:Program)(G:aG)(tt:TT)(ops:List Oper):List Oper->List A->List aq->(List A->List aq->Prop)->Prop
 | [],s,m,K=>K s m
 | o::rest,s,m,K=>match o.guard with
  | none=>zI P G tt o s m fun s1 v m'=>tC s1 o.dst v fun s'=>ur P G tt ops rest s' m' K
  | some (j,want)=>JG (mS ops j) want s
    (fun s=>zI P G tt o s m fun s1 v m'=>tC s1 o.dst v fun s'=>ur P G tt ops rest s' m' K)
    (fun s=>tC s o.dst (.tup []) fun s'=>ur P G tt ops rest s' m K)

section
variable {c:Ctx} {s:List A} {m:List aq} {a:Act} {w w':World} {ids ab:dp} {P:Program} {im bl:Nat->Prop} {tt:TT} {G:aG}
variable {next:Act->World->Prop} {Q:Exit->Act->World->Prop} {o:Oper}

theorem aF.BU(hs:aF c s m a w ids)(d:Nat){x:A}(hv:Rel ids (au c ids w) w x (a.tmps.getD d undef)):aF c (s.set d x) m a w ids where
 defers:=hs.defers
 len:=by simp[hs.len]
 bE:=by
  intro i h h';simp only[List.length_set] at h;rw[List.getElem_set];split
  ·rename_i he;subst he;simpa[Array.getD_eq_getD_getElem?,h'] using hv
  ·exact hs.bE i h h'
 aK:=hs.aK
 bu:=hs.bu
 ah:=hs.ah
 ar:=hs.ar
 frame:=hs.frame
 dL:=hs.dL
 cz:=hs.cz

theorem nu{ops:List Oper}{j d:Nat}{b:Bool}(hg:mS ops j=some d)(hv:a.tmps.getD d undef=.bool b):yielded ops.toArray a.tmps j=some b:=by
 unfold yielded;have h1:(ops.toArray[j]?).bind (·.dst)=some d:=by simpa[mS] using hg
 rw[h1]
 have h2:a.tmps[d]?=some (.bool b):=by
  rcases Nat.lt_or_ge d a.tmps.size with h|h
  ·simpa[Array.getD_eq_getD_getElem?,h] using hv
  ·simp[Array.getD_eq_getD_getElem?,h,undef] at hv
 simp[h2]

theorem nv(aJ:bo P tt){ops:List Oper}{QA:List A->List aq->Prop}(hG:G.ok c)(hQ:∀s m a w ids,QA s m->aF c s m a w ids->Q .normal a w):
  ∀(rest:List Oper) (s:List A) (m:List aq) (a:Act) (w:World) (ids:dp),aF c s m a w ids->ur P G tt ops rest s m QA->wpList P ops.toArray Q rest a w
 | [],s,m,a,w,ids,hs,h=>hQ s m a w ids h hs
 | o::rest,s,m,a,w,ids,hs,h=>by
  have exec:∀s,aF c s m a w ids->(zI P G tt o s m fun s1 v m'=>tC s1 o.dst v fun s'=>ur P G tt ops rest s' m' QA)->∀K:Act->World->Prop,(∀a w,wpList P ops.toArray Q rest a w->K a w)->o.wp P a w K Q:=by
   intro s hs h K hK;refine zJ aJ hG hs h ?_;intro s1 v m' a' w' ab hk bH;rw[rB] at hk;exact hK _ _ (nv aJ hG hQ rest _ _ _ _ _ bH hk)
  have skip:∀s,aF c s m a w ids->(tC s o.dst (.tup []) fun s'=>ur P G tt ops rest s' m QA)->∀K:Act->World->Prop,(∀a w,wpList P ops.toArray Q rest a w->K a w)->K (a.put o.dst undef) w:=by
   intro s hs h K hK;rw[rB] at h;exact hK _ _ (nv aJ hG hQ rest _ _ _ _ _ (hs.aZ o.dst (.aH (.tup [] [] rfl (fun _ h=>by simp at h)))) h)
  unfold ur at h;refine wpList_step fun K hK=>?_;split at h
  ·rename_i hg;have:Region.wanted o (yielded ops.toArray a.tmps)=true:=by unfold Region.wanted;rw[hg]
   rw[if_pos this];exact exec s hs h K hK
  ·rename_i j want hg;have hw:Region.wanted o (yielded ops.toArray a.tmps)=(yielded ops.toArray a.tmps j==some want):=by unfold Region.wanted;rw[hg]
   rw[hw];unfold JG at h;split at h
   ·exact h.elim
   ·rename_i d hd;have tD:=hs.ev (.tmp d);simp only[ev,Act.eval] at tD;split at h
    ·rename_i b hb;rw[hb] at tD;rw[nu hd tD.dR];split at h
     ·exact exec s hs h K hK
     ·exact exec s hs h K hK
     ·exact skip s hs h K hK
     ·exact skip s hs h K hK
    ·rename_i b hb;rw[hb] at tD;have WY:=tD.iL;rw[nu hd WY]
     have uo:∀b',b=b'->aF c (s.set d (.bool b')) m a w ids:=by
      intro b' e;subst e;exact hs.BU d (by rw[WY];exact .aH (.bool _))
     rw[kD,kD,kD,kD] at h;split at h
     ·cases b
      ·exact skip _ (uo false rfl) (h.2 rfl) K hK
      ·exact exec _ (uo true rfl) (h.1 rfl) K hK
     ·cases b
      ·exact exec _ (uo false rfl) (h.1 rfl) K hK
      ·exact skip _ (uo true rfl) (h.2 rfl) K hK
    ·rename_i vs hb;rw[hb] at tD;split at h
     ·obtain⟨us,hu,Ar,_⟩:=tD.kA;have Ke:us=[]:=by simpa using Ar
      subst Ke
      have hy:yielded ops.toArray a.tmps j=none:=by
       unfold yielded;have h1:(ops.toArray[j]?).bind (·.dst)=some d:=by simpa[mS] using hd
       rw[h1];rcases Nat.lt_or_ge d a.tmps.size with h|h
       ·have h2:a.tmps[d]?=some (.tuple #[]):=by simpa[Array.getD_eq_getD_getElem?,h] using hu
        simp[h2]
       ·simp[h]
      rw[hy];exact skip s hs h K hK
     ·exact h.elim
    ·exact h.elim
end

theorem wp_loop_ghost{P:Program}{Q:Exit->Act->World->Prop}{a:Act}{w:World}{c:Code}(I:Nat->Act->World->Prop)(n₀:Nat)(h₀:I n₀ a w)
  (round:∀n a w,I n a w->c.wp P (Exit.then (fun a' w'=>∃n',n'<n/\I n' a' w') Q) a w):(Code.loop c).wp P Q a w:=by
 intro b k cs
 have key:∀n a w,I n a w ->
   ∃e a' w',Q e a' w'/\Arrives P (lone (b.at a (.code c::.inLoop c::k)) cs w) b k cs e a' w':=by
  intro n
  induction n using Nat.strongRecOn with
  | _ n ih =>
   intro a w hI;obtain⟨e,a₁,w₁,hq,zK⟩:=round n a w hI b (.inLoop c::k) cs;cases e with
   | normal =>
    obtain⟨n',aI,YD⟩:=hq;obtain⟨e₂,a₂,w₂,YE,SS⟩:=ih n' aI a₁ w₁ YD;exact⟨e₂,a₂,w₂,YE,.of_steps (Steps.trans zK (.one step_inLoop)) SS⟩
   | exit id=>exact⟨_,a₁,w₁,hq,.pass (x:=.inLoop c) rfl (fun _ _=>.inl (by simp)) zK⟩
   | goto l=>exact⟨_,a₁,w₁,hq,.pass (x:=.inLoop c) rfl (fun _ _=>.inl (by simp)) zK⟩
   | ret=>exact⟨_,a₁,w₁,hq,.pass (x:=.inLoop c) rfl (fun _ _=>.inl (by simp)) zK⟩
   | panic ch=>exact⟨_,a₁,w₁,hq,.pass (x:=.inLoop c) rfl (fun _ _=>.inl (by simp)) zK⟩
   | outgrown=>exact⟨_,a₁,w₁,hq,.pass (x:=.inLoop c) rfl (fun _ _=>.inl (by simp)) zK⟩
 obtain⟨e,a',w',hq,zK⟩:=key _ a w h₀;exact⟨e,a',w',hq,.of_steps (.one step_loop) zK⟩

def post(c:Ctx)(Q:Exit->List A->List aq->Prop):Exit->Act->World->Prop:=fun e a w=>∃s m ids,Q e s m/\aF c s m a w ids

@[irreducible] def WA (P:Program) (G:aG) (cd:Code) (Q:Exit->List A->List aq->Prop) (s:List A) (m:List aq):Prop :=
 ∀c a w ids,G.ok c->aF c s m a w ids->cd.wp P (post c Q) a w

def JH(next:List A->List aq->Prop)(Q:Exit->List A->List aq->Prop):Exit->List A->List aq->Prop
 | .normal,s,m=>next s m
 | e,s,m=>Q e s m
def w7(id:Nat)(Q:Exit->List A->List aq->Prop):Exit->List A->List aq->Prop
 | .exit Vt,s,m=>match Nat.beq Vt id with
  | true=>Q .normal s m
  | false=>Q (.exit Vt) s m
 | e,s,m=>Q e s m
def DP(v:A)(X Y:Prop):Prop :=
 match v with
 | .bool true=>X
 | .bool false=>Y
 | .sb b=>(b=true->X)/\(b=false->Y)
 | _=>False

section
variable {P:Program} {G:aG} {tt:TT} {Q:Exit->List A->List aq->Prop} {s:List A} {m:List aq}

theorem cB{x y:Code}(h:WA P G x (JH (WA P G y Q) Q) s m):WA P G (.seq x y) Q s m:=by
 unfold WA at h ⊢;intro c a w ids hG hs;refine wp_seq (wp_mono (h c a w ids hG hs) ?_);rintro e a' w' ⟨s',m',ab,hq,bH⟩;cases e with
 | normal =>
  exact hq c a' w' ab hG bH
 | _=>exact⟨s',m',ab,hq,bH⟩
theorem bK(h:Q .normal s m):WA P G .skip Q s m:=by
 unfold WA;intro c a w ids hG hs;exact wp_skip ⟨s,m,ids,h,hs⟩
theorem cC(h:Q .ret s m):WA P G .ret Q s m:=by
 unfold WA;intro c a w ids hG hs;exact wp_ret ⟨s,m,ids,h,hs⟩
theorem bL{id:Nat}(h:Q (.exit id) s m):WA P G (.exit id) Q s m:=by
 unfold WA;intro c a w ids hG hs;exact wp_exit ⟨s,m,ids,h,hs⟩
theorem bm{id:Nat}{x:Code}(h:WA P G x (w7 id Q) s m):WA P G (.block id x) Q s m:=by
 unfold WA at h ⊢;intro c a w ids hG hs;refine wp_block (wp_mono (h c a w ids hG hs) ?_);rintro e a' w' ⟨s',m',ab,hq,bH⟩;cases e with
 | exit Vt =>
  simp only[w7] at hq;simp only[Exit.inBlock];split at hq
  ·rename_i he;rw[if_pos (Nat.eq_of_beq_eq_true he)];exact⟨s',m',ab,hq,bH⟩
  ·rename_i he;rw[if_neg (fun e=>by subst e;rw[Nat.beq_refl] at he;cases he)];exact⟨s',m',ab,hq,bH⟩
 | _=>exact⟨s',m',ab,hq,bH⟩
theorem bJ{t:Operand}{x y:Code}(h:DP (ev s t) (WA P G x Q s m) (WA P G y Q s m)):WA P G (.cond t x y) Q s m:=by
 unfold DP at h;unfold WA;intro c a w ids hG hs;have tD:=hs.ev t;split at h
 ·rename_i hv;rw[hv] at tD;unfold WA at h;exact wp_cond_true tD.dR (h c a w ids hG hs)
 ·rename_i hv;rw[hv] at tD;unfold WA at h;exact wp_cond_false tD.dR (h c a w ids hG hs)
 ·rename_i b hv;rw[hv] at tD;cases b
  ·have:=h.2 rfl;unfold WA at this;exact wp_cond_false tD.iL (this c a w ids hG hs)
  ·have:=h.1 rfl;unfold WA at this;exact wp_cond_true tD.iL (this c a w ids hG hs)
 ·exact h.elim
theorem aS(aJ:bo P tt){id:Nat}{l:List Oper}(h:ur P G tt l l s m (Q .normal)):WA P G (.region id l.toArray false) Q s m:=by
 unfold WA;intro c a w ids hG hs;exact wp_region_lit (nv aJ hG (fun s m a w ids hq hs=>⟨s,m,ids,hq,hs⟩) l s m a w ids hs h)

/-- A state that says less. -/
def TS(s:List A)(m:List aq)(s':List A)(m':List aq):Prop:=∀c a w ids,aF c s m a w ids->∃ab,aF c s' m' a w ab

theorem ve{cd:Code}{s':List A}{m':List aq}(hw:TS s m s' m')(h:WA P G cd Q s' m'):WA P G cd Q s m:=by
 unfold WA at h ⊢;intro c a w ids hG hs;obtain⟨ab,bH⟩:=hw c a w ids hs;exact h c a w ab hG bH
theorem DQ{cd:Code}{Q':Exit->List A->List aq->Prop}(h:WA P G cd Q s m)(hq:∀e s m,Q e s m->Q' e s m):WA P G cd Q' s m:=by
 unfold WA at h ⊢;intro c a w ids hG hs;refine wp_mono (h c a w ids hG hs) ?_;rintro e a' w' ⟨s',m',ab,Kg,bH⟩;exact⟨s',m',ab,hq _ _ _ Kg,bH⟩

def P7{ι:Type}(S:ι->List A)(M:ι->List aq)(μ:ι->Nat)(i:ι)(Q:Exit->List A->List aq->Prop):Exit->List A->List aq->Prop
 | .normal,s,m=>∃j,μ j<μ i/\TS s m (S j) (M j)
 | e,s,m=>Q e s m
theorem Mo{ι:Type}{body:Code}(S:ι->List A)(M:ι->List aq)(μ:ι->Nat)(i0:ι)(h0:TS s m (S i0) (M i0))
  (hr:∀i,WA P G body (P7 S M μ i Q) (S i) (M i)):WA P G (.loop body) Q s m:=by
 refine ve h0 ?_;unfold WA;intro c a w ids hG hs;refine wp_loop_ghost (fun n a w=>∃i ids,μ i=n/\aF c (S i) (M i) a w ids) (μ i0) ⟨i0,ids,rfl,hs⟩ ?_;rintro n a w ⟨i,ids,rfl,hs⟩;have:=hr i;unfold WA at this;refine wp_mono (this c a w ids hG hs) ?_;rintro e a' w' ⟨s',m',ab,hq,bH⟩;cases e with
 | normal =>
  obtain⟨j,aI,hw⟩:=hq;obtain⟨SU,Vu⟩:=hw c a' w' ab bH;exact⟨μ j,aI,j,SU,rfl,Vu⟩
 | _=>exact⟨s',m',ab,hq,bH⟩
end
def fL:List Prop->Prop
 | []=>True
 | [p]=>p
 | p::q::ps=>p/\fL (q::ps)
theorem pF{p:Prop}{ps:List Prop}:fL (p::ps)↔p/\fL ps:=by
 cases ps<;>simp[fL]
theorem gU{ps qs:List Prop}:fL (ps++qs)↔fL ps/\fL qs:=by
 induction ps with
 | nil=>simp[fL]
 | cons p ps ih=>rw[List.cons_append,pF,pF,ih,and_assoc]

/-- What must hold that the first value may be taken for the second one, where blocks from n on are forgotten. -/
def jZ:Nat->Nat->A->A->List Prop
 | 0,_,_,y=>match y with
  | .ae=>[]
  | _=>[False]
 | d+1,n,x,y=>match y with
  | .ae=>[]
  | .int k b=>match x with
   | .int k' a=>match lN k' k with
    | true=>[a=b]
    | false=>[False]
   | _=>[False]
  | .bool b=>match x with
   | .bool a=>[a=b]
   | .sb a=>[a=b]
   | _=>[False]
  | .sb b=>match x with
   | .bool a=>[a=b]
   | .sb a=>[a=b]
   | _=>[False]
  | .str b=>match x with
   | .str a=>[a=b]
   | _=>[False]
  | .gk=>match x with
   | .gk=>[]
   | _=>[False]
  | .aR=>match x with
   | .aR=>[]
   | _=>[False]
  | .bz=>match x with
   | .bz=>[]
   | _=>[False]
  | .fF=>match x with
   | .fF=>[]
   | _=>[False]
  | .mv g' n' k' v'=>match x with
   | .mv g1 n1 k1 v1=>[g1=g',n1=n',∀i,k1 i=k' i,∀i,k1 i=true->v1 i=v' i]
   | _=>[False]
  | .omap b=>match x with
   | .omap b'=>match Nat.beq b' b,Nat.blt b n with
    | true,true=>[]
    | _,_=>[False]
   | _=>[False]
  | .qc _ _=>[False]
  | .mF _ _=>[False]
  | .ref b o=>match x with
   | .ref b' o'=>match Nat.beq b' b,Nat.beq o' o,Nat.blt b n with
    | true,true,true=>[]
    | _,_,_=>[False]
   | _=>[False]
  | .oref b i o=>match x with
   | .oref b' i' o'=>match Nat.beq b' b,Nat.blt b n with
    | true,true=>[i'=i,o'=o]
    | _,_=>[False]
   | _=>[False]
  | .own b=>match x with
   | .own b'=>match Nat.beq b' b,Nat.blt b n with
    | true,true=>[]
    | _,_=>[False]
   | _=>[False]
  | .sl n' qQ dr=>match x with
   | .sl n1 sz row=>match Nat.beq sz qQ with
    | true=>[n1=n',(∀i,i<n1->row i=dr i)\/∀i,i<n1->fL (lW d 0 (row i) (dr i))]
    | false=>[False]
   | .aR=>[n'=0]
   | _=>[False]
  | .bref dc o'=>match x with
   | .bref cs o=>[cs=dc,o=o']
   | _=>[False]
  | .agg dc=>match x with
   | .agg cs=>lW d n cs dc
   | _=>[False]
  | .tup dc=>match x with
   | .tup cs=>lW d n cs dc
   | _=>[False]
  | .fn f' dc=>match x with
   | .fn f cs=>(f=f')::lW d n cs dc
   | _=>[False]
where lW (d n:Nat):List A->List A->List Prop
 | [],[]=>[]
 | x::xs,y::ys=>jZ d n x y++lW d n xs ys
 | _,_=>[False]
def Mp(n:Nat)(x y:aq):List Prop :=
 match x,y with
 | .box ty cs,.box rC dc=>match Nat.beq ty rC with
  | true=>jZ.lW 4 n cs dc
  | false=>[False]
 | .row ty sz n1 row,.row rC qQ JI dr=>match Nat.beq ty rC,Nat.beq sz qQ with
  | true,true=>[n1=JI,(∀i,i<n1->row i=dr i)\/∀i,i<n1->fL (jZ.lW 4 0 (row i) (dr i))]
  | _,_=>[False]
 | .nest ty aM sz n1 ho le row,.nest rC um qQ JI L4 WZ dr=>match Nat.beq ty rC,Nat.beq aM um,Nat.beq sz qQ,ho,L4 with
  | true,true,true,none,none=>[n1=JI,∀i,i<n1->le i=WZ i/\∀j,j<le i->row i j=dr i j]
  | _,_,_,_,_=>[False]
 | .ez g1 n1 k1 v1,.ez g' n' k' v'=>[g1=g',n1=n',∀i,k1 i=k' i,∀i,k1 i=true->v1 i=v' i]
 | .n0 g1 n1 k1 v1,.ez g' n' k' v'=>[g1=g',n1=n',∀i,k1 i=k' i,∀i,k1 i=true->v1 i=v' i]
 | .E2 g1 n1 k1 v1 se,.E2 g' n' k' v' YF=>[g1=g',n1=n',∀i,k1 i=k' i,∀i,k1 i=true->v1 i=v' i,se=YF]
 | .cF ty g1 n1 k1 _ cs jb h1 v1,.cF rC g' n' k' _ dc Mq h' v'=>match Nat.beq ty rC,cs,dc with
  | true,[],[]=>[g1=g',n1=n',k1=k',∀i,i<k1->Mq i<=1->jb i=Mq i/\(Mq i=1->(∀k,h1 i k=h' i k)/\∀k,h1 i k=true->v1 i k=v' i k)]
  | _,_,_=>[False]
 | .row ty sz n1 row,.bC rC qQ JI Φ=>match Nat.beq ty rC,Nat.beq sz qQ with
  | true,true=>[n1=JI,∃dr,Φ dr/\∀i,i<n1->row i=dr i]
  | _,_=>[False]
 | .bC ty sz n1 Φ,.bC rC qQ JI Φ'=>match Nat.beq ty rC,Nat.beq sz qQ with
  | true,true=>[n1=JI,∀row,Φ row->Φ' row]
  | _,_=>[False]
 | .ghost cs,.ghost dc=>jZ.lW 4 n cs dc
 | .dead,.dead=>[]
 | .gone,.gone=>[]
 | _,_=>[False]
def vg(n:Nat):List aq->List aq->List Prop
 | _,[]=>[]
 | x::xs,y::ys=>Mp n x y++vg n xs ys
 | [],_::_=>[False]
/-- The first state may be taken for the second. -/
def rT(s:List A)(m:List aq)(s':List A)(m':List aq):Prop:=fL (jZ.lW 5 m'.length s s'++vg m'.length m m')

section
variable {c:Ctx} {s:List A} {m:List aq} {a:Act} {w w':World} {ids ab:dp} {P:Program} {im bl:Nat->Prop} {tt:TT} {G:aG}

theorem aw.up(hi:∀b,im b->bl b){x:A}{v:Value}(h:aw im w x v):aw bl w x v:=h.mono hi (fun _ _=>rfl)

theorem eR:∀(d n:Nat) (xs ys:List A),fL (jZ.lW d n xs ys)->xs.length=ys.length
 | _,_,[],[],_=>rfl
 | d,n,x::xs,y::ys,h=>by
  rw[jZ.lW,gU] at h;simp[eR d n xs ys h.2]
 | _,_,[],_::_,h=>by simp[jZ.lW,fL] at h
 | _,_,_::_,[],h=>by simp[jZ.lW,fL] at h
theorem gV:∀(d n:Nat) (xs ys:List A),fL (jZ.lW d n xs ys)->∀j (h:j<xs.length) (h':j<ys.length),fL (jZ d n xs[j] ys[j])
 | _,_,[],_,_,j,h,_=>by simp at h
 | _,_,_::_,[],_,j,_,h'=>by simp at h'
 | d,n,x::xs,y::ys,h,j,h1,h2=>by
  rw[jZ.lW,gU] at h;cases j with
  | zero=>exact h.1
  | succ j=>exact gV d n xs ys h.2 j (by simpa using h1) (by simpa using h2)

theorem ga{n b:Nat}{p:dH}(h:ids[b]?=some p)(hb:b<n):(ids.take n)[b]?=some p:=by
 rw[List.getElem?_take,if_pos hb];exact h

theorem Rel.rE{x:A}{v:Value}(h:Rel [] im w x v):aw im w x v:=by
 induction h with
 | aH h=>exact h
 | ref b off p h=>simp at h
 | oref b i off p h=>simp at h
 | fH b h=>simp at h
 | own b cap p h=>simp at h
 | jN b x n cap h=>simp at h
 | jM b off x y h=>simp at h
 | fY b i off x y h=>simp at h
 | fD b x h=>simp at h
 | omap b p h=>simp at h
 | qc b k p n h hn=>simp at h
 | ph b k n h=>simp at h
 | mF b k cap x p h hx=>simp at h
 | pj b k h=>simp at h
 | na b k x n cap h=>simp at h
 | agg cs vs hl ho hr ih=>exact .agg cs vs hl ho ih
 | tup cs vs hl hr ih=>exact .tup cs vs hl ih
 | fn f cs vs hl hr ih=>exact .fn f cs vs hl ih

theorem gW(hi:∀b,im b->bl b):∀(d n:Nat) (x y:A) (v:Value),fL (jZ d n x y)->Rel ids im w x v->Rel (ids.take n) bl w y v
 | 0,n,x,y,v,h,hr=>by
  cases y<;>simp[jZ,fL] at h;exact .aH (.ae _)
 | d+1,n,x,y,v,h,hr=>by
  have lists:∀cs dc:List A,fL (jZ.lW d n cs dc)->cs.length=dc.length/\∀(us:List Value),(∀j (h:j<cs.length) (h':j<us.length),Rel ids im w cs[j] us[j])->∀j (h:j<dc.length) (h':j<us.length),Rel (ids.take n) bl w dc[j] us[j]:=by
   intro cs dc h;have hl:=eR _ _ _ _ h;refine⟨hl,fun us Vj j h1 h2=>gW hi d n _ _ _ (gV _ _ _ _ h j (by omega) h1) (Vj j (by omega) h2)⟩
  unfold jZ at h;split at h
  ·exact .aH (.ae _)
  ·split at h
   ·split at h
    ·rename_i hk;rw[iP] at hk;subst hk;have h:_=_:=h;subst h;rw[hr.bS];exact .aH (.int _ _)
    ·exact h.elim
   ·exact h.elim
  ·split at h
   ·have h:_=_:=h;subst h;rw[hr.dR];exact .aH (.bool _)
   ·have h:_=_:=h;subst h;rw[hr.iL];exact .aH (.bool _)
   ·exact h.elim
  ·split at h
   ·have h:_=_:=h;subst h;rw[hr.dR];exact .aH (.sb _)
   ·have h:_=_:=h;subst h;rw[hr.iL];exact .aH (.sb _)
   ·exact h.elim
  ·split at h
   ·have h:_=_:=h;subst h;rw[hr.gJ];exact .aH (.str _)
   ·exact h.elim
  ·split at h
   ·rw[hr.jO];exact .aH .gk
   ·exact h.elim
  ·split at h
   ·rw[hr.df];exact .aH .aR
   ·exact h.elim
  ·split at h
   ·cases hr with|aH hr=>cases hr;exact .aH .bz
   ·exact h.elim
  ·split at h
   ·rw[hr.jP];exact .aH .fF
   ·exact h.elim
  ·split at h
   ·obtain⟨e1,e2,e3,e4⟩:=h;subst e1;subst e2;cases hr with
    | aH hr =>
     cases hr with
     | mv _ _ _ _ r es clock f hb hh hk hd hc hv D5 Cg =>
      exact .aH (.mv _ _ _ _ r es clock f (hi _ hb) hh (fun i h=>by rw[<-e3];exact hk i h) hd (fun k h1 h2=>hc k h1 (by rw[e3];exact h2)) (fun i h=>by rw[<-e4 _ (hk i h).2.2];exact(hv i h).up hi) D5 Cg)
   ·exact h.elim
  ·split at h
   ·split at h
    ·rename_i h1 h3;have h1:=Nat.eq_of_beq_eq_true h1;subst h1;rcases hr.iM with⟨p,g1,rfl⟩|⟨g1,x,rfl⟩;rotate_left
     ·exact .fD _ x (ga g1 (Nat.le_of_ble_eq_true (by assumption)))
     exact .omap _ p (ga g1 (Nat.le_of_ble_eq_true h3))
    ·exact h.elim
   ·exact h.elim
  ·exact h.elim
  ·exact h.elim
  ·split at h
   ·split at h
    ·rename_i h1 h2 h3;have h1:=Nat.eq_of_beq_eq_true h1;have h2:=Nat.eq_of_beq_eq_true h2;subst h1;subst h2;rcases hr.gK with⟨p,g1,rfl⟩|⟨g1,x,y,rfl⟩;rotate_left
     ·exact .jM _ _ x y (ga g1 (Nat.le_of_ble_eq_true h3))
     exact .ref _ _ p (ga g1 (Nat.le_of_ble_eq_true h3))
    ·exact h.elim
   ·exact h.elim
  ·split at h
   ·split at h
    ·rename_i h1 h3;have h1:=Nat.eq_of_beq_eq_true h1;subst h1;obtain⟨e1,e2⟩:=h;subst e1;subst e2;rcases hr.gS with⟨p,g1,rfl⟩|⟨g1,x,y,rfl⟩;rotate_left
     ·exact .fY _ _ _ x y (ga g1 (Nat.le_of_ble_eq_true h3))
     exact .oref _ _ _ p (ga g1 (Nat.le_of_ble_eq_true h3))
    ·exact h.elim
   ·exact h.elim
  ·split at h
   ·split at h
    ·rename_i h1 h3;have h1:=Nat.eq_of_beq_eq_true h1;subst h1;rcases hr.jc with⟨g1,rfl⟩|⟨p,cap,g1,g2,g3,rfl⟩|⟨g1,x,n,cap,rfl⟩
     ·exact .fH _ (ga g1 (Nat.le_of_ble_eq_true h3))
     ·exact .own _ cap p (ga g1 (Nat.le_of_ble_eq_true h3)) g2 g3
     ·exact .jN _ x n cap (ga g1 (Nat.le_of_ble_eq_true h3))
    ·exact h.elim
   ·exact h.elim
  ·split at h
   ·split at h
    ·rename_i h1;have h1:=Nat.eq_of_beq_eq_true h1;subst h1;obtain⟨e1,e2⟩:=h;subst e1;cases hr with
     | aH hr =>
      cases hr with
      | rJ=>exact .aH (.rJ _ _)
      | sle=>exact .aH (.sle _ _ _ _)
      | sl _ _ _ ao base cap vs hb ke hl hc ho hr =>
       rcases e2 with e2|e2
       ·refine .aH (.sl _ _ _ ao base cap vs (hi _ hb) ke (fun i h=>by rw[<-e2 i h];exact hl i h) hc ho ?_);intro i j kU hj;have:=hr i j kU (by rw[e2 i kU];exact hj);simp only[e2 i kU] at this;exact this.up hi
       ·refine .aH (.sl _ _ _ ao base cap vs (hi _ hb) ke (fun i h=>by rw[<-eR _ _ _ _ (e2 i h)];exact hl i h) hc ho ?_);intro i j kU hj;have hlen:=eR _ _ _ _ (e2 i kU);have:=gW hi d 0 _ _ _ (gV _ _ _ _ (e2 i kU) j (by omega) hj) (.aH (hr i j kU (by omega)));exact Rel.rE (by simpa using this)
    ·exact h.elim
   ·have h:_=_:=h;subst h;rw[hr.df];exact .aH (.rJ _ _)
   ·exact h.elim
  ·split at h
   ·obtain⟨e1,e2⟩:=h;subst e1;subst e2;cases hr with|aH hr=>exact .aH (hr.up hi)
   ·exact h.elim
  ·split at h
   ·obtain⟨hl,hg⟩:=lists _ _ h;obtain⟨us,rfl,u2,u3,u4⟩:=hr.gL;exact .agg _ us (by omega) u3 (hg us u4)
   ·exact h.elim
  ·split at h
   ·obtain⟨hl,hg⟩:=lists _ _ h;obtain⟨us,rfl,u2,u4⟩:=hr.kA;exact .tup _ us (by omega) (hg us u4)
   ·exact h.elim
  ·split at h
   ·rw[pF] at h;obtain⟨h1,h⟩:=h;subst h1;obtain⟨hl,hg⟩:=lists _ _ h;obtain⟨us,rfl,u2,u4⟩:=hr.fM;exact .fn _ _ us (by omega) (hg us u4)
   ·exact h.elim

theorem vh:∀(n:Nat) (xs ys:List aq),fL (vg n xs ys)->ys.length<=xs.length
 | _,_,[],_=>Nat.zero_le _
 | n,x::xs,y::ys,h=>by
  rw[vg,gU] at h;simp;exact vh n xs ys h.2
 | _,[],_::_,h=>h.elim
theorem vi:∀(n:Nat) (xs ys:List aq),fL (vg n xs ys)->∀j (h:j<xs.length) (h':j<ys.length),fL (Mp n xs[j] ys[j])
 | _,[],_,_,j,h,_=>by simp at h
 | _,_::_,[],_,j,_,h'=>by simp at h'
 | n,x::xs,y::ys,h,j,h1,h2=>by
  rw[vg,gU] at h;cases j with
  | zero=>exact h.1
  | succ j=>exact vi n xs ys h.2 j (by simpa using h1) (by simpa using h2)

theorem JJ(hi:∀b,im b->bl b){n:Nat}{x y:aq}{p:dH}(h:fL (Mp n x y))(hr:aV ids im w x p):aV (ids.take n) bl w y p:=by
 unfold Mp at h;split at h
 ·rename_i ty cs rC dc;split at h
  ·rename_i ht;have ht:=Nat.eq_of_beq_eq_true ht;subst ht;have hl:=eR _ _ _ _ h;cases p with
   | dead=>exact hr
   | av=>exact hr
   | aP=>exact hr
   | cz vs=>exact hr
   | lv p =>
    obtain⟨vs,h1,h2,h3,h4⟩:=hr;exact⟨vs,h1,h2,by omega,fun j hj bW=>⟨gW hi 4 n _ _ _ (gV _ _ _ _ h j (by omega) hj) (h4 j (by omega) bW).1,(h4 j (by omega) bW).2⟩⟩
  ·exact h.elim
 ·rename_i ty sz n1 row rC qQ JI dr;split at h
  ·rename_i ht hs;have ht:=Nat.eq_of_beq_eq_true ht;have hs:=Nat.eq_of_beq_eq_true hs;subst ht;subst hs;obtain⟨e1,e2⟩:=h;subst e1;cases p with
   | dead=>exact hr
   | av=>exact hr
   | aP=>exact hr
   | cz vs=>exact hr
   | lv p =>
    obtain⟨g1,g2,vs,h1,h2,h3,hl,h4⟩:=hr;rcases e2 with e2|e2
    ·refine⟨g1,g2,vs,h1,h2,h3,fun i hi=>by rw[<-e2 i hi];exact hl i hi,?_⟩;intro i j cr hj bW;have:=h4 i j cr (by rw[e2 i cr];exact hj) bW;simp only[e2 i cr] at this;exact⟨this.1.up hi,this.2⟩
    ·refine⟨g1,g2,vs,h1,h2,h3,fun i hi=>by rw[<-eR _ _ _ _ (e2 i hi)];exact hl i hi,?_⟩;intro i j cr hj bW;have hlen:=eR _ _ _ _ (e2 i cr);have h5:=h4 i j cr (by omega) bW;have:=gW (ids:=[]) hi 4 0 _ _ _ (gV _ _ _ _ (e2 i cr) j (by omega) hj) (.aH h5.1);exact⟨Rel.rE (by simpa using this),h5.2⟩
  ·exact h.elim
 ·rename_i ty aM sz n1 ho le row rC um qQ JI L4 WZ dr;split at h
  ·rename_i ht he hs;have ht:=Nat.eq_of_beq_eq_true ht;have he:=Nat.eq_of_beq_eq_true he;have hs:=Nat.eq_of_beq_eq_true hs;subst ht;subst hs;subst he;obtain⟨e1,e2⟩:=h;subst e1;cases p with
   | dead=>exact hr
   | av=>exact hr
   | aP=>exact hr
   | cz vs=>exact hr
   | lv p =>
    obtain⟨g1,g2,g3,vs,h1,h2,h3,kb,h4⟩:=hr;refine⟨g1,g2,g3,vs,h1,h2,h3,kb,fun i cr hh h=>?_⟩;obtain⟨k1,k2,k3⟩:=h4 i cr hh h;refine⟨?_,k2,k3⟩;obtain⟨e3,e4⟩:=e2 i cr;rcases k1 with⟨q1,q2,q3⟩|⟨q,cap,us,q1,q2,q3,q4,q5,q6,q7,q8⟩
    ·exact .inl ⟨q1,by omega,q3⟩
    ·refine .inr ⟨q,cap,us,by rw[<-e3];exact q1,q2,q3,q4,by omega,q6,fun i' Vv=>by rw[<-e4 i' (by omega)];exact q7 i' (by omega),?_⟩;intro i' j Vv hj bW;have:=q8 i' j (by omega) (by rw[e4 i' (by omega)];exact hj) bW;simp only[e4 i' (by omega)] at this;exact⟨this.1.up hi,this.2⟩
  ·exact h.elim
 ·obtain⟨e1,e2,e3,e4⟩:=h;subst e1;subst e2;cases p with
  | dead=>exact hr
  | av=>exact hr
  | aP=>exact hr
  | cz vs=>exact hr
  | lv p =>
   obtain⟨es,clock,f,h1,h2,h3,h4,h5,h6⟩:=hr;exact⟨es,clock,f,h1,fun i h=>by rw[<-e3];exact h2 i h,h3,fun k g1 g2=>h4 k g1 (by rw[e3];exact g2),fun i h=>by rw[<-e4 _ (h2 i h).2.2];exact(h5 i h).up hi,h6⟩
 ·obtain⟨e1,e2,e3,e4⟩:=h;subst e1;subst e2;cases p with
  | dead=>exact hr
  | av=>exact hr
  | aP=>exact hr
  | cz vs=>exact hr
  | lv p =>
   obtain⟨es,clock,f,h1,h2,h3,h4,h5,h6,h7,h8⟩:=hr;refine⟨es,clock,f,h1,fun i h=>by rw[<-e3];exact h2 i h,h3,fun k g1 g2=>h4 k g1 (by rw[e3];exact g2),fun i h=>by rw[<-e4 _ (h2 i h).2.2];exact(h5 i h).up hi,fun i h=>?_,fun i j g1 g2 e=>?_⟩
   ·refine Classical.byContradiction fun hc=>?_;have:=h7 es[i].born (by omega);rw[h6 i h] at this;cases this
   ·have k1:=h6 i g1;have k2:=h6 j g2;rw[e,k2] at k1;exact h3 i j g1 g2 (Option.some.inj k1).symm
 ·obtain⟨e1,e2,e3,e4,e5⟩:=h;subst e1;subst e2;subst e5;cases p with
  | dead=>exact hr
  | av=>exact hr
  | aP=>exact hr
  | cz vs=>exact hr
  | lv p =>
   obtain⟨r,es,clock,f,sb,h1,h2,h3,h4,h5,h6,h7,h8,h9,YG⟩:=hr;exact⟨r,es,clock,f,sb,h1,hi _ h2,h3,fun i h=>by rw[<-e3];exact h4 i h,h5,fun k g1 g2=>h6 k g1 (by rw[e3];exact g2),fun i h=>by rw[<-e4 _ (h4 i h).2.2];exact(h7 i h).up hi,h8,h9,YG⟩
 ·rename_i ty g1 n1 k1 dt cs jb h1 v1 rC g' n' k' dI dc Mq h' v';split at h
  ·rename_i ht;have ht:=Nat.eq_of_beq_eq_true ht;subst ht;obtain⟨e1,e2,e3,e4⟩:=h;subst e1;subst e2;subst e3;cases p with
   | dead=>exact hr
   | av=>exact hr
   | aP=>exact hr
   | cz vs=>exact hr
   | lv p =>
    obtain⟨g1,g2,g3,vs,q1,q2,q3,_,kb,q5⟩:=hr;refine⟨g1,g2,g3,vs,q1,q2,q3,fun j hj=>absurd hj (by simp),kb,fun i cr hv=>?_⟩;obtain⟨k0,l0⟩:=q5 i cr hv;have l0:=l0 (.inl rfl);refine⟨k0,fun _=>⟨fun e=>l0.1 (by rw[(e4 i cr (by omega)).1];exact e),fun e=>?_⟩⟩;obtain⟨f1,f2⟩:=e4 i cr (by omega);obtain⟨f3,f4⟩:=f2 e;obtain⟨l1,l2,⟨es,clock,f,m1,m2,m3,m4,m5,m6⟩,l4⟩:=l0.2 (by rw[f1];exact e);refine⟨l1,l2,⟨es,clock,f,m1,fun i h=>by rw[<-f3];exact m2 i h,m3,fun k g1 g2=>m4 k g1 (by rw[f3];exact g2),fun i h=>by rw[<-f4 _ (m2 i h).2.2];exact(m5 i h).up hi,m6⟩,fun j hj _ ej ek=>?_⟩;exact l4 j hj (.inl rfl) (by rw[(e4 j hj (by omega)).1];exact ej) ek
  ·exact h.elim
 ·rename_i ty sz n1 row rC qQ JI Φ;split at h
  ·rename_i ht hs;have ht:=Nat.eq_of_beq_eq_true ht;have hs:=Nat.eq_of_beq_eq_true hs;subst ht;subst hs;obtain⟨e1,dr,e0,e2⟩:=h;subst e1;cases p with
   | dead=>exact hr
   | av=>exact hr
   | aP=>exact⟨hr,dr,e0⟩
   | cz vs=>exact hr
   | lv p =>
    obtain⟨g1,g2,vs,h1,h2,h3,hl,h4⟩:=hr;refine⟨dr,e0,g1,g2,vs,h1,h2,h3,fun i hi=>by rw[<-e2 i hi];exact hl i hi,?_⟩;intro i j cr hj bW;have:=h4 i j cr (by rw[e2 i cr];exact hj) bW;simp only[e2 i cr] at this;exact⟨this.1.up hi,this.2⟩
  ·exact h.elim
 ·rename_i ty sz n1 Φ rC qQ JI Φ';split at h
  ·rename_i ht hs;have ht:=Nat.eq_of_beq_eq_true ht;have hs:=Nat.eq_of_beq_eq_true hs;subst ht;subst hs;obtain⟨e1,e2⟩:=h;subst e1;cases p with
   | dead=>exact hr
   | av=>exact hr
   | aP=>exact⟨hr.1,hr.2.elim fun row h=>⟨row,e2 _ h⟩⟩
   | cz vs=>exact hr
   | lv p =>
    obtain⟨row,e0,g1,g2,vs,h1,h2,h3,hl,h4⟩:=hr;exact⟨row,e2 _ e0,g1,g2,vs,h1,h2,h3,hl,fun i j cr hj bW=>⟨(h4 i j cr hj bW).1.up hi,(h4 i j cr hj bW).2⟩⟩
  ·exact h.elim
 ·have hl:=eR _ _ _ _ h;cases p with
  | dead=>exact hr
  | av=>exact hr
  | aP=>exact hr
  | lv p=>exact hr
  | cz vs=>exact⟨by rw[<-hl];exact hr.1,fun j hj bW=>gW hi 4 n _ _ _ (gV _ _ _ _ h j (by omega) hj) (hr.2 j (by omega) bW)⟩
 ·have hr:p=.dead:=hr;exact hr
 ·have hr:p=.av:=hr;exact hr
 ·exact h.elim

theorem aF.fit(hs:aF c s m a w ids){s':List A}{m':List aq}(h:rT s m s' m'):aF c s' m' a w (ids.take m'.length):=by
 unfold rT at h;rw[gU] at h;obtain⟨h1,h2⟩:=h;have hl:=eR _ _ _ _ h1;have ZL:=vh _ _ _ h2
 have hi:∀b,au c ids w b->au c (ids.take m'.length) w b:=by
  rintro b (h|⟨q1,q2,q3⟩)
  ·exact .inl h
  ·exact .inr ⟨q1,q2,fun p hp=>q3 p (List.mem_of_mem_take hp)⟩
 have YH:ids.length=m.length:=hs.aK;refine⟨hs.defers,by rw[hs.len,hl],?_,by simp;omega,?_,?_,?_,hs.frame,hs.dL,fun vs h=>hs.cz vs (List.mem_of_mem_take h)⟩
 ·intro i g1 g2;exact gW hi 5 _ _ _ _ (gV _ _ _ _ h1 i (by omega) g1) (hs.bE i (by omega) g2)
 ·intro b g1 g2;have:=hs.bu b (by omega) (by omega);rw[List.getElem_take];exact JJ hi (vi _ _ _ h2 b (by omega) g1) this
 ·intro i j p q x g1 g2 g3 YI;rw[List.getElem?_take] at g1 g2;split at g1
  ·split at g2
   ·exact hs.ah i j p q x g1 g2 g3 YI
   ·cases g2
  ·cases g1
 ·intro p hp;exact hs.ar p (List.mem_of_mem_take hp)
theorem kO{s':List A}{m':List aq}(h:rT s m s' m'):TS s m s' m':=fun _ _ _ _ hs=>⟨_,hs.fit h⟩
end
end Go.Proofs.YtijddijloelacaaGreat.Am

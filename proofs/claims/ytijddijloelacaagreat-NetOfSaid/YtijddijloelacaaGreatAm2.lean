/-
  THE ENGINE, part 2: an abstract machine of symbolic values, each step proved sound.
-/
import Derived.Test.YtijddijloelacaaGreatAm1
import Derived.MapKept
import Derived.WideKeyRuns
import Derived.Carry
import Derived.Maps.RangeRun
import Derived.Laws.BytesArg
set_option linter.unusedSimpArgs false
set_option linter.unusedSectionVars false
set_option linter.unusedVariables false
set_option maxHeartbeats 4000000
namespace Go.Proofs.YtijddijloelacaaGreat.Am
variable [Inhabited cF]
open Go.RowKit (Below)
structure Ren where
 r:Nat->Option Nat
 o:Nat->Option Nat
 m:Nat->Option Nat
def jz(τ:Ren):Nat->A->A
 | 0,_=>.aj
 | d+1,x=>match x with
  | .ref b o=>match τ.r b with
   | some b'=>.ref b' o
   | none=>.aj
  | .oref b i o=>match τ.o b with
   | some b'=>.oref b' i o
   | none=>.aj
  | .own b=>match τ.o b with
   | some b'=>.own b'
   | none=>.aj
  | .omap b=>match τ.m b with
   | some b'=>.omap b'
   | none=>.aj
  | .tf _ _=>.aj
  | .pe _ _=>.aj
  | .agg cs=>.agg (cs.map (jz τ d))
  | .tup cs=>.tup (cs.map (jz τ d))
  | .fn f cs=>.fn f (cs.map (jz τ d))
  | x=>x
def iP(τ:Ren)(d:Nat):ar->ar
 | .box ty cs=>.box ty (cs.map (jz τ d))
 | .ghost cs=>.ghost (cs.map (jz τ d))
 | .cZ ty g sh n hi cs kI has val=>.cZ ty g sh n hi (cs.map (jz τ d)) kI has val
 | x=>x
/-- What a renaming must keep. -/
structure tr (τ:Ren) (ids ab:dV):Prop where
 r:∀b b' p,τ.r b=some b'->ids[b]?=some (.lv p)->∃p',ab[b']?=some (.lv p')/\p'.aq=p.aq
 o:∀b b' p,τ.o b=some b'->ids[b]?=some p->p≠.dead->∃q,ab[b']?=some q/\KE p q
 m:∀b b' p,τ.m b=some b'->ids[b]?=some (.lv p)->∃p',ab[b']?=some (.lv p')/\p'.aq=p.aq
 rs:∀b b',τ.r b=some b'->ids[b]?=some .aw->ab[b']?=some .aw
 ms:∀b b',τ.m b=some b'->ids[b]?=some .aw->ab[b']?=some .aw

section
variable {c:Ctx} {s:List A} {m:List ar} {a:Act} {w w':World} {ids ab:dV} {P:Program} {im bL:Nat->Prop} {tt:TT} {G:aK}

theorem eF{τ:Ren}(hi:∀b,im b->bL b)(hw:∀b,im b->w'.heap[b]?=w.heap[b]?)(ht:tr τ ids ab):
  ∀(d:Nat) (x:A) (v:Value),Rel ids im w x v->Rel ab bL w' (jz τ d x) v
 | 0,x,v,_=>.aL (.aj _)
 | d+1,x,v,h=>by
  have keep:∀y,aA im w y v->Rel ab bL w' y v:=fun y hy=>.aL (hy.mono hi hw);cases x with
  | ref b o =>
   simp only[jz];split
   ·rename_i b' hb;rcases h.iV with⟨p,h1,rfl⟩|⟨h1,x,y,rfl⟩;rotate_left
    ·exact .lC _ _ x y (ht.rs _ _ hb h1)
    obtain⟨p',h2,h3⟩:=ht.r _ _ _ hb h1;rw[<-h3];exact .ref _ _ p' h2
   ·exact .aL (.aj _)
  | oref b i o =>
   simp only[jz];split
   ·rename_i b' hb;rcases h.ja with⟨p,h1,rfl⟩|⟨h1,x,y,rfl⟩;rotate_left
    ·obtain⟨q,h4,h5⟩:=ht.o _ _ _ hb h1 (by simp);have h5:q=.aw:=h5;subst h5;exact .ic _ _ _ x y h4
    obtain⟨q,h2,p',rfl,h3⟩:=ht.o _ _ _ hb h1 (by simp);rw[<-h3.1,<-h3.2.2.2];exact .oref _ _ _ p' h2
   ·exact .aL (.aj _)
  | own b =>
   simp only[jz];split
   ·rename_i b' hb;rcases h.kJ with⟨h1,rfl⟩|⟨p,cap,h1,h2,h3,rfl⟩|⟨h1,x,n,cap,rfl⟩
    ·obtain⟨q,h4,h5⟩:=ht.o _ _ _ hb h1 (by simp);have h5:q=.bg:=h5;subst h5;exact .gQ _ h4
    ·obtain⟨q,h4,p',rfl,h5⟩:=ht.o _ _ _ hb h1 (by simp);rw[<-h5.1,<-h5.2.2.1];exact .own _ cap p' h4 (by rw[h5.2.2.1];exact h2) (by rw[h5.2.1,h5.2.2.2];exact h3)
    ·obtain⟨q,h4,h5⟩:=ht.o _ _ _ hb h1 (by simp);have h5:q=.aw:=h5;subst h5;exact .lD _ x n cap h4
   ·exact .aL (.aj _)
  | omap b =>
   simp only[jz];split
   ·rename_i b' hb;rcases h.jY with⟨p,h1,rfl⟩|⟨h1,x,rfl⟩;rotate_left
    ·exact .gI _ x (ht.ms _ _ hb h1)
    obtain⟨p',h2,h3⟩:=ht.m _ _ _ hb h1;rw[<-h3];exact .omap _ p' h2
   ·exact .aL (.aj _)
  | agg cs =>
   obtain⟨vs,rfl,hl,ho,hr⟩:=h.iW;exact .agg _ vs (by simpa using hl) ho (fun j h h'=>by rw[List.getElem_map];exact eF hi hw ht d _ _ (hr j (by simpa using h) h'))
  | tup cs =>
   obtain⟨vs,rfl,hl,hr⟩:=h.kK;exact .tup _ vs (by simpa using hl) (fun j h h'=>by rw[List.getElem_map];exact eF hi hw ht d _ _ (hr j (by simpa using h) h'))
  | fn f cs =>
   obtain⟨vs,rfl,hl,hr⟩:=h.ig;exact .fn f _ vs (by simpa using hl) (fun j h h'=>by rw[List.getElem_map];exact eF hi hw ht d _ _ (hr j (by simpa using h) h'))
  | int k n=>cases h with|aL h=>exact keep _ h
  | bool k=>cases h with|aL h=>exact keep _ h
  | sb k=>cases h with|aL h=>exact keep _ h
  | str k=>cases h with|aL h=>exact keep _ h
  | iH=>cases h with|aL h=>exact keep _ h
  | bref cs off=>cases h with|aL h=>exact keep _ h
  | aC=>cases h with|aL h=>exact keep _ h
  | sl n sz row=>cases h with|aL h=>exact keep _ h
  | bz=>cases h with|aL h=>exact keep _ h
  | gO=>cases h with|aL h=>exact keep _ h
  | mv g n k v=>cases h with|aL h=>exact keep _ h
  | aj=>exact .aL (.aj _)
  | tf=>exact .aL (.aj _)
  | pe=>exact .aL (.aj _)

theorem lJ{τ:Ren}(hi:∀b,im b->bL b)(hw:∀b,im b->w'.heap[b]?=w.heap[b]?)(ht:tr τ ids ab)(d:Nat)
  {x:ar} {p:eU} (hp:∀q,p=.lv q->∀k,q.has k->w'.heap[k]?=w.heap[k]?) (h:bq ids im w x p):bq ab bL w' (iP τ d x) p:=by
 cases x with
 | box ty cs =>
  cases p with
  | dead=>exact h
  | aw=>exact h
  | bg=>exact h
  | cV vs=>exact h
  | lv q =>
   obtain⟨vs,h1,h2,h3,h4⟩:=h;refine⟨vs,by rw[hp _ rfl _ (.inl rfl)];exact h1,h2,by simpa using h3,fun j h h'=>?_⟩;rw[List.getElem_map];exact⟨eF hi hw ht d _ _ (h4 j (by simpa using h) h').1,(h4 j (by simpa using h) h').2⟩
 | ghost cs =>
  cases p with
  | dead=>exact h
  | aw=>exact h
  | bg=>exact h
  | lv q=>exact h
  | cV vs =>
   refine⟨by simpa using h.1,fun j h1 h2=>?_⟩;rw[List.getElem_map];exact eF hi hw ht d _ _ (h.2 j (by simpa using h1) h2)
 | dead=>exact h
 | gone=>exact h
 | row ty sz n row=>have h:=bq.mono (ids:=ids) (ab:=ids) hi hw (fun _ _ h _=>h) hp h;cases p<;>exact h
 | nest ty aW sz n ho le row=>have h:=bq.mono (ids:=ids) (ab:=ids) hi hw (fun _ _ h _=>h) hp h;cases p<;>exact h
 | fK g n k v=>have h:=bq.mono (ids:=ids) (ab:=ids) hi hw (fun _ _ h _=>h) hp h;cases p<;>exact h
 | qm g n k v=>have h:=bq.mono (ids:=ids) (ab:=ids) hi hw (fun _ _ h _=>h) hp h;cases p<;>exact h
 | Ie g n k v se=>have h:=bq.mono (ids:=ids) (ab:=ids) hi hw (fun _ _ h _=>h) hp h;cases p<;>exact h
 | bW ty sz n Φ=>have h:=bq.mono (ids:=ids) (ab:=ids) hi hw (fun _ _ h _=>h) hp h;cases p<;>exact h
 | cZ ty g sh n dH cs kI has val =>
  cases p with
  | dead=>exact h
  | aw=>exact h
  | bg=>exact h
  | cV vs=>exact h
  | lv q=>exact nw (jz τ d) (hp _ rfl) (fun _ _ h=>h.mono hi hw) (fun x v h=>eF hi hw ht d x v h) h
end

def setMany{α:Type}:List Nat->List α->List α->List α
 | b::bs,x::xs,m=>setMany bs xs (m.set b x)
 | _,_,m=>m
theorem cJ{α:Type}:∀(ρ:List Nat) (xs m:List α),(setMany ρ xs m).length=m.length
 | [],xs,m=>by cases xs<;>rfl
 | b::bs,[],m=>rfl
 | b::bs,x::xs,m=>by rw[setMany,cJ bs xs];simp
theorem mH{α:Type}:∀(ρ:List Nat) (xs m:List α) (b:Nat),b∉ρ->(setMany ρ xs m)[b]?=m[b]?
 | [],xs,m,b,_=>by cases xs<;>rfl
 | b'::bs,[],m,b,_=>rfl
 | b'::bs,x::xs,m,b,h=>by
  rw[setMany,mH bs xs _ b (fun h'=>h (by simp[h'])),List.getElem?_set_ne (fun e=>h (by simp[e]))]
theorem pO{α:Type}:∀(ρ:List Nat) (xs m:List α) (k b:Nat) (x:α),ρ.Nodup->ρ[k]?=some b->xs[k]?=some x->b<m.length->(setMany ρ xs m)[b]?=some x
 | [],xs,m,k,b,x,_,h,_,_=>by simp at h
 | b'::bs,[],m,k,b,x,_,_,h,_=>by simp at h
 | b'::bs,y::xs,m,k,b,x,hn,h1,h2,hb=>by
  rw[setMany];cases k with
  | zero =>
   simp at h1 h2;subst h1;subst h2;rw[mH _ _ _ _ (List.nodup_cons.1 hn).1,List.getElem?_set_self hb]
  | succ k=>exact pO bs xs _ k b x (List.nodup_cons.1 hn).2 (by simpa using h1) (by simpa using h2) (by simpa using hb)

def fP:List Nat->Nat->Nat->Option Nat
 | [],_,_=>none
 | x::xs,k,b=>match Nat.beq b x with
  | true=>some k
  | false=>fP xs (k+1) b
theorem gK:∀(l:List Nat) (k b j:Nat),fP l k b=some j->k<=j/\l[j-k]?=some b
 | [],k,b,j,h=>by simp[fP] at h
 | x::xs,k,b,j,h=>by
  unfold fP at h;split at h
  ·rename_i e;cases h;have:=Nat.eq_of_beq_eq_true e;subst this;simp
  ·obtain⟨h1,h2⟩:=gK xs (k+1) b j h;refine⟨by omega,?_⟩;rw[show j-k=(j-(k+1))+1 by omega];simpa using h2
theorem lK:∀(l:List Nat) (k b:Nat),fP l k b=none->b∉l
 | [],_,_,_=>by simp
 | x::xs,k,b,h=>by
  unfold fP at h;split at h
  ·cases h
  ·rename_i e;have:=lK xs (k+1) b h;simp only[List.mem_cons,not_or];exact⟨fun e'=>by subst e';simp at e,this⟩
def reach(m:List ar):Nat->A->List Nat
 | 0,_=>[]
 | d+1,x=>match x with
  | .ref b _=>b::match m.getD b .dead with
   | .box _ cs=>(cs.map (reach m d)).flatten
   | _=>[]
  | .oref b _ _=>[b]
  | .own b=>[b]
  | .omap b=>[b]
  | .agg cs=>(cs.map (reach m d)).flatten
  | .tup cs=>(cs.map (reach m d)).flatten
  | .fn _ cs=>(cs.map (reach m d)).flatten
  | _=>[]
def O5:List Nat->List Nat->List Nat
 | _,[]=>[]
 | acc,x::xs=>match xV x acc with
  | true=>O5 acc xs
  | false=>x::O5 (x::acc) xs
where xV (i:Nat):List Nat->Bool
 | []=>false
 | j::js=>match Nat.beq i j with
  | true=>true
  | false=>xV i js
def Wr:List Nat->(List Nat->Prop)->Prop
 | [],K=>K []
 | x::xs,K=>dP x fun y=>Wr xs fun ys=>K (y::ys)
theorem zf:∀(l:List Nat) (K:List Nat->Prop),Wr l K=K l
 | [],_=>rfl
 | x::xs,K=>by simp only[Wr,aX,zf xs]
def pP:List Nat->Bool
 | []=>true
 | x::xs=>match O5.xV x xs with
  | true=>false
  | false=>pP xs
theorem xW{i:Nat}:∀ {l:List Nat},O5.xV i l=true↔i∈l
 | []=>by simp[O5.xV]
 | x::xs=>by
  unfold O5.xV;split
  ·rename_i h;have:=Nat.eq_of_beq_eq_true h;simp[this]
  ·rename_i h;have hne:i≠x:=fun e=>by subst e;simp at h
   simp[hne,xW (l:=xs)]
theorem jL:∀ {l:List Nat},pP l=true->l.Nodup
 | [],_=>List.nodup_nil
 | x::xs,h=>by
  unfold pP at h;split at h
  ·cases h
  ·rename_i hn;refine List.nodup_cons.2 ⟨fun hm=>?_,jL h⟩;rw[xW.2 hm] at hn;cases hn
def lL:ar->Bool
 | .box _ _=>true
 | .row _ _ _ _=>true
 | .nest _ _ _ _ _ _ _=>true
 | .fK _ _ _ _=>true
 | .cZ _ _ _ _ _ cs _ _ _=>cs.isEmpty
 | .bW _ _ _ _=>true
 | _=>false
def ZK(m:List ar):List Nat->Bool
 | []=>true
 | b::bs=>match lL (m.getD b .dead) with
  | true=>ZK m bs
  | false=>false
theorem xX{m:List ar}:∀ {l:List Nat},ZK m l=true->∀b∈l,lL (m.getD b .dead)=true/\b<m.length
 | [],_,b,hb=>by simp at hb
 | x::xs,h,b,hb=>by
  unfold ZK at h;split at h
  ·rename_i hx;rcases List.mem_cons.1 hb with rfl|hb
   ·refine⟨hx,?_⟩;rcases Nat.lt_or_ge b m.length with h'|h'
    ·exact h'
    ·rw[List.getD_eq_getElem?_getD,List.getElem?_eq_none h'] at hx;simp[lL] at hx
   ·exact xX h b hb
  ·cases h
/-- The names that are watched: rows that are handed as they are, and all boxes and maps. -/
def ghA:A->A
 | .own b=>.own b
 | _=>.aj
def J5(m:List ar):Nat->List Nat->List A
 | _,[]=>[]
 | k,b::bs=>(match m.getD b .dead with
  | .box _ _=>.ref k 0
  | .fK _ _ _ _=>.omap k
  | _=>.aj)::J5 m (k+1) bs
abbrev cq(f:Nat->Option Nat):Ren:=⟨f,f,f⟩
def kQ(ρ:List Nat)(M:Nat):Nat->Option Nat
 | 0=>none
 | j+1=>match Nat.blt j ρ.length with
  | true=>some (ρ.getD j 0)
  | false=>some (M+(j-ρ.length))
def qC(ρ:List Nat)(go:List A)(n:Nat)(b:Nat):Option Nat :=
 match fP ρ 0 b with
 | none=>some b
 | some k=>match go.getD (n+k) .aj with
  | .ref k' o=>match Nat.beq k' (k+1),o with
   | true,0=>some b
   | _,_=>none
  | _=>none
def qD(ρ:List Nat)(go:List A)(n:Nat)(b:Nat):Option Nat :=
 match fP ρ 0 b with
 | none=>some b
 | some k=>match go.getD (n+k) .aj with
  | .omap k'=>match Nat.beq k' (k+1) with
   | true=>some b
   | false=>none
  | _=>none
def mI(k:Nat):List A->List A->Bool
 | .own b::as,g::gs=>match Nat.beq b k,g with
  | true,.own b'=>match Nat.beq b' k with
   | true=>true
   | false=>mI k as gs
  | _,_=>mI k as gs
 | _::as,_::gs=>mI k as gs
 | _,_=>false
def zg(x y:ar):Bool :=
 match x,y with
 | .row _ sz _ _,.row _ ue _ _=>Nat.beq sz ue
 | .nest _ _ _ _ _ _ _,.nest _ _ _ _ _ _ _=>true
 | .row _ sz _ _,.bW _ ue _ _=>Nat.beq sz ue
 | .cZ _ _ _ _ _ _ _ _ _,.cZ _ _ _ _ _ _ _ _ _=>true
 | _,_=>false
def vE(ρ:List Nat)(as go:List A)(m mo:List ar)(b:Nat):Option Nat :=
 match fP ρ 0 b with
 | none=>some b
 | some k=>match mI (k+1) as go,zg (m.getD b .dead) (mo.getD k .dead) with
  | true,true=>some b
  | _,_=>none
def iv:List ar->Bool
 | []=>true
 | .ghost _::_=>false
 | .gone::_=>false
 | _::xs=>iv xs

def iw(ids:dV):Nat->Prop:=fun x=>∃p,eU.lv p∈ids/\p.has x
/-- A function that is handed blocks, and hands some back. -/
def aM(P:Program)(G:aK)(f:FuncId)(args:List A)(mi:List ar)(r:A)(mo:List ar):Prop :=
 (∃ fn cd, P.funcs[f]? = some fn ∧ fn.body = some cd ∧ (fn.name == "runtime.NumGoroutine") = false) ∧
 ∀(im:Nat->Prop) (w:World) (vs gs:List Value) (ids:dV),G.ok ⟨w,im,iw ids,gs⟩->aJ ⟨w,im,iw ids,gs⟩ args mi ⟨vs.toArray,[]⟩ w ids ->
  Calls P f vs.toArray w fun e w'=>∃v ab,e=.returned v/\aJ ⟨w,im,iw ids,gs⟩ [r] mo ⟨#[v],[]⟩ w' ab
def Ep(P:Program)(G:aK)(f:A)(args:List A)(s:List A)(m:List ar)(K:List A->A->List ar->Prop):Prop :=
 match f with
 | .fn g cap=>fd.sf 4 (args++cap) fun as=>Wr (O5 [] ((as.map (reach m 8)).flatten)) fun ρ=>match ZK m ρ,pP ρ with
  | true,true=>fd.sf 4 (as.map (jz (cq (fP ρ 1)) 4)) fun j0 =>
   sj (.ghost (j0.map ghA++J5 m 1 ρ)::ρ.map fun b=>iP (cq (fP ρ 1)) 4 (m.getD b .dead)) fun mi =>
   ∃r mo,aM P G g j0 mi r mo/\match mo with
    | .ghost go::jS=>match iv jS,Nat.ble ρ.length jS.length with
     | true,true =>
      fd.sf 4 (s.map (jz ⟨qC ρ go j0.length,vE ρ j0 go m jS,qD ρ go j0.length⟩ 4)) fun s' =>
      sj (setMany ρ (jS.map (iP (cq (kQ ρ m.length)) 4)) (m.map (iP ⟨qC ρ go j0.length,vE ρ j0 go m jS,qD ρ go j0.length⟩ 4))++(jS.drop ρ.length).map (iP (cq (kQ ρ m.length)) 4)) fun m' =>
      fd 4 (jz (cq (kQ ρ m.length)) 4 r) fun r'=>K s' r' m'
     | _,_=>False
    | _=>False
  | _,_=>False
 | _=>False
section
variable {c:Ctx} {s:List A} {m:List ar} {a:Act} {w w':World} {ids ab:dV} {P:Program} {im bL:Nat->Prop} {tt:TT} {G:aK}
variable {next:Act->World->Prop} {Q:Exit->Act->World->Prop} {o:Oper}

theorem zh{x:ar}{vs:List Value}(h:lL x=true)(hb:bq ids im w x (.cV vs)):False:=by
 cases x<;>first|exact hb|(simp[lL] at h)
theorem aJ.Er(hs:aJ c s m a w ids){b:Nat}(hb:b<m.length):∃p,ids[b]?=some p/\bq ids (av c ids w) w (m.getD b .dead) p:=by
 have h1:b<ids.length:=by rw[hs.aU];exact hb
 refine⟨ids[b],List.getElem?_eq_getElem h1,?_⟩;have:=hs.bP b hb h1
 rwa [show m.getD b .dead=m[b] by rw[List.getD_eq_getElem?_getD,List.getElem?_eq_getElem hb];rfl]
theorem bl{α:Type}{l:List α}{i:Nat}{x:α}(h:l[i]?=some x):i<l.length:=by
 rcases Nat.lt_or_ge i l.length with h'|h'
 ·exact h'
 ·rw[List.getElem?_eq_none h'] at h;cases h
/-- What stands for a watched name. -/
def PD(m:List ar)(ids:dV)(b:Nat):Value :=
 match m.getD b .dead,ids.getD b .dead with
 | .box _ _,.lv p=>.pointer (some ⟨p.aq,0,none⟩)
 | .fK _ _ _ _,.lv p=>.map (some p.aq)
 | _,_=>.bool false
theorem uD(m:List ar):∀(ρ:List Nat) (k:Nat),(J5 m k ρ).length=ρ.length
 | [],_=>rfl
 | _::ρ,k=>by simp[J5,uD m ρ]
theorem Gs(hs:aJ c s m a w ids){sv:dV}{bL:Nat->Prop}:∀(ρ:List Nat) (k:Nat),(∀j b,ρ[j]?=some b->sv[k+j]?=ids[b]?/\b<m.length) ->
  ∀j (h:j<(J5 m k ρ).length) (h':j<(ρ.map (PD m ids)).length),Rel sv bL w (J5 m k ρ)[j] (ρ.map (PD m ids))[j]
 | [],k,_,j,h,_=>by simp[J5] at h
 | b::ρ,k,hi,0,h,h'=>by
  obtain⟨e1,e2⟩:=hi 0 b rfl;obtain⟨p,hp,hb⟩:=hs.Er e2;have Ss:ids.getD b .dead=p:=by rw[List.getD_eq_getElem?_getD,hp];rfl
  simp only[J5,List.map_cons,List.getElem_cons_zero];unfold PD;rw[Ss];split
  ·rename_i ty cs hm;rw[hm] at hb ⊢;cases p with
   | lv p=>exact .ref k 0 p (by rw[Nat.add_zero] at e1;rw[e1,hp])
   | dead=>exact hb.elim
   | aw=>exact hb.elim
   | bg=>exact hb.elim
   | cV vs=>exact hb.elim
  ·rename_i g n kk vv hm;rw[hm] at hb ⊢;cases p with
   | lv p=>exact .omap k p (by rw[Nat.add_zero] at e1;rw[e1,hp])
   | dead=>exact hb.elim
   | aw=>exact hb.elim
   | bg=>exact hb.elim
   | cV vs=>exact hb.elim
  ·exact .aL (.aj _)
 | b::ρ,k,hi,j+1,h,h'=>by
  simp only[J5,List.map_cons,List.getElem_cons_succ]
  exact Gs hs ρ (k+1) (fun j b hj=>by
   have:=hi (j+1) b (by simpa using hj)
   rwa [show k+(j+1)=k+1+j by omega] at this) j (by simpa[J5] using h) (by simpa using h')
theorem qE(k:Nat):∀(as gs:List A),mI k as gs=true->∃j:Nat,as[j]?=some (A.own k)/\gs[j]?=some (A.own k)
 | [],_,h=>by simp[mI] at h
 | x::as,[],h=>by cases x<;>simp[mI] at h
 | x::as,g::gs,h=>by
  have rest:mI k as gs=true->∃j:Nat,(x::as)[j]?=some (A.own k)/\(g::gs)[j]?=some (A.own k):=fun h=>by
   obtain⟨j,h1,h2⟩:=qE k as gs h;exact⟨j+1,by simpa using h1,by simpa using h2⟩
  unfold mI at h;split at h
  ·rename_i b j0 g' TC e1 e2;cases e1;cases e2;split at h
   ·rename_i b' hb;have:=Nat.eq_of_beq_eq_true hb;subst this;split at h
    ·rename_i fN;have:=Nat.eq_of_beq_eq_true fN;subst this;exact⟨0,rfl,rfl⟩
    ·exact rest h
   ·exact rest h
  ·rename_i e1 e2;cases e1;cases e2;exact rest h
  ·cases h
theorem lh:∀ {l:List ar},iv l=true->∀x∈l,∀cs,x≠.ghost cs
 | [],_,x,h=>by simp at h
 | y::ys,h,x,hx=>by
  rcases List.mem_cons.1 hx with rfl|hx
  ·intro cs e;subst e;simp[iv] at h
  ·exact lh (l:=ys) (by cases y<;>simp[iv] at h<;>exact h) x hx

theorem mJ:∀ {l:List ar},iv l=true->∀x∈l,x≠.gone
 | [],_,x,h=>by simp at h
 | y::ys,h,x,hx=>by
  rcases List.mem_cons.1 hx with rfl|hx
  ·intro e;subst e;simp[iv] at h
  ·exact mJ (l:=ys) (by cases y<;>simp[iv] at h<;>exact h) x hx

theorem zi(hs:aJ c s m a w ids)(hG:G.ok c){F:Operand}{xs:Array Operand}{ts:Array TypeId}(ho:o.op=.call { callee:=.value F,args:=xs,argTypes:=ts }){K:List A->A->List ar->Prop}
  (h:Ep P G (ev s F) (xs.toList.map (ev s)) s m K)
  (hn:∀s1 v m' a' w' ab,K s1 v m'->aJ c (bA s1 o.dst v) m' a' w' ab->next a' w'):o.wp P a w next Q:=by
 have hf:=hs.ev F;have ZD:G.G w:=hG.now hs.frame;unfold Ep at h;split at h
 ·rename_i g cap hv;rw[hv] at hf;obtain⟨us,Kk,Bb,J2⟩:=hf.ig;rw[cX,zf] at h;generalize has:xs.toList.map (ev s)++cap=as at h;generalize hρ:O5 [] ((as.map (reach m 8)).flatten)=ρ at h;generalize PE:xs.toList.map a.eval++us=vs
  have hrel:∀j (h:j<as.length) (h':j<vs.length),Rel ids (av c ids w) w as[j] vs[j]:=by
   subst has;subst PE;intro j h h';by_cases hj:j<xs.toList.length
   ·rw[List.getElem_append_left (by simpa using hj),List.getElem_append_left (by simpa using hj)];exact mF hs xs.toList j (by simpa using hj) (by simpa using hj)
   ·rw[List.getElem_append_right (by simpa using hj),List.getElem_append_right (by simpa using hj)];simp at h h' hj;have:=J2 (j-xs.size) (by omega) (by omega);simpa using this
  have hlen:vs.length=as.length:=by subst has;subst PE;simp[Bb]
  have run : ∀ fn cd, P.funcs[g]? = some fn → fn.body = some cd → (fn.name == "runtime.NumGoroutine") = false → (execOp a.eval o).run P w = .ok (.enter g vs.toArray) w := by
   intro fn cd h1 h2 h3;have e:execOp a.eval o=(do let d <-resolve a.eval { callee:=.value F,args:=xs,argTypes:=ts } o.type;invoke d.target d.args):=by unfold execOp;rw[ho]
   have e2:(xs.map a.eval++us.toArray)=vs.toArray:=by subst PE;apply Array.ext';simp
   have h4 : ¬ fn.name = "runtime.NumGoroutine" := by simpa using h3
   rw[e];simp[resolve,Kk,Deferred.ofValue,invoke,callFunc,h1,h2,h4,e2]
  split at h
  ·rename_i zj sn;have zj:=xX zj;have sn:=jL sn;rw[cX,eK] at h;generalize Xf:as.map (jz (cq (fP ρ 1)) 4)=j0 at h;obtain⟨r,mo,hc,h⟩:=h;split at h
   ·rename_i go jS;split at h
    ·rename_i BF hle;have hle:ρ.length<=jS.length:=Nat.le_of_ble_eq_true hle;have hgn:=mJ BF;have BF:=lh BF;rw[cX,eK,fA] at h
     -- the Xg names
     let gs:List Value:=vs++ρ.map (PD m ids)
     let sv:dV:=.cV gs::ρ.map fun b=>ids.getD b .dead
     let c':Ctx:=⟨w,av c ids w,iw sv,gs⟩
     have zk:∀b,b∈ρ->∃p,ids[b]?=some p/\ids.getD b .dead=p/\bq ids (av c ids w) w (m.getD b .dead) p/\∀vs,p≠.cV vs:=by
      intro b hb;obtain⟨p,h1,h2⟩:=hs.Er (zj b hb).2;refine⟨p,h1,by rw[List.getD_eq_getElem?_getD,h1];rfl,h2,?_⟩;rintro vs rfl;exact zh (zj b hb).1 h2
     have tu:∀j b,ρ[j]?=some b->sv[j+1]?=ids[b]?:=by
      intro j b hj;obtain⟨p,h1,h2,_⟩:=zk b (List.mem_of_getElem? hj);show(ρ.map fun b=>ids.getD b .dead)[j]?=_;rw[List.getElem?_map,hj,h1];simp only[Option.map_some,h2]
     have lj:∀(i:Nat) p,sv[i]?=some (.lv p)->∃j b,i=j+1/\ρ[j]?=some b/\ids[b]?=some (.lv p):=by
      intro i p hi;cases i with
      | zero=>simp[sv] at hi
      | succ j =>
       have cx:(ρ.map fun b=>ids.getD b .dead)[j]?=some (.lv p):=hi;rw[List.getElem?_map] at cx;cases hj:ρ[j]? with
       | none=>rw[hj] at cx;cases cx
       | some b=>exact⟨j,b,rfl,hj,by rw[<-tu j b hj];exact hi⟩
     have KJ:∀x,iw sv x->∃b p,b∈ρ/\ids[b]?=some (.lv p)/\p.has x:=by
      rintro x ⟨p,hp,hx⟩;obtain⟨i,hi⟩:=List.getElem?_of_mem hp;obtain⟨j,b,_,h2,h3⟩:=lj i p hi;exact⟨b,p,List.mem_of_getElem? h2,h3,hx⟩
     have muOwn:∀b p x,b∈ρ->ids[b]?=some (.lv p)->p.has x->iw sv x:=by
      intro b p x hb hp hx;obtain⟨j,hj⟩:=List.getElem?_of_mem hb;exact⟨p,List.mem_of_getElem? (by rw[tu j b hj];exact hp),hx⟩
     have KK:∀b,av c ids w b->¬iw sv b:=by
      intro b hb hm;obtain⟨b',p,_,h2,h3⟩:=KJ b hm;rcases hb with hb|⟨_,_,hb⟩
      ·exact hs.rX hb (hs.au p (List.mem_of_getElem? h2) b h3).1
      ·exact hb p (List.mem_of_getElem? h2) h3
     have hτ:tr (cq (fP ρ 1)) ids sv:=by
      have key:∀b b',fP ρ 1 b=some b'->sv[b']?=ids[b]?:=by
       intro b b' hb;obtain⟨h1,h2⟩:=gK _ _ _ _ hb;have:=tu _ _ h2
       rwa [show b'-1+1=b' by omega] at this
      exact⟨fun b b' p h1 h2=>⟨p,by rw[key b b' h1];exact h2,rfl⟩,fun b b' p h1 h2 _=>⟨p,by rw[key b b' h1];exact h2,iN p⟩,fun b b' p h1 h2=>⟨p,by rw[key b b' h1];exact h2,rfl⟩,fun b b' h1 h2=>by rw[key b b' h1];exact h2,fun b b' h1 h2=>by rw[key b b' h1];exact h2⟩
     have J6:j0.length=as.length:=by rw[<-Xf];simp
     have vC:∀j (h:j<j0.length) (h':j<vs.length),Rel sv (av c' sv w) w j0[j] vs[j]:=by
      intro j h h';have:j0[j]=jz (cq (fP ρ 1)) 4 (as[j]'(by omega)):=by simp[<-Xf]
      rw[this];exact eF (fun _ h=>.inl h) (fun _ _=>rfl) hτ 4 _ _ (hrel j (by omega) h')
     have hsc:aJ c' j0 (.ghost (j0.map ghA++J5 m 1 ρ)::ρ.map fun b=>iP (cq (fP ρ 1)) 4 (m.getD b .dead)) ⟨vs.toArray,[]⟩ w sv:=by
      refine⟨rfl,by simp[hlen,J6],fun i h h'=>by simpa using vC i h (by simpa using h'),by simp[sv],?_,?_,?_,Fr.refl _ _ _ _,?_,?_⟩
      ·intro i h1 h2;cases i with
       | zero =>
        show bq sv (av c' sv w) w (.ghost (j0.map ghA++J5 m 1 ρ)) (.cV gs);refine⟨by simp[gs,uD,hlen,J6],fun j g1 g2=>?_⟩;by_cases hj:j<j0.length
        ·rw[List.getElem_append_left (by simpa using hj)];simp only[gs];rw[List.getElem_append_left (by omega),List.getElem_map];have:=vC j hj (by omega);generalize j0[j]=x at this ⊢;cases x<;>first|exact this|exact .aL (.aj _)
        ·rw[List.getElem_append_right (by simpa using hj)];simp only[gs];rw[List.getElem_append_right (by omega)];have:=Gs (sv:=sv) (bL:=av c' sv w) hs ρ 1 (fun j b hj=>⟨by rw[Nat.add_comm];exact tu j b hj,(zj b (List.mem_of_getElem? hj)).2⟩) (j-j0.length) (by simp at g1;rw[uD] at *;omega) (by simp;simp[uD] at g1;omega);simpa[hlen,J6] using this
       | succ i =>
        have hi:i<ρ.length:=by simpa using h1
        obtain⟨p,q1,q2,q3,q4⟩:=zk ρ[i] (List.getElem_mem hi);show bq sv (av c' sv w) w ((ρ.map fun b=>iP (cq (fP ρ 1)) 4 (m.getD b .dead))[i]'(by simpa using hi)) ((ρ.map fun b=>ids.getD b .dead)[i]'(by simpa using hi));rw[List.getElem_map,List.getElem_map,q2];exact lJ (fun _ h=>.inl h) (fun _ _=>rfl) hτ 4 (fun _ _ _ _=>rfl) q3
      ·intro i j p q x h1 h2 h3 h4;obtain⟨i',b1,rfl,e1,e2⟩:=lj i p h1;obtain⟨j',b2,rfl,e3,e4⟩:=lj j q h2;have:=hs.al b1 b2 p q x e2 e4 h3 h4;subst this;have:=(List.getElem?_inj (bl e1) sn).1 (e1.trans e3.symm);omega
      ·intro p hp x hx;obtain⟨i,hi⟩:=List.getElem?_of_mem hp;obtain⟨j,b,_,h2,h3⟩:=lj i p hi;exact⟨.inr ⟨p,hp,hx⟩,(hs.au p (List.mem_of_getElem? h3) x hx).2⟩
      ·exact fun b hb=>⟨cU hs hb,KK b hb⟩
      ·intro eD Ix;rcases List.mem_cons.1 Ix with e|e
       ·cases e;rfl
       ·simp only[List.mem_map] at e;obtain⟨b,hb,e⟩:=e;obtain⟨p,_,q2,_,q4⟩:=zk b hb;exact absurd (q2.symm.trans e) (q4 eD)
     have hGc:G.ok c':=by
      refine⟨ZD,fun b hb=>?_⟩;obtain⟨b',p,_,h2,h3⟩:=KJ b hb;rcases (hs.au p (List.mem_of_getElem? h2) b h3).1 with h|h
      ·exact Nat.le_trans (G.lt _ hG.1) h
      ·exact hG.2 b h
     obtain⟨⟨fn,cd,f1,f2,f3⟩,hc⟩:=hc;unfold Oper.wp;rw[run fn cd f1 f2 f3];show Calls P g _ w _;refine bD (hc (av c ids w) w vs gs sv hGc hsc) ?_;rintro e w' ⟨v,St,rfl,hr⟩;have hr:aJ c' [r] (.ghost go::jS) ⟨#[v],[]⟩ w' St:=hr
     -- behind the call
     match St,hr with
     | [],hr=>have:=hr.aU;simp at this
     | g0::jb,hr =>
     have qv:jb.length=jS.length:=by have:=hr.aU;simpa using this
     have Iy:=hr.bP 0 (by simp) (by simp);simp only[List.getElem_cons_zero] at Iy
     have hgh:∃TC,g0=.cV TC:=by
      cases g0 with
      | cV TC=>exact⟨TC,rfl⟩
      | dead=>exact Iy.elim
      | aw=>exact Iy.elim
      | bg=>exact Iy.elim
      | lv p=>exact Iy.elim
     obtain⟨TC,rfl⟩:=hgh;have hgs:TC=gs:=hr.cV TC (by simp);subst hgs;obtain⟨Ws,O6⟩:=Iy
     have TD:∀(j:Nat) x v,go[j]?=some x->gs[j]?=some v->Rel (.cV gs::jb) (av c' (.cV gs::jb) w') w' x v:=by
      intro j x v e1 e2;have g1:=bl e1;have g2:=bl e2;have:=O6 j g1 g2;rw[List.getElem?_eq_getElem g1] at e1;rw[List.getElem?_eq_getElem g2] at e2;cases e1;cases e2;exact this
     have po:∀b,b<w.heap.size->¬iw sv b->w'.heap[b]?=w.heap[b]?:=fun b h1 h2=>hr.frame.block b h1 h2;have hszw:w.heap.size<=w'.heap.size:=hr.frame.size;have Bd:ids.length=m.length:=hs.aU;generalize BG:setMany ρ jb ids++jb.drop ρ.length=kB
     have Xh:∀(k b:Nat) p,ρ[k]?=some b->jb[k]?=some p->kB[b]?=some p:=by
      intro k b p h1 h2;have hb:=(zj b (List.mem_of_getElem? h1)).2;rw[<-BG,List.getElem?_append_left (by rw[cJ,Bd];exact hb)];exact pO ρ jb ids k b p sn h1 h2 (by rw[Bd];exact hb)
     have KG:∀b,b∉ρ->b<m.length->kB[b]?=ids[b]?:=by
      intro b h1 h2;rw[<-BG,List.getElem?_append_left (by rw[cJ,Bd];exact h2)];exact mH _ _ _ _ h1
     have ex2:∀(k:Nat) p,ρ.length<=k->jb[k]?=some p->kB[m.length+(k-ρ.length)]?=some p:=by
      intro k p h1 h2;rw[<-BG,List.getElem?_append_right (by rw[cJ,Bd];omega),cJ,Bd,List.getElem?_drop];rw[show ρ.length+(m.length+(k-ρ.length)-m.length)=k by omega];exact h2
     have inv2:∀(i:Nat) p,kB[i]?=some p->(i∉ρ/\i<m.length/\ids[i]?=some p)\/∃k:Nat,jb[k]?=some p/\((ρ[k]?=some i)\/(ρ.length<=k/\i=m.length+(k-ρ.length))):=by
      intro i p hi;rcases Nat.lt_or_ge i m.length with aH|Ir
      ·by_cases hm:i∈ρ
       ·obtain⟨k,hk⟩:=List.getElem?_of_mem hm;have gF:=bl hk;have:jb[k]?=some (jb[k]'(by omega)):=List.getElem?_eq_getElem _;rw[Xh k i _ hk this] at hi;exact .inr ⟨k,by rw[this];exact hi,.inl hk⟩
       ·rw[KG i hm aH] at hi;exact .inl ⟨hm,aH,hi⟩
      ·rw[<-BG,List.getElem?_append_right (by rw[cJ,Bd];exact Ir),cJ,Bd,List.getElem?_drop] at hi;exact .inr ⟨ρ.length+(i-m.length),hi,.inr ⟨by omega,by omega⟩⟩
     have Xi:∀x,c'.new x->c.new x:=by
      rintro x (h|h)
      ·exact .inl (Nat.le_trans hs.frame.size h)
      ·obtain⟨b,p,_,h2,h3⟩:=KJ x h;exact(hs.au p (List.mem_of_getElem? h2) x h3).1
     have TE:∀p,eU.lv p∈kB->∀x,p.has x->(∃i,i∉ρ/\ids[i]?=some (.lv p))\/(c'.new x/\x<w'.heap.size/\eU.lv p∈jb):=by
      intro p hp x hx;obtain⟨i,hi⟩:=List.getElem?_of_mem hp;rcases inv2 i _ hi with⟨h1,_,h3⟩|⟨k,h1,_⟩
      ·exact .inl ⟨i,h1,h3⟩
      ·have:=hr.au p (List.mem_cons_of_mem _ (List.mem_of_getElem? h1)) x hx;exact .inr ⟨this.1,this.2,List.mem_of_getElem? h1⟩
     have Es:∀(i:Nat) p x,i∉ρ->ids[i]?=some (.lv p)->p.has x->x<w.heap.size/\¬iw sv x:=by
      intro i p x h1 h2 h3;refine⟨(hs.au p (List.mem_of_getElem? h2) x h3).2,fun hm=>?_⟩;obtain⟨b,q,h4,h5,h6⟩:=KJ x hm;have:=hs.al i b p q x h2 h5 h3 h6;subst this;exact h1 h4
     have hA:∀b,av c ids w b->av c kB w' b:=by
      intro b hb;have hnm:=KK b hb;have aH:=cU hs hb;rcases hb with hb|⟨h1,h2,h3⟩
      ·exact .inl hb
      ·refine .inr ⟨h1,by omega,fun p hp hx=>?_⟩;rcases TE p hp b hx with⟨i,_,h5⟩|⟨h4|h4,_,_⟩
       ·exact h3 p (List.mem_of_getElem? h5) hx
       ·have h4:w.heap.size<=b:=h4;omega
       ·exact hnm h4
     have hB:∀b,av c' (.cV gs::jb) w' b->av c kB w' b:=by
      rintro b (hb|⟨h1,h2,h3⟩)
      ·exact hA b hb
      ·refine .inr ⟨Xi b h1,h2,fun p hp hx=>?_⟩;rcases TE p hp b hx with⟨i,h4,h5⟩|⟨_,_,h4⟩
       ·obtain⟨g1,g2⟩:=Es i p b h4 h5 hx;rcases h1 with h1|h1
        ·have h1:w.heap.size<=b:=h1;omega
        ·exact g2 h1
       ·exact h3 p (List.mem_cons_of_mem _ h4) hx
     have hH:∀b,av c ids w b->w'.heap[b]?=w.heap[b]?:=fun b hb=>po b (cU hs hb) (KK b hb)
     have hυ:tr (cq (kQ ρ m.length)) (.cV gs::jb) kB:=by
      have key:∀b b' p,kQ ρ m.length b=some b'->(eU.cV gs::jb)[b]?=some p->kB[b']?=some p:=by
       intro b b' p h1 h2;cases b with
       | zero=>simp[kQ] at h1
       | succ j =>
        have h2:jb[j]?=some p:=by simpa using h2
        simp only[kQ] at h1;split at h1
        ·rename_i hj;have hj:j<ρ.length:=Nat.le_of_ble_eq_true hj;cases h1;exact Xh j _ p (by rw[List.getD_eq_getElem?_getD,List.getElem?_eq_getElem hj];rfl) h2
        ·rename_i hj;have hj:¬j<ρ.length:=fun h'=>by rw[show Nat.blt j ρ.length=true from Nat.ble_eq_true_of_le h'] at hj;cases hj
         cases h1;exact ex2 j p (by omega) h2
      exact⟨fun b b' p h1 h2=>⟨p,key b b' _ h1 h2,rfl⟩,fun b b' p h1 h2 _=>⟨p,key b b' _ h1 h2,iN p⟩,fun b b' p h1 h2=>⟨p,key b b' _ h1 h2,rfl⟩,fun b b' h1 h2=>key b b' _ h1 h2,fun b b' h1 h2=>key b b' _ h1 h2⟩
     have Xj:∀(k b:Nat),ρ[k]?=some b->gs[j0.length+k]?=some (PD m ids b):=by
      intro k b hk;show(vs++ρ.map (PD m ids))[j0.length+k]?=_;rw[List.getElem?_append_right (by omega),List.getElem?_map,show j0.length+k-vs.length=k by omega,hk];rfl
     have hκ:tr ⟨qC ρ go j0.length,vE ρ j0 go m jS,qD ρ go j0.length⟩ ids kB:=by
      have Xk:∀k:Nat,jb[k]?≠some .aw:=by
       intro k b1;have gF:=bl b1;have mK:=hr.bP (k+1) (by simp;omega) (by simp;omega);rw[List.getElem?_eq_getElem gF] at b1;simp only[List.getElem_cons_succ,Option.some.inj b1] at mK;have h2:=hgn _ (List.getElem_mem (show k<jS.length by omega));generalize jS[k]'(by omega)=x at mK h2;cases x<;>first|exact mK.elim|exact absurd rfl h2|cases mK
      have Ke:∀b,ids[b]?=some .aw->fP ρ 0 b=none->kB[b]?=some .aw:=fun b h2 hp=>by
       rw[KG b (lK _ _ _ hp) (by rw[<-Bd];exact bl h2)];exact h2
      have inn:∀b k,ids[b]?=some .aw->fP ρ 0 b=some k->False:=fun b k h2 hp=>by
       obtain⟨_,hk⟩:=gK _ _ _ _ hp;obtain⟨p',q1,q2,q3,_⟩:=zk b (List.mem_of_getElem? hk);rw[h2] at q1;cases q1;have:=(zj b (List.mem_of_getElem? hk)).1;cases hx:m.getD b .dead<;>rw[hx] at q3 this<;>first|exact q3.elim|(simp[lL] at this)
      refine⟨?_,?_,?_,?_,?_⟩;rotate_left 3
      ·intro b b' h1 h2;have h1:qC ρ go j0.length b=some b':=h1;unfold qC at h1;split at h1
       ·rename_i hp;cases h1;exact Ke b h2 hp
       ·rename_i k hp;exact(inn b k h2 hp).elim
      ·intro b b' h1 h2;have h1:qD ρ go j0.length b=some b':=h1;unfold qD at h1;split at h1
       ·rename_i hp;cases h1;exact Ke b h2 hp
       ·rename_i k hp;exact(inn b k h2 hp).elim
      ·intro b b' p h1 h2;have h1:qC ρ go j0.length b=some b':=h1;unfold qC at h1;split at h1
       ·rename_i hp;cases h1;exact⟨p,by rw[KG b (lK _ _ _ hp) (by rw[<-Bd];exact bl h2)];exact h2,rfl⟩
       ·rename_i k hp;obtain⟨_,hk⟩:=gK _ _ _ _ hp;rw[Nat.sub_zero] at hk;split at h1
        ·rename_i k' o' KL;split at h1
         ·rename_i iu;cases h1;have iu:=Nat.eq_of_beq_eq_true iu;subst iu
          have TF:go[j0.length+k]?=some (.ref (k+1) 0):=by
           rw[List.getD_eq_getElem?_getD] at KL;cases hx:go[j0.length+k]? with
           | none=>rw[hx] at KL;cases KL
           | some y=>rw[hx] at KL;simpa using KL
          obtain⟨p',e1,e2⟩:=(TD _ _ _ TF (Xj k b hk)).iV.resolve_right (fun h=>Xk k (by simpa using h.1));have e1:jb[k]?=some (.lv p'):=by simpa using e1
          refine⟨p',Xh k b _ hk e1,?_⟩;have Ss:ids.getD b .dead=.lv p:=by rw[List.getD_eq_getElem?_getD,h2];rfl
          unfold PD at e2;rw[Ss] at e2;split at e2
          ·rename_i q _ he;cases he;simp only[Value.pointer.injEq,Option.some.injEq,Addr.mk.injEq] at e2;exact e2.1.symm
          ·cases e2
          ·cases e2
         ·cases h1
        ·cases h1
      ·intro b b' p h1 h2 Ss;have h1:vE ρ j0 go m jS b=some b':=h1;unfold vE at h1;split at h1
       ·rename_i hp;cases h1;exact⟨p,by rw[KG b (lK _ _ _ hp) (by rw[<-Bd];exact bl h2)];exact h2,iN p⟩
       ·rename_i k hp;obtain⟨_,hk⟩:=gK _ _ _ _ hp;rw[Nat.sub_zero] at hk;split at h1
        ·rename_i hany Et;cases h1;obtain⟨j,e1,e2⟩:=qE _ _ _ hany;have hj:=bl e1
         have hva:gs[j]?=some (vs[j]'(by omega)):=by
          show(vs++ρ.map (PD m ids))[j]?=_;rw[List.getElem?_append_left (by omega),List.getElem?_eq_getElem]
         have R1:=vC j hj (by omega);rw[List.getElem?_eq_getElem hj] at e1;rw[Option.some.inj e1] at R1;have R2:=TD j _ _ e2 hva;have TG:sv[k+1]?=some p:=by rw[tu k b hk];exact h2
         have gF:k<jb.length:=by have:=bl hk;omega
         have Xl:jb[k]?=some jb[k]:=List.getElem?_eq_getElem gF;refine⟨jb[k],Xh k b _ hk Xl,?_⟩
         have Xk:jb[k]?≠some .aw:=by
          intro b1;rw[Xl] at b1;have b1:=Option.some.inj b1;have mK:=hr.bP (k+1) (by simp;omega) (by simp;omega);simp only[List.getElem_cons_succ,b1] at mK;have Se:jS.getD k .dead=jS[k]'(by omega):=by rw[List.getD_eq_getElem?_getD,List.getElem?_eq_getElem];rfl
          rw[<-Se] at mK;unfold zg at Et;split at Et
          ·rename_i zl tv;rw[tv] at mK;exact mK
          ·rename_i zl tv;rw[tv] at mK;exact mK
          ·rename_i zl tv;rw[tv] at mK;exact mK
          ·rename_i zl tv;rw[tv] at mK;exact mK
          ·cases Et
         rcases R1.kJ with⟨a1,a2⟩|⟨p1,cap1,a1,a2,a3,a4⟩|⟨a1,_⟩
         rotate_right
         ·rw[TG] at a1;cases a1;obtain⟨p',q1,q2,q3,_⟩:=zk b (List.mem_of_getElem? hk);rw[h2] at q1;cases q1;unfold zg at Et;split at Et
          ·rename_i zl tv;rw[zl] at q3;exact q3.elim
          ·rename_i zl tv;rw[zl] at q3;exact q3.elim
          ·rename_i zl tv;rw[zl] at q3;exact q3.elim
          ·rename_i zl tv;rw[zl] at q3;exact q3.elim
          ·cases Et
         ·rw[TG] at a1;cases a1;rcases R2.kJ with⟨b1,b2⟩|⟨p2,TH,b1,b2,b3,b4⟩|⟨b1,_⟩
          rotate_right
          ·exact absurd (by simpa using b1) Xk
          ·have b1:jb[k]?=some .bg:=by simpa using b1
           rw[Xl] at b1;exact Option.some.inj b1
          ·rw[a2] at b4;cases b4
         ·rw[TG] at a1;cases a1;rcases R2.kJ with⟨b1,b2⟩|⟨p2,TH,b1,b2,b3,b4⟩|⟨b1,_⟩
          rotate_right
          ·exact absurd (by simpa using b1) Xk
          ·rw[a4] at b2;cases b2
          ·have b1:jb[k]?=some (.lv p2):=by simpa using b1
           rw[Xl] at b1;have b1:=Option.some.inj b1;rw[a4] at b4;simp only[Value.slice.injEq,Option.some.injEq,Addr.mk.injEq] at b4;obtain⟨⟨c1,_⟩,c2,c3⟩:=b4;obtain⟨p',q1,q2,q3,_⟩:=zk b (List.mem_of_getElem? hk);rw[h2] at q1;cases q1;have mK:=hr.bP (k+1) (by simp;omega) (by simp;omega);simp only[List.getElem_cons_succ,b1] at mK;have Se:jS.getD k .dead=jS[k]'(by omega):=by rw[List.getD_eq_getElem?_getD,List.getElem?_eq_getElem];rfl
           rw[<-Se] at mK
           have cj:p2.sz=p1.sz:=by
            unfold zg at Et;split at Et
            ·rename_i zl tv;rw[zl] at q3;rw[tv] at mK;have:=Nat.eq_of_beq_eq_true Et;rw[mK.1,q3.1,this]
            ·rename_i zl tv;rw[zl] at q3;rw[tv] at mK;rw[mK.1,q3.1]
            ·rename_i zl tv;rw[zl] at q3;rw[tv] at mK;obtain⟨_,_,e9,_⟩:=mK;have:=Nat.eq_of_beq_eq_true Et;rw[e9,q3.1,this]
            ·rename_i zl tv;rw[zl] at q3;rw[tv] at mK;rw[mK.1,q3.1]
            ·cases Et
           rw[b1];exact⟨p2,rfl,c1.symm,by rw[<-b3,<-a3,cj,c3],c2.symm,cj⟩
        ·cases h1
      ·intro b b' p h1 h2;have h1:qD ρ go j0.length b=some b':=h1;unfold qD at h1;split at h1
       ·rename_i hp;cases h1;exact⟨p,by rw[KG b (lK _ _ _ hp) (by rw[<-Bd];exact bl h2)];exact h2,rfl⟩
       ·rename_i k hp;obtain⟨_,hk⟩:=gK _ _ _ _ hp;rw[Nat.sub_zero] at hk;split at h1
        ·rename_i k' KL;split at h1
         ·rename_i iu;cases h1;have iu:=Nat.eq_of_beq_eq_true iu;subst iu
          have TF:go[j0.length+k]?=some (.omap (k+1)):=by
           rw[List.getD_eq_getElem?_getD] at KL;cases hx:go[j0.length+k]? with
           | none=>rw[hx] at KL;cases KL
           | some y=>rw[hx] at KL;simpa using KL
          obtain⟨p',e1,e2⟩:=(TD _ _ _ TF (Xj k b hk)).jY.resolve_right (fun h=>Xk k (by simpa using h.1));have e1:jb[k]?=some (.lv p'):=by simpa using e1
          refine⟨p',Xh k b _ hk e1,?_⟩;have Ss:ids.getD b .dead=.lv p:=by rw[List.getD_eq_getElem?_getD,h2];rfl
          unfold PD at e2;rw[Ss] at e2;split at e2
          ·cases e2
          ·rename_i q _ he;cases he;simp only[Value.map.injEq,Option.some.injEq] at e2;exact e2.symm
          ·cases e2
         ·cases h1
        ·cases h1
     refine hn _ _ _ _ w' kB h (aJ.bA ?_ o.dst (eF hB (fun _ _=>rfl) hυ 4 _ _ (by simpa using hr.cc 0 (by simp) (by simp))))
     have hml2:kB.length=(setMany ρ (jS.map (iP (cq (kQ ρ m.length)) 4)) (m.map (iP ⟨qC ρ go j0.length,vE ρ j0 go m jS,qD ρ go j0.length⟩ 4))++(jS.drop ρ.length).map (iP (cq (kQ ρ m.length)) 4)).length:=by
      rw[<-BG];simp[cJ,Bd,qv]
     have back:∀(k:Nat) x p,jS[k]?=some x->jb[k]?=some p->bq kB (av c kB w') w' (iP (cq (kQ ρ m.length)) 4 x) p:=by
      intro k x p h1 h2;have g1:=bl h1;have g2:=bl h2;have:=hr.bP (k+1) (by simp;omega) (by simp;omega);simp only[List.getElem_cons_succ] at this;rw[List.getElem?_eq_getElem g1] at h1;rw[List.getElem?_eq_getElem g2] at h2;cases h1;cases h2;exact lJ hB (fun _ _=>rfl) hυ 4 (fun _ _ _ _=>rfl) this
     refine⟨hs.defers,by simp[hs.len],?_,hml2,?_,?_,?_,?_,hs.fh,?_⟩
     ·intro i h1 h2;rw[List.getElem_map];exact eF hA hH hκ 4 _ _ (hs.cc i (by simpa using h1) h2)
     ·intro i h1 h2;have e2:kB[i]?=some kB[i]:=List.getElem?_eq_getElem h2;have e1:=List.getElem?_eq_getElem h1;generalize kB[i]=p at e2 ⊢;generalize hgx:(setMany ρ (jS.map (iP (cq (kQ ρ m.length)) 4)) (m.map (iP ⟨qC ρ go j0.length,vE ρ j0 go m jS,qD ρ go j0.length⟩ 4))++(jS.drop ρ.length).map (iP (cq (kQ ρ m.length)) 4))[i]=x at e1 ⊢;rcases inv2 i p e2 with⟨g1,g2,g3⟩|⟨k,g1,g2|⟨g2,g3⟩⟩
      ·rw[List.getElem?_append_left (by rw[cJ];simpa using g2),mH _ _ _ _ g1,List.getElem?_map,List.getElem?_eq_getElem g2] at e1;cases e1;have hb:=hs.bP i g2 (by rw[Bd];exact g2);rw[List.getElem?_eq_getElem (by rw[Bd];exact g2)] at g3;cases g3;refine lJ hA hH hκ 4 ?_ hb;intro q hq y hy;obtain⟨f1,f2⟩:=Es i q y g1 (by rw[List.getElem?_eq_getElem (by rw[Bd];exact g2),hq]) hy;exact po y f1 f2
      ·have Tu:=(zj i (List.mem_of_getElem? g2)).2;have rQ:k<jS.length:=by have:=bl g1;omega
       rw[List.getElem?_append_left (by rw[cJ];simpa using Tu),
        pO ρ (jS.map (iP (cq (kQ ρ m.length)) 4)) _ k i (iP (cq (kQ ρ m.length)) 4 jS[k]) sn g2 (by rw[List.getElem?_map,List.getElem?_eq_getElem rQ];rfl) (by simpa using Tu)] at e1
       cases e1;exact back k _ p (List.getElem?_eq_getElem rQ) g1
      ·have rQ:k<jS.length:=by have:=bl g1;omega
       rw[g3,List.getElem?_append_right (by rw[cJ];simp),cJ,List.getElem?_map,List.getElem?_drop,List.length_map,
        show ρ.length+(m.length+(k-ρ.length)-m.length)=k by omega,List.getElem?_eq_getElem rQ] at e1
       cases e1;exact back k _ p (List.getElem?_eq_getElem rQ) g1
     ·intro i j p q x h1 h2 h3 h4
      have mix:∀(i:Nat) p (k:Nat) q,i∉ρ->ids[i]?=some (.lv p)->jb[k]?=some (.lv q)->p.has x->q.has x->False:=by
       intro i p k q g1 g2 g3 g4 g5;obtain⟨f1,f2⟩:=Es i p x g1 g2 g4;rcases (hr.au q (List.mem_cons_of_mem _ (List.mem_of_getElem? g3)) x g5).1 with f|f
       ·have f:w.heap.size<=x:=f;omega
       ·exact f2 f
      rcases inv2 i _ h1 with⟨g1,g2,g3⟩|⟨k,g1,g2⟩<;>rcases inv2 j _ h2 with⟨e1,e2,e3⟩|⟨k',e1,e2⟩
      ·exact hs.al i j p q x g3 e3 h3 h4
      ·exact(mix i p k' q g1 g3 e1 h3 h4).elim
      ·exact(mix j q k p e1 e3 g1 h4 h3).elim
      ·have:=hr.al (k+1) (k'+1) p q x (by simpa using g1) (by simpa using e1) h3 h4;have:k=k':=by omega
       subst this;rcases g2 with g2|⟨g2,g3⟩<;>rcases e2 with e2|⟨e2,e3⟩
       ·rw[g2] at e2;exact Option.some.inj e2
       ·have:=bl g2;omega
       ·have:=bl e2;omega
       ·omega
     ·intro p hp x hx;rcases TE p hp x hx with⟨i,h1,h2⟩|⟨h1,h2,_⟩
      ·have:=hs.au p (List.mem_of_getElem? h2) x hx;exact⟨this.1,by omega⟩
      ·exact⟨Xi x h1,h2⟩
     ·refine hs.frame.go hr.frame.os hr.frame.tape hr.frame.output hszw (fun k hk hm=>?_) hr.frame.drawn;refine po k (Nat.lt_of_lt_of_le hk hs.frame.size) (fun Xm=>?_);obtain⟨b,p,_,h2,h3⟩:=KJ k Xm;rcases (hs.au p (List.mem_of_getElem? h2) k h3).1 with f|f
      ·omega
      ·exact hm f
     ·intro eD Ix;obtain⟨i,hi⟩:=List.getElem?_of_mem Ix;rcases inv2 i _ hi with⟨_,_,h3⟩|⟨k,h1,_⟩
      ·exact hs.cV eD (List.mem_of_getElem? h3)
      ·have rQ:k<jS.length:=by have:=bl h1;omega
       have:=hr.bP (k+1) (by simp;omega) (by simp;have:=bl h1;omega);simp only[List.getElem_cons_succ] at this;rw[List.getElem?_eq_getElem (bl h1)] at h1;rw[Option.some.inj h1] at this;have Xn:=BF _ (List.getElem_mem rQ);generalize jS[k]=x at this Xn;cases x<;>first|exact this.elim|(rename_i cs;exact absurd rfl (Xn cs))|(have this:eU.cV eD=.dead:=this;cases this)|(have this:eU.cV eD=.aw:=this;cases this)
    ·exact h.elim
   ·exact h.elim
  ·exact h.elim
 ·exact h.elim
end
section
variable {c:Ctx} {s:List A} {m:List ar} {a:Act} {w w':World} {ids ab:dV} {P:Program} {im bL:Nat->Prop} {tt:TT} {G:aK}
variable {next:Act->World->Prop} {Q:Exit->Act->World->Prop} {o:Oper}

/-- A row of ours, taken for a value that nobody writes. -/
theorem PF(hs:aJ c s m a w ids){b:Nat}{v:Value}(hA:∀x,av c ids w x->bL x)(hZ:∀p,ids[b]?=some (.lv p)->∀x,p.has x->bL x)(hr:Rel ids (av c ids w) w (.own b) v):
  aA bL w (wk m 1 (.own b)) v:=by
 cases hr with
 | aL h=>cases h
 | lD b x n cap h=>simp only[wk,hs.dG h];exact .aj _
 | gQ b h =>
  simp only[wk];split
  ·rename_i ty sz n row hb;rcases oH hs (.gQ b h) hb with⟨rfl,_,_⟩|⟨p,cap,g1,_⟩
   ·exact .uu _ _
   ·rw[h] at g1;cases g1
  ·rename_i hb
   have aH:b<ids.length:=by
    rcases Nat.lt_or_ge b ids.length with h'|h'
    ·exact h'
    ·rw[List.getElem?_eq_none h'] at h;cases h
   have:=hs.bP b (by rw[<-hs.aU];exact aH) aH;rw[List.getElem?_eq_getElem aH] at h
   have e:m[b]'(by rw[<-hs.aU];exact aH)=m.getD b .dead:=by
    rw[List.getD_eq_getElem?_getD,List.getElem?_eq_getElem (by rw[<-hs.aU];exact aH)];rfl
   rw[e,hb,Option.some.inj h] at this;have this:_=0:=this;subst this;split
   ·exact .uu _ _
   ·exact .aj _
  ·rename_i ty agg sh n dH cs kI has val hb
   have aH:b<ids.length:=by
    rcases Nat.lt_or_ge b ids.length with h'|h'
    ·exact h'
    ·rw[List.getElem?_eq_none h'] at h;cases h
   have:=hs.bP b (by rw[<-hs.aU];exact aH) aH;rw[List.getElem?_eq_getElem aH] at h
   have e:m[b]'(by rw[<-hs.aU];exact aH)=m.getD b .dead:=by
    rw[List.getD_eq_getElem?_getD,List.getElem?_eq_getElem (by rw[<-hs.aU];exact aH)];rfl
   rw[e,hb,Option.some.inj h] at this;have this:_=0:=this;subst this;split
   ·exact .uu _ _
   ·exact .aj _
  ·exact .aj _
 | own b cap p h hn hm =>
  simp only[wk];split
  ·rename_i ty sz n row hb;obtain⟨x,nD,ng⟩:=hs.fu h;rw[bI nD] at hb;subst hb;obtain⟨q1,q2,uc,g1,g2,g3,hl,g5⟩:=ng;subst q1;subst q2
   have aH:∀i j,i<p.n->j<p.sz->i*p.sz+j<uc.size:=by
    intro i j hi hj;have:=Nat.mul_le_mul_right p.sz (show i+1<=p.n from hi);rw[Nat.add_mul] at this;omega
   refine .sl p.n p.sz row p.aq 0 cap (fun i j=>uc.getD (i*p.sz+j) undef) (hZ p h _ (.inl rfl)) hn.1 hl ?_ ?_ ?_
   ·intro i j hi hj;have hk:=aH i j hi hj;rw[Nat.zero_add,cell_of_row w p.aq _ uc ty (0,0) g1];simp[Array.getD_eq_getD_getElem?,hk]
   ·intro i j hi hj;have hk:=aH i j hi hj;have:=(g5 i j hi (by rw[hl i hi];exact hj) hk).2;simpa[Array.getD_eq_getD_getElem?,hk] using this
   ·intro i j hi hj;have hk:=aH i j hi (by rw[<-hl i hi];exact hj);have:=(g5 i j hi hj hk).1;simp only[Array.getD_eq_getD_getElem?,Array.getElem?_eq_getElem hk,Option.getD_some];exact this.mono hA (fun _ _=>rfl)
  ·rename_i ty aW sz n hole len row hb;split
   ·skip
    obtain⟨x,nD,ng⟩:=hs.fu h;rw[bI nD] at hb;subst hb;obtain⟨q1,q2,q3,uc,g1,g2,g3,kb,g5⟩:=ng;subst q2;refine .sl p.n 1 _ p.aq 0 cap (fun i j=>uc.getD (i*1+j) undef) (hZ p h _ (.inl rfl)) hn.1 (fun _ _=>rfl) ?_ ?_ ?_
    ·intro i j hi hj;rw[Nat.zero_add,cell_of_row w p.aq _ uc ty (0,0) g1];simp[Array.getD_eq_getD_getElem?,show i+j<uc.size by omega]
    ·intro i j hi hj;have Kw:j=0:=by omega
     subst Kw;have hk:i<uc.size:=by omega
     simp only[Nat.mul_one,Nat.add_zero,Array.getD_eq_getD_getElem?,Array.getElem?_eq_getElem hk,Option.getD_some];rcases (g5 i hi (by simp) hk).1 with⟨e,_⟩|⟨q,pJ,eD,e,_⟩<;>rw[e]<;>rfl
    ·intro i j hi hj;have Kw:j=0:=by simp at hj;omega
     subst Kw;have hk:i<uc.size:=by omega
     simp only[Nat.mul_one,Nat.add_zero,Array.getD_eq_getD_getElem?,Array.getElem?_eq_getElem hk,Option.getD_some,List.getElem_cons_zero];obtain⟨k1,k2,_⟩:=g5 i hi (by simp) hk;rcases k1 with⟨e1,e2,_⟩|⟨q,pJ,eD,e1,e2,e3,e4,e5,e6,e7,e8⟩
     ·rw[e1,e2];exact .uu _ _
     ·rw[e1]
      have aH:∀i' j,i'<len i->j<sz->i'*sz+j<eD.size:=by
       intro i' j cx hj;have h1:=Nat.mul_le_mul_right sz (show i'+1<=len i from cx);have h2:=Nat.mul_le_mul_right sz e5;rw[Nat.add_mul] at h1;omega
      refine .sl (len i) sz (row i) q 0 pJ (fun i' j=>eD.getD (i'*sz+j) undef) (hZ p h _ (.inr (k2 q e2))) e5 e7 ?_ ?_ ?_
      ·intro i' j cx hj;have hk:=aH i' j cx hj;rw[Nat.zero_add,cell_of_row w q _ eD aW (0,0) e3];simp[Array.getD_eq_getD_getElem?,hk]
      ·intro i' j cx hj;have hk:=aH i' j cx hj;have:=(e8 i' j cx (by rw[e7 i' cx];exact hj) hk).2;simpa[Array.getD_eq_getD_getElem?,hk] using this
      ·intro i' j cx hj;have hk:=aH i' j cx (by rw[<-e7 i' cx];exact hj);have:=(e8 i' j cx hj hk).1;simp only[Array.getD_eq_getD_getElem?,Array.getElem?_eq_getElem hk,Option.getD_some];exact this.mono hA (fun _ _=>rfl)
   ·exact .aj _
  ·rename_i ty agg sh n dH cs kI has val hb;split
   ·rename_i he;obtain⟨x,nD,ng⟩:=hs.fu h;rw[bI nD] at hb;subst hb;exact Bs ng he hn.1 hA (hZ p h)
   ·exact .aj _
  ·exact .aj _
theorem KM(hs:aJ c s m a w ids){b:Nat}{v:Value}(hA:∀x,av c ids w x->bL x)(hZ:∀p,ids[b]?=some (.lv p)->∀x,p.has x->bL x)(hr:Rel ids (av c ids w) w (.omap b) v):
  aA bL w (wk m 1 (.omap b)) v:=by
 cases hr with
 | gI b x h=>simp only[wk,hs.dG h];exact .aj _
 | aL h=>cases h
 | omap b p h =>
  simp only[wk];split
  ·rename_i g n key val hb;obtain⟨x,nD,ng⟩:=hs.fu h;rw[bI nD] at hb;subst hb;obtain⟨es,clock,f,g1,g2,g3,g4,g5,g6,g7⟩:=ng;exact .mv g n key val p.aq es clock f (hZ p h _ (.inl rfl)) g1 g2 g3 g4 (fun i hi=>(g5 i hi).mono hA (fun _ _=>rfl)) g6 g7
  ·exact .aj _

def BH(b:Nat)(q:Option (List A))(y z:A):Nat->A->A
 | 0,_=>.aj
 | d+1,x=>match x with
  | .ref b' o=>match Nat.beq b' b with
   | true=>match q with
    | some cs=>.bref cs o
    | none=>.aj
   | false=>.ref b' o
  | .oref b' i o=>match Nat.beq b' b with
   | true=>.aj
   | false=>.oref b' i o
  | .own b'=>match Nat.beq b' b with
   | true=>y
   | false=>.own b'
  | .omap b'=>match Nat.beq b' b with
   | true=>z
   | false=>.omap b'
  | .tf _ _=>.aj
  | .pe _ _=>.aj
  | .agg cs=>.agg (cs.map (BH b q y z d))
  | .tup cs=>.tup (cs.map (BH b q y z d))
  | .fn f cs=>.fn f (cs.map (BH b q y z d))
  | x=>x
def KN(b:Nat)(q:Option (List A))(y z:A)(d:Nat):ar->ar
 | .box ty cs=>.box ty (cs.map (BH b q y z d))
 | .ghost cs=>.ghost (cs.map (BH b q y z d))
 | .cZ ty g sh n hi cs kI has val=>.cZ ty g sh n hi (cs.map (BH b q y z d)) kI has val
 | x=>x
theorem mL{b:Nat}{q:Option (List A)}{y z:A}(hq:∀cs o v,q=some cs->Rel ids im w (.ref b o) v->aA bL w (.bref cs o) v)(hi:∀b,im b->bL b)(hd:∀(b':Nat) p,b'≠b->ids[b']?=some p->ab[b']?=some p)
  (hy:∀v,Rel ids im w (.own b) v->aA bL w y v) (Iz:∀v,Rel ids im w (.omap b) v->aA bL w z v) :
  ∀(d:Nat) (x:A) (v:Value),Rel ids im w x v->Rel ab bL w (BH b q y z d x) v
 | 0,x,v,_=>.aL (.aj _)
 | d+1,x,v,h=>by
  have keep:∀y,aA im w y v->Rel ab bL w y v:=fun y hy=>.aL (hy.mono hi (fun _ _=>rfl));cases x with
  | ref b' o =>
   simp only[BH];split
   ·rename_i hb;have:=Nat.eq_of_beq_eq_true hb;subst this;split
    ·exact .aL (hq _ _ _ rfl h)
    ·exact .aL (.aj _)
   ·rename_i hb;rcases h.iV with⟨p,h1,rfl⟩|⟨h1,x,y,rfl⟩;rotate_left
    ·exact .lC _ _ x y (hd b' _ (fun e=>by subst e;simp at hb) h1)
    exact .ref _ _ p (hd b' _ (fun e=>by subst e;simp at hb) h1)
  | oref b' i o =>
   simp only[BH];split
   ·exact .aL (.aj _)
   ·rename_i hb;rcases h.ja with⟨p,h1,rfl⟩|⟨h1,x,y,rfl⟩;rotate_left
    ·exact .ic _ _ _ x y (hd b' _ (fun e=>by subst e;simp at hb) h1)
    exact .oref _ _ _ p (hd b' _ (fun e=>by subst e;simp at hb) h1)
  | own b' =>
   simp only[BH];split
   ·rename_i hb;have:=Nat.eq_of_beq_eq_true hb;subst this;exact .aL (hy v h)
   ·rename_i hb;have hne:b'≠b:=fun e=>by subst e;simp at hb
    rcases h.kJ with⟨h1,rfl⟩|⟨p,cap,h1,h2,h3,rfl⟩|⟨h1,x,n,cap,rfl⟩
    ·exact .gQ _ (hd b' _ hne h1)
    ·exact .own _ cap p (hd b' _ hne h1) h2 h3
    ·exact .lD _ x n cap (hd b' _ hne h1)
  | omap b' =>
   simp only[BH];split
   ·rename_i hb;have:=Nat.eq_of_beq_eq_true hb;subst this;exact .aL (Iz v h)
   ·rename_i hb;rcases h.jY with⟨p,h1,rfl⟩|⟨h1,x,rfl⟩;rotate_left
    ·exact .gI _ x (hd b' _ (fun e=>by subst e;simp at hb) h1)
    exact .omap _ p (hd b' _ (fun e=>by subst e;simp at hb) h1)
  | agg cs =>
   obtain⟨vs,rfl,hl,ho,hr⟩:=h.iW;exact .agg _ vs (by simpa using hl) ho (fun j h h'=>by rw[List.getElem_map];exact mL hq hi hd hy Iz d _ _ (hr j (by simpa using h) h'))
  | tup cs =>
   obtain⟨vs,rfl,hl,hr⟩:=h.kK;exact .tup _ vs (by simpa using hl) (fun j h h'=>by rw[List.getElem_map];exact mL hq hi hd hy Iz d _ _ (hr j (by simpa using h) h'))
  | fn f cs =>
   obtain⟨vs,rfl,hl,hr⟩:=h.ig;exact .fn f _ vs (by simpa using hl) (fun j h h'=>by rw[List.getElem_map];exact mL hq hi hd hy Iz d _ _ (hr j (by simpa using h) h'))
  | int k n=>cases h with|aL h=>exact keep _ h
  | bool k=>cases h with|aL h=>exact keep _ h
  | sb k=>cases h with|aL h=>exact keep _ h
  | str k=>cases h with|aL h=>exact keep _ h
  | iH=>cases h with|aL h=>exact keep _ h
  | bref cs off=>cases h with|aL h=>exact keep _ h
  | aC=>cases h with|aL h=>exact keep _ h
  | sl n sz row=>cases h with|aL h=>exact keep _ h
  | bz=>cases h with|aL h=>exact keep _ h
  | gO=>cases h with|aL h=>exact keep _ h
  | mv g n k v=>cases h with|aL h=>exact keep _ h
  | aj=>exact .aL (.aj _)
  | tf=>exact .aL (.aj _)
  | pe=>exact .aL (.aj _)

theorem aJ.freeze(hs:aJ c s m a w ids)(b:Nat)(q:Option (List A))(y z:A)(d:Nat)(hq:q=none\/∃ty cs,q=some cs/\m.getD b .dead=.box ty cs/\cs.any (cY 4)=false)(hy:y=wk m 1 (.own b)\/y=.aj)(Iz:z=wk m 1 (.omap b)\/z=.aj):
  aJ c (s.map (BH b q y z d)) ((m.map (KN b q y z d)).set b .dead) a w (ids.set b .dead):=by
 have mem:∀(k:Nat) r,(ids.set b .dead)[k]?=some (eU.lv r)->k≠b/\ids[k]?=some (.lv r):=by
  intro k r h;rw[List.getElem?_set] at h;split at h
  ·split at h<;>cases h
  ·rename_i hne;exact⟨fun e=>hne e.symm,h⟩
 have bm:∀r,eU.lv r∈ids.set b .dead->∀x,r.has x->x<w.heap.size/\(w.heap.size<=x\/∃(b:Nat) (p:Id),ids[b]?=some (.lv p)/\p.has x):=by
  intro r hr x hx;obtain⟨k,hk⟩:=List.getElem?_of_mem hr;obtain⟨_,e⟩:=mem k r hk;exact⟨(hs.au r (List.mem_of_getElem? e) x hx).2,.inr ⟨k,r,e,hx⟩⟩
 obtain⟨ez,dH⟩:=hs.de (w':=w) (ab:=ids.set b .dead) (Nat.le_refl _) (fun _ _ _=>rfl) bm
 have hZ:∀p,ids[b]?=some (.lv p)->∀x,p.has x->av c (ids.set b .dead) w x:=by
  intro p hp x hx;have hf:=hs.au p (List.mem_of_getElem? hp) x hx;refine .inr ⟨hf.1,hf.2,fun q hq Ik=>?_⟩;obtain⟨k,hk⟩:=List.getElem?_of_mem hq;obtain⟨e1,e2⟩:=mem k q hk;exact e1 (hs.al k b q p x e2 hp Ik hx)
 have hd:∀(b':Nat) p,b'≠b->ids[b']?=some p->(ids.set b .dead)[b']?=some p:=by
  intro b' p hne h;rw[List.getElem?_set_ne (fun e=>hne e.symm)];exact h
 have J3:∀cs o v,q=some cs->Rel ids (av c ids w) w (.ref b o) v->aA (av c (ids.set b .dead) w) w (.bref cs o) v:=by
  intro cs o v he hv;rcases hq with h|⟨ty,dz,h,KO,nJ⟩
  ·rw[h] at he;cases he
  ·rw[h] at he;cases he;obtain⟨p,cD,rfl⟩:=hs.yT hv (by rw[KO];simp);obtain⟨vs,h1,h2,h3,h4⟩:=hs.uC cD KO
   have:=aA.bref (im:=av c (ids.set b .dead) w) (w:=w) p.aq 0 o cs (fun j=>vs.getD j undef) (hZ p cD _ (.inl rfl))
    (fun j hj=>by have:=h2 j (by omega);simpa[List.getD_eq_getElem?_getD,show j<vs.length by omega] using this)
    (fun j hj=>by have:=h3 _ (List.getElem_mem (show j<vs.length by omega));simpa[List.getD_eq_getElem?_getD,show j<vs.length by omega] using this)
    (fun j hj=>by
     have g1:cY 4 cs[j]=false:=by
      have:=List.any_eq_false.1 nJ _ (List.getElem_mem hj);simpa using this
     have g2:=cS 4 _ _ g1 (h4 j hj (by omega));have g3:=g2.mono ez (fun _ _=>rfl);simpa[List.getD_eq_getElem?_getD,show j<vs.length by omega] using g3)
   simpa using this
 have ZL:∀v,Rel ids (av c ids w) w (.own b) v->aA (av c (ids.set b .dead) w) w y v:=by
  intro v hv;rcases hy with h|h
  ·rw[h];exact PF hs ez hZ hv
  ·rw[h];exact .aj _
 have PG:∀v,Rel ids (av c ids w) w (.omap b) v->aA (av c (ids.set b .dead) w) w z v:=by
  intro v hv;rcases Iz with h|h
  ·rw[h];exact KM hs ez hZ hv
  ·rw[h];exact .aj _
 refine hs.nH rfl rfl rfl (Nat.le_refl _) (fun _ _ _=>rfl) bm (fun vs h=>by
  rcases List.mem_or_eq_of_mem_set h with h|h
  ·exact h
  ·cases h) ?_ (by simp) (by simp[hs.aU]) ?_ ?_
 ·intro k k' r r' x e1 e2 x1 x2;exact hs.al k k' r r' x (mem k r e1).2 (mem k' r' e2).2 x1 x2
 ·intro k h h';rw[List.getElem_map];exact mL J3 ez hd ZL PG d _ _ (hs.cc k (by simpa using h) h')
 ·intro k hk iu;simp only[List.length_set,List.length_map] at hk iu;rw[List.getElem_set,List.getElem_set];split
  ·exact rfl
  ·rename_i he;rw[List.getElem_map];have hB:=hs.bP k hk iu;cases hm:m[k] with
   | box ty cs =>
    rw[hm] at hB;cases hp:ids[k] with
    | dead=>rw[hp] at hB;exact hB.elim
    | aw=>rw[hp] at hB;exact hB.elim
    | bg=>rw[hp] at hB;exact hB.elim
    | cV vs=>rw[hp] at hB;exact hB.elim
    | lv p =>
     rw[hp] at hB;obtain⟨vs,g1,g2,g3,g4⟩:=hB;refine⟨vs,g1,g2,by simpa using g3,?_⟩;intro j hj cH;have:=g4 j (by simpa using hj) cH;rw[List.getElem_map];exact⟨mL J3 ez hd ZL PG d _ _ this.1,this.2⟩
   | dead=>rw[hm] at hB;exact hB
   | gone=>rw[hm] at hB;exact hB
   | ghost cs =>
    rw[hm] at hB;cases hp:ids[k] with
    | dead=>rw[hp] at hB;exact hB.elim
    | aw=>rw[hp] at hB;exact hB.elim
    | bg=>rw[hp] at hB;exact hB.elim
    | lv p=>rw[hp] at hB;exact hB.elim
    | cV vs =>
     rw[hp] at hB;refine⟨by simpa using hB.1,fun j hj cH=>?_⟩;rw[List.getElem_map];exact mL J3 ez hd ZL PG d _ _ (hB.2 j (by simpa using hj) cH)
   | row ty sz n row=>rw[hm] at hB;exact bq.nF (ids:=[]) (ab:=_) ez dH (fun _ _ h=>by simp at h) (fun _ _ _ _=>rfl) (by cases h:ids[k]<;>rw[h] at hB<;>exact hB)
   | nest ty aW sz n ho le row=>rw[hm] at hB;exact bq.nF (ids:=[]) (ab:=_) ez dH (fun _ _ h=>by simp at h) (fun _ _ _ _=>rfl) (by cases h:ids[k]<;>rw[h] at hB<;>exact hB)
   | fK g n key val=>rw[hm] at hB;exact bq.nF (ids:=[]) (ab:=_) ez dH (fun _ _ h=>by simp at h) (fun _ _ _ _=>rfl) (by cases h:ids[k]<;>rw[h] at hB<;>exact hB)
   | qm g n key val=>rw[hm] at hB;exact bq.nF (ids:=[]) (ab:=_) ez dH (fun _ _ h=>by simp at h) (fun _ _ _ _=>rfl) (by cases h:ids[k]<;>rw[h] at hB<;>exact hB)
   | cZ ty g sh n dH cs kI has val =>
    rw[hm] at hB;cases hp:ids[k] with
    | dead=>rw[hp] at hB;exact hB.elim
    | aw=>rw[hp] at hB;exact hB.elim
    | bg=>rw[hp] at hB;exact hB
    | cV vs=>rw[hp] at hB;exact hB.elim
    | lv p =>
     rw[hp] at hB;exact nw (BH b q y z d) (fun _ _=>rfl) (fun _ _ h=>h.mono ez (fun _ _=>rfl)) (fun x v h=>mL J3 ez hd ZL PG d x v h) hB
   | bW ty sz n Φ=>rw[hm] at hB;exact bq.nF (ids:=[]) (ab:=_) ez dH (fun _ _ h=>by simp at h) (fun _ _ _ _=>rfl) (by cases h:ids[k]<;>rw[h] at hB<;>exact hB)
   | Ie g n key val se=>rw[hm] at hB;exact bq.nF (ids:=[]) (ab:=_) ez dH (fun _ _ h=>by simp at h) (fun _ _ _ _=>rfl) (by cases h:ids[k]<;>rw[h] at hB<;>exact hB)

def PH(b:Nat)(s:List A)(m:List ar)(K:List A->List ar->Prop):Prop :=
 match m.getD b .dead with
 | .row _ sz n row=>fd.sf 4 (s.map (BH b none (.sl n sz row) .aj 4)) fun s'=>sj ((m.map (KN b none (.sl n sz row) .aj 4)).set b .dead) fun m'=>K s' m'
 | .nest _ _ sz n hole len row=>match hole with
  | none=>fd.sf 4 (s.map (BH b none (.sl n 1 fun i=>[.sl (len i) sz (row i)]) .aj 4)) fun s'=>sj ((m.map (KN b none (.sl n 1 fun i=>[.sl (len i) sz (row i)]) .aj 4)).set b .dead) fun m'=>K s' m'
  | some _=>False
 | .fK g n key val=>fd.sf 4 (s.map (BH b none .aj (.mv g n key val) 4)) fun s'=>sj ((m.map (KN b none .aj (.mv g n key val) 4)).set b .dead) fun m'=>K s' m'
 | .box _ cs=>match cs.any (cY 4) with
  | false=>fd.sf 4 (s.map (BH b (some cs) .aj .aj 4)) fun s'=>sj ((m.map (KN b (some cs) .aj .aj 4)).set b .dead) fun m'=>K s' m'
  | true=>False
 | _=>False
theorem vF(hs:aJ c s m a w ids){b:Nat}{K:List A->List ar->Prop}(h:PH b s m K):∃s' m' ab,K s' m'/\aJ c s' m' a w ab:=by
 unfold PH at h;split at h
 ·rename_i ty sz n row hb;rw[cX,eK] at h;exact⟨_,_,_,h,hs.freeze b none _ _ 4 (.inl rfl) (.inl (by simp only[wk,hb])) (.inr rfl)⟩
 ·rename_i ty aW sz n hole len row hb;split at h
  ·rw[cX,eK] at h;exact⟨_,_,_,h,hs.freeze b none _ _ 4 (.inl rfl) (.inl (by simp only[wk,hb])) (.inr rfl)⟩
  ·exact h.elim
 ·rename_i g n key val hb;rw[cX,eK] at h;exact⟨_,_,_,h,hs.freeze b none _ _ 4 (.inl rfl) (.inr rfl) (.inl (by simp only[wk,hb]))⟩
 ·rename_i ty cs hb;split at h
  ·rename_i bm;rw[cX,eK] at h;exact⟨_,_,_,h,hs.freeze b (some cs) _ _ 4 (.inr ⟨ty,cs,rfl,hb,bm⟩) (.inr rfl) (.inr rfl)⟩
  ·exact h.elim
 ·exact h.elim
def oK:List Nat->List A->List ar->(List A->List ar->Prop)->Prop
 | [],s,m,K=>K s m
 | b::bs,s,m,K=>PH b s m fun s' m'=>oK bs s' m' K
theorem gl:∀(bs:List Nat) {s:List A} {m:List ar} {ids:dV} {K:List A->List ar->Prop},aJ c s m a w ids->oK bs s m K->∃s' m' ab,K s' m'/\aJ c s' m' a w ab
 | [],s,m,ids,K,hs,h=>⟨s,m,ids,h,hs⟩
 | b::bs,s,m,ids,K,hs,h=>by
  obtain⟨s',m',ab,h',bY⟩:=vF hs h;exact gl bs bY h'
end
section
variable {c:Ctx} {s:List A} {m:List ar} {a:Act} {w w':World} {ids ab:dV} {P:Program} {im bL:Nat->Prop} {tt:TT} {G:aK}
variable {next:Act->World->Prop} {Q:Exit->Act->World->Prop} {o:Oper}

theorem Rel.gz{b:Nat}(hi:∀b,im b->bL b)(hw:∀b,im b->w'.heap[b]?=w.heap[b]?)(hd:∀(b':Nat) p,b'≠b->ids[b']?=some p->p≠.dead->∃q,ab[b']?=some q/\jH p q)
  (hb:ab[b]?=some .aw) {x:A} {v:Value} (h:Rel ids im w x v):Rel ab bL w' x v:=by
 have st:∀b1,b1≠b->ids[b1]?=some .aw->ab[b1]?=some .aw:=fun b1 e h=>by
  obtain⟨q,h1,h2⟩:=hd _ _ e h (by simp);have h2:q=.aw:=h2;rw[h1,h2]
 induction h with
 | aL h=>exact .aL (h.mono hi hw)
 | ref b1 off p h =>
  by_cases e:b1=b
  ·subst e;exact .lC _ _ _ _ hb
  ·obtain⟨q,h1,p',rfl,h2⟩:=hd _ _ e h (by simp);rw[<-h2.1];exact .ref _ off p' h1
 | oref b1 i off p h =>
  by_cases e:b1=b
  ·subst e;exact .ic _ _ _ _ _ hb
  ·obtain⟨q,h1,p',rfl,h2⟩:=hd _ _ e h (by simp);rw[<-h2.1,<-h2.2.2.2.1];exact .oref _ i off p' h1
 | gQ b1 h =>
  by_cases e:b1=b
  ·subst e;exact .lD _ _ _ _ hb
  ·obtain⟨q,h1,h2⟩:=hd _ _ e h (by simp);have h2:q=.bg:=h2;subst h2;exact .gQ _ h1
 | own b1 cap p h hn hm =>
  by_cases e:b1=b
  ·subst e;exact .lD _ _ _ _ hb
  ·obtain⟨q,h1,p',rfl,h2⟩:=hd _ _ e h (by simp);rw[<-h2.1,<-h2.2.2.1];exact .own _ cap p' h1 (by rw[h2.2.2.1];exact hn) (by rw[h2.2.1,h2.2.2.2.1];exact hm)
 | lD b1 x n cap h =>
  by_cases e:b1=b
  ·subst e;exact .lD _ _ _ _ hb
  ·exact .lD _ _ _ _ (st _ e h)
 | lC b1 off x y h =>
  by_cases e:b1=b
  ·subst e;exact .lC _ _ _ _ hb
  ·exact .lC _ _ _ _ (st _ e h)
 | ic b1 i off x y h =>
  by_cases e:b1=b
  ·subst e;exact .ic _ _ _ _ _ hb
  ·exact .ic _ _ _ _ _ (st _ e h)
 | gI b1 x h =>
  by_cases e:b1=b
  ·subst e;exact .gI _ _ hb
  ·exact .gI _ _ (st _ e h)
 | omap b1 p h =>
  by_cases e:b1=b
  ·subst e;exact .gI _ _ hb
  ·obtain⟨q,h1,p',rfl,h2⟩:=hd _ _ e h (by simp);rw[<-h2.1];exact .omap _ p' h1
 | tf b1 k p n h hn =>
  by_cases e:b1=b
  ·subst e;exact .rT _ _ _ hb
  ·obtain⟨q,h1,p',rfl,h2⟩:=hd _ _ e h (by simp);exact .tf _ _ p' n h1 (h2.2.2.2.2 _ _ hn)
 | rT b1 k n h =>
  by_cases e:b1=b
  ·subst e;exact .rT _ _ _ hb
  ·exact .rT _ _ _ (st _ e h)
 | pe b1 k cap x p h hx =>
  by_cases e:b1=b
  ·subst e;exact .pD _ _ _ _ _ hb
  ·obtain⟨q,h1,p',rfl,h2⟩:=hd _ _ e h (by simp);rw[<-h2.1,<-h2.2.2.1];exact .pe _ k cap x p' h1 (by rw[h2.2.2.1,h2.2.2.2.1];exact hx)
 | rU b1 k h =>
  by_cases e:b1=b
  ·subst e;exact .pD _ _ _ _ _ hb
  ·obtain⟨q,h1,h2⟩:=hd _ _ e h (by simp);have h2:q=.bg:=h2;subst h2;exact .rU _ _ h1
 | pD b1 k x n cap h =>
  by_cases e:b1=b
  ·subst e;exact .pD _ _ _ _ _ hb
  ·exact .pD _ _ _ _ _ (st _ e h)
 | agg cs vs hl ho hr ih=>exact .agg cs vs hl ho ih
 | tup cs vs hl hr ih=>exact .tup cs vs hl ih
 | fn f cs vs hl hr ih=>exact .fn f cs vs hl ih

theorem bq.gz{b:Nat}(hi:∀b,im b->bL b)(hw:∀b,im b->w'.heap[b]?=w.heap[b]?)(hd:∀(b':Nat) p,b'≠b->ids[b']?=some p->p≠.dead->∃q,ab[b']?=some q/\jH p q)
  (hb:ab[b]?=some .aw) {x:ar} {p:eU} (hp:∀q,p=.lv q->∀k,q.has k->w'.heap[k]?=w.heap[k]?) (h:bq ids im w x p):bq ab bL w' x p:=by
 cases x with
 | box ty cs =>
  cases p with
  | dead=>exact h
  | aw=>exact h
  | bg=>exact h
  | cV vs=>exact h
  | lv q =>
   obtain⟨vs,h1,h2,h3,h4⟩:=h;exact⟨vs,by rw[hp _ rfl _ (.inl rfl)];exact h1,h2,h3,fun j h h'=>⟨(h4 j h h').1.gz hi hw hd hb,(h4 j h h').2⟩⟩
 | dead=>exact h
 | gone=>exact h
 | row ty sz n row=>have h:=bq.mono (ids:=ids) (ab:=ids) hi hw (fun _ _ h _=>h) hp h;cases p<;>exact h
 | nest ty aW sz n ho le row=>have h:=bq.mono (ids:=ids) (ab:=ids) hi hw (fun _ _ h _=>h) hp h;cases p<;>exact h
 | fK g n k v=>have h:=bq.mono (ids:=ids) (ab:=ids) hi hw (fun _ _ h _=>h) hp h;cases p<;>exact h
 | qm g n k v=>have h:=bq.mono (ids:=ids) (ab:=ids) hi hw (fun _ _ h _=>h) hp h;cases p<;>exact h
 | Ie g n k v se=>have h:=bq.mono (ids:=ids) (ab:=ids) hi hw (fun _ _ h _=>h) hp h;cases p<;>exact h
 | bW ty sz n Φ=>have h:=bq.mono (ids:=ids) (ab:=ids) hi hw (fun _ _ h _=>h) hp h;cases p<;>exact h
 | cZ ty g sh n dH cs kI has val =>
  cases p with
  | dead=>exact h
  | aw=>exact h
  | bg=>exact h
  | cV vs=>exact h
  | lv q=>exact rZ (hp _ rfl) (fun _ _ h=>h.mono hi hw) (fun _ _ h=>h.gz hi hw hd hb) h
 | ghost cs =>
  cases p with
  | dead=>exact h
  | aw=>exact h
  | bg=>exact h
  | lv q=>exact h
  | cV vs=>exact⟨h.1,fun j h1 h2=>(h.2 j h1 h2).gz hi hw hd hb⟩

/-- Block b is gone; what it was, changed, lies at a place that was kept. -/
theorem aJ.zm(hs:aJ c s m a w ids)(b aD:Nat)(hb:b<m.length)(mE:m[b]?≠some .dead)(eG:m[aD]?=some .dead)(q:eU)(x:ar)
  (Sj:w'.os=w.os) (W4:w'.tape=w.tape) (W5:w'.output=w.output) (cj:w.heap.size<=w'.heap.size)
  (gk:∀k,k<w.heap.size->(∀p,ids[b]?=some (.lv p)->¬p.has k)->w'.heap[k]?=w.heap[k]?)
  (Wq:∀vs,q≠.cV vs)
  (hq:∀p',q=.lv p'->∀x,p'.has x->x<w'.heap.size/\(w.heap.size<=x\/∃p,ids[b]?=some (.lv p)/\p.has x))
  (hx:(∀u v,aA (av c ids w) w u v->aA (av c ((ids.set b .aw).set aD q) w') w' u v)->bq ((ids.set b .aw).set aD q) (av c ((ids.set b .aw).set aD q) w') w' x q)
  (Bu:fL w.drawn w'.drawn:=by exact fL.refl _) :
  aJ c s ((m.set b .gone).set aD x) a w' ((ids.set b .aw).set aD q):=by
 have fg:b<ids.length:=by rw[hs.aU];exact hb
 obtain⟨Xo,hmd⟩:=List.getElem?_eq_some_iff.1 eG;have TJ:aD<ids.length:=by rw[hs.aU];exact Xo
 have Wt:ids[aD]?=some .dead:=by
  have:=hs.bP aD Xo TJ;rw[hmd] at this;rw[List.getElem?_eq_getElem TJ,show ids[aD]=.dead from this]
 have BI:aD≠b:=fun e=>by subst e;exact mE eG
 have bX:∀k,k≠aD->k≠b->((ids.set b .aw).set aD q)[k]?=ids[k]?:=by
  intro k hk hne;rw[List.getElem?_set_ne (fun e=>hk e.symm),List.getElem?_set_ne (fun e=>hne e.symm)]
 have eM:((ids.set b .aw).set aD q)[b]?=some .aw:=by rw[List.getElem?_set_ne BI,List.getElem?_set_self fg]
 have kO:((ids.set b .aw).set aD q)[aD]?=some q:=by rw[List.getElem?_set_self (by simpa using TJ)]
 have bE:∀(k:Nat) (r:Id),((ids.set b .aw).set aD q)[k]?=some (.lv r)->(k=aD/\q=.lv r)\/(k≠b/\k≠aD/\ids[k]?=some (.lv r)):=by
  intro k r h;by_cases TK:k=aD
  ·subst TK;rw[kO] at h;exact .inl ⟨rfl,Option.some.inj h⟩
  ·by_cases sr:k=b
   ·subst sr;rw[eM] at h;cases h
   ·rw[bX k TK sr] at h;exact .inr ⟨sr,TK,h⟩
 have bm:∀r,eU.lv r∈((ids.set b .aw).set aD q)->∀y,r.has y->y<w'.heap.size/\(w.heap.size<=y\/∃(b:Nat) (p:Id),ids[b]?=some (.lv p)/\p.has y):=by
  intro r hr y hy;obtain⟨k,hk⟩:=List.getElem?_of_mem hr;rcases bE k r hk with⟨_,e⟩|⟨_,_,e⟩
  ·obtain⟨h1,h2⟩:=hq r e y hy;exact⟨h1,h2.imp id fun⟨p,h3,h4⟩=>⟨b,p,h3,h4⟩⟩
  ·exact⟨Nat.lt_of_lt_of_le (hs.au r (List.mem_of_getElem? e) y hy).2 cj,.inr ⟨k,r,e,hy⟩⟩
 have Xq:∀k,k<w.heap.size->(∀(b:Nat) (p:Id),ids[b]?=some (.lv p)->¬p.has k)->w'.heap[k]?=w.heap[k]?:=fun k hk h=>gk k hk (fun p hp=>h b p hp);obtain⟨ez,dH⟩:=hs.de (w':=w') (ab:=(ids.set b .aw).set aD q) cj Xq bm
 have hd:∀(b':Nat) r,b'≠b->ids[b']?=some r->r≠.dead->∃q',((ids.set b .aw).set aD q)[b']?=some q'/\jH r q':=by
  intro b' r su hr J7;exact⟨r,by rw[bX b' (fun e=>by subst e;rw[Wt] at hr;exact J7 (Option.some.inj hr).symm) su];exact hr,fO r⟩
 refine hs.nH (Bu:=Bu) Sj W4 W5 cj Xq bm (fun vs h=>?_) ?_ rfl (by simp[hs.aU]) (fun i h h'=>(hs.cc i h h').gz ez dH hd eM) ?_
 ·rcases List.mem_or_eq_of_mem_set h with h|h
  ·rcases List.mem_or_eq_of_mem_set h with h|h
   ·exact h
   ·cases h
  ·exact absurd h.symm (Wq vs)
 ·intro k k' r r' y e1 e2 x1 x2;rcases bE k r e1 with⟨rfl,e⟩|⟨ne,_,e⟩<;>rcases bE k' r' e2 with⟨rfl,e'⟩|⟨ne',_,e'⟩
  ·rfl
  ·rcases (hq r e y x1).2 with h|⟨p,h1,h2⟩
   ·have:=(hs.au r' (List.mem_of_getElem? e') y x2).2;omega
   ·exact absurd (hs.al _ _ p r' y h1 e' h2 x2).symm ne'
  ·rcases (hq r' e' y x2).2 with h|⟨p,h1,h2⟩
   ·have:=(hs.au r (List.mem_of_getElem? e) y x1).2;omega
   ·exact absurd (hs.al _ _ r p y e h1 x1 h2) ne
  ·exact hs.al k k' r r' y e e' x1 x2
 ·intro k hk iu;simp only[List.length_set] at hk;have gE:((ids.set b .aw).set aD q)[k]?=some ((ids.set b .aw).set aD q)[k]:=List.getElem?_eq_getElem iu;rw[List.getElem_set];split
  ·rename_i he;subst he;rw[kO] at gE;rw[<-Option.some.inj gE];exact hx (fun u v h=>h.mono ez dH)
  ·rename_i hea;rw[List.getElem_set];split
   ·rename_i he;subst he;rw[eM] at gE;rw[<-Option.some.inj gE];exact rfl
   ·rename_i he;have qA:k<ids.length:=by rw[hs.aU];exact hk
    rw[bX k (fun e=>hea e.symm) (fun e=>he e.symm),List.getElem?_eq_getElem qA] at gE;rw[<-Option.some.inj gE];refine(hs.bP k hk qA).gz ez dH hd eM ?_;intro q' J3 y hy;have W6:ids[k]?=some (.lv q'):=by rw[List.getElem?_eq_getElem qA,J3]
    refine gk y (hs.au q' (List.mem_of_getElem? W6) y hy).2 (fun p0 ZE e=>?_);exact he (hs.al b k p0 q' y ZE W6 e hy)
/-- A nest from which an inner row is taken. -/
theorem aJ.TL(hs:aJ c s m a w ids){b i:Nat}{aD:Nat}(eG:m[aD]?=some .dead){ty aW:TypeId}{sz n:Nat}{len:Nat->Nat}{row:Nat->Nat->List A}(hb:m.getD b .dead=.nest ty aW sz n none len row)(hi:i<n):
  ∃p vs ab v,ids[b]?=some (.lv p)/\w.heap[p.aq]?=some (.cells vs ty (0,0))/\vs[i]?=some v/\p.sz=1 /\
   aJ c s ((m.set b (.nest ty aW sz n (some i) len row)).set aD (.row aW sz (len i) (row i))) a w ab/\Rel ab (av c ab w) w (.own aD) v:=by
 obtain⟨p,cD,hB,mE,fg⟩:=qw hs hb (by omega);obtain⟨g1,g2,g3,vs,h1,h2,h3,kb,h4⟩:=hB;have zd:i<vs.size:=by omega
 obtain⟨k1,k2,k3⟩:=h4 i hi (by simp) zd
 -- the new names
 let p':Id:=⟨p.aq,p.k,p.n,p.sz,fun x=>p.Bh x/\kb i≠some x,p.vg⟩
 have nI:∀x,p'.has x->p.has x:=by
  rintro x (h|h)
  ·exact .inl h
  ·exact .inr h.1
 have hq:∃q:eU,(∀q',q=.lv q'->∀x,q'.has x->kb i=some x)/\(∀im w',(∀x,kb i=some x->w'.heap[x]?=w.heap[x]?)->(∀u v,aA (av c ids w) w u v->aA im w' u v)->∀ab,bq ab im w' (.row aW sz (len i) (row i)) q) /\
   (∀ab im w' k,ab[k]?=some q->Rel ab im w' (.own k) vs[i]):=by
  rcases k1 with⟨e1,e2,e3⟩|⟨q,cap,us,e1,e2,e3,e4,e5,e6,e7,e8⟩
  ·exact⟨.bg,(fun q' h=>by cases h),(fun _ _ _ _ _=>e2),(fun ab im w' k h=>by rw[e1];exact .gQ k h)⟩
  ·refine⟨.lv (mkId q us.size (len i) sz),(fun q' h x hx=>by cases h;rw[cQ hx];exact e2),?_,?_⟩
   ·intro im w' hk hm ab;refine⟨rfl,rfl,us,by show w'.heap[q]?=_;rw[hk q e2];exact e3,rfl,?_,e7,fun i' j cx h h'=>⟨hm _ _ (e8 i' j cx h h').1,(e8 i' j cx h h').2⟩⟩;show len i*sz<=us.size;rw[e4];exact Nat.mul_le_mul_right _ e5
   ·intro ab im w' k h;rw[e1];exact .own k cap (mkId q us.size (len i) sz) h ⟨e5,e6⟩ e4.symm
 obtain⟨q,D8,BB,hq3⟩:=hq;obtain⟨Xo,hmd⟩:=List.getElem?_eq_some_iff.1 eG;have TJ:aD<ids.length:=by rw[hs.aU];exact Xo
 have Wt:ids[aD]?=some .dead:=by
  have:=hs.bP aD Xo TJ;rw[hmd] at this;rw[List.getElem?_eq_getElem TJ,show ids[aD]=.dead from this]
 have BI:aD≠b:=fun e=>by subst e;rw[Wt] at cD;cases cD
 let ab:=(ids.set b (.lv p')).set aD q
 have O2:ab.length=ids.length:=by simp[ab]
 have bX:∀k,k≠aD->k≠b->ab[k]?=ids[k]?:=by
  intro k hk hne;simp only[ab];rw[List.getElem?_set_ne (fun e=>hk e.symm),List.getElem?_set_ne (fun e=>hne e.symm)]
 have eM:ab[b]?=some (.lv p'):=by
  simp only[ab];rw[List.getElem?_set_ne BI,List.getElem?_set_self fg]
 have kO:ab[aD]?=some q:=by
  simp only[ab];rw[List.getElem?_set_self (by simpa using TJ)]
 have bE:∀(k:Nat) (r:Id),ab[k]?=some (.lv r)->(k=b/\r=p')\/(k=aD/\q=.lv r)\/(k≠b/\k≠aD/\ids[k]?=some (.lv r)):=by
  intro k r h;by_cases TK:k=aD
  ·subst TK;rw[kO] at h;exact .inr (.inl ⟨rfl,Option.some.inj h⟩)
  ·by_cases sr:k=b
   ·subst sr;rw[eM] at h;cases h;exact .inl ⟨rfl,rfl⟩
   ·rw[bX k TK sr] at h;exact .inr (.inr ⟨sr,TK,h⟩)
 have bm:∀r,eU.lv r∈ab->∀x,r.has x->x<w.heap.size/\(w.heap.size<=x\/∃(b:Nat) (p:Id),ids[b]?=some (.lv p)/\p.has x):=by
  intro r hr x hx;obtain⟨k,hk⟩:=List.getElem?_of_mem hr;rcases bE k r hk with⟨_,rfl⟩|⟨_,e⟩|⟨_,_,e⟩
  ·exact⟨(hs.au p (List.mem_of_getElem? cD) x (nI x hx)).2,.inr ⟨b,p,cD,nI x hx⟩⟩
  ·have Ik:p.has x:=.inr (k2 x (D8 r e x hx));exact⟨(hs.au p (List.mem_of_getElem? cD) x Ik).2,.inr ⟨b,p,cD,Ik⟩⟩
  ·exact⟨(hs.au r (List.mem_of_getElem? e) x hx).2,.inr ⟨k,r,e,hx⟩⟩
 obtain⟨ez,dH⟩:=hs.de (w':=w) (ab:=ab) (Nat.le_refl _) (fun _ _ _=>rfl) bm
 have hd:∀(b':Nat) r,ids[b']?=some r->r≠.dead->∃q,ab[b']?=some q/\jH r q:=by
  intro b' r hr J7;by_cases su:b'=b
  ·subst su;rw[cD] at hr;cases hr;exact⟨_,eM,p',rfl,rfl,rfl,rfl,rfl,fun _ _ h=>h⟩
  ·exact⟨r,by rw[bX b' (fun e=>by subst e;rw[Wt] at hr;exact J7 (Option.some.inj hr).symm) su];exact hr,fO r⟩
 have nh:∀u v,aA (av c ids w) w u v->aA (av c ab w) w u v:=fun u v h=>h.mono ez dH;refine⟨p,vs,ab,vs[i],cD,h1,Array.getElem?_eq_getElem zd,g1,?_,hq3 _ _ _ _ kO⟩
 have hgq:∀vs,q≠.cV vs:=fun vs e=>by
  have:=BB (av c ids w) w (fun _ _=>rfl) (fun _ _ h=>h) [];rw[e] at this;exact this
 refine hs.nH rfl rfl rfl (Nat.le_refl _) (fun _ _ _=>rfl) bm (fun vs h=>by
  simp only[ab] at h;rcases List.mem_or_eq_of_mem_set h with h|h
  ·rcases List.mem_or_eq_of_mem_set h with h|h
   ·exact h
   ·cases h
  ·exact absurd h.symm (hgq vs)) ?_ rfl (by simp[ab,hs.aU]) (fun i h h'=>(hs.cc i h h').nF ez dH hd) ?_
 ·intro k k' r r' x e1 e2 x1 x2;have inb:∀y,q=.lv r->r.has y->p.Bh y:=fun y e hy=>k2 y (D8 r e y hy);rcases bE k r e1 with⟨rfl,rfl⟩|⟨rfl,e⟩|⟨ne,_,e⟩<;>rcases bE k' r' e2 with⟨rfl,rfl⟩|⟨rfl,e'⟩|⟨ne',_,e'⟩
  ·rfl
  ·exfalso;have hx:=D8 r' e' x x2;rcases x1 with h|h
   ·exact g3 (by rw[<-h];exact k2 x hx)
   ·exact h.2 hx
  ·exact absurd (hs.al _ _ p r' x cD e' (nI x x1) x2).symm ne'
  ·exfalso;have hx:=D8 r e x x1;rcases x2 with h|h
   ·exact g3 (by rw[<-h];exact k2 x hx)
   ·exact h.2 hx
  ·rfl
  ·exact absurd (hs.al _ _ p r' x cD e' (.inr (k2 x (D8 r e x x1))) x2).symm ne'
  ·exact absurd (hs.al _ _ r p x e cD x1 (nI x x2)) ne
  ·exact absurd (hs.al _ _ r p x e cD x1 (.inr (k2 x (D8 r' e' x x2)))) ne
  ·exact hs.al k k' r r' x e e' x1 x2
 ·intro k hk iu;simp only[List.length_set] at hk;have gE:ab[k]?=some ab[k]:=List.getElem?_eq_getElem iu;rw[List.getElem_set];split
  ·rename_i he;subst he;rw[kO] at gE;rw[<-Option.some.inj gE];exact BB _ _ (fun _ _=>rfl) nh _
  ·rename_i hea;rw[List.getElem_set];split
   ·rename_i he;subst he;rw[eM] at gE;rw[<-Option.some.inj gE];refine⟨g1,g2,(fun h=>g3 h.1),vs,h1,h2,h3,kb,?_⟩;intro j hj KF PB;obtain⟨j1,j2,j3⟩:=h4 j hj (by simp) PB;have D5:j≠i:=fun e=>KF (by rw[e]);refine⟨j1.mono ez dH (fun _ _=>rfl),fun x hx=>⟨j2 x hx,fun e=>?_⟩,fun j' cH _ e1 e2=>j3 j' cH (by simp) e1 e2⟩;exact D5 (k3 j hj (by simp) (by rw[hx,e]) (by rw[e];simp))
   ·rename_i he;have qA:k<ids.length:=by rw[hs.aU];exact hk
    rw[bX k (fun e=>hea e.symm) (fun e=>he e.symm),List.getElem?_eq_getElem qA] at gE;rw[<-Option.some.inj gE];exact(hs.bP k hk qA).nF ez dH hd (fun _ _ _ _=>rfl)
/-- An inner row is put back. -/
theorem aJ.KP(hs:aJ c s m a w ids){b b' i:Nat}{ty aW:TypeId}{sz n n':Nat}{len:Nat->Nat}{row:Nat->Nat->List A}{dZ:Nat->List A}(hb:m.getD b .dead=.nest ty aW sz n (some i) len row)
  (fN:m.getD b' .dead=.row aW sz n' dZ) (hne:b≠b') (hi:i<n) {v:Value} (hv:Rel ids (av c ids w) w (.own b') v) :
  ∃p vs ab,ids[b]?=some (.lv p)/\w.heap[p.aq]?=some (.cells vs ty (0,0))/\i<vs.size/\p.sz=1 /\
   aJ c s ((m.set b (.nest ty aW sz n none (iO len i n') (iO row i dZ))).set b' .gone) a (w.setRow p.aq (vs.setIfInBounds i v)) ab:=by
 obtain⟨p,cD,hB,mE,fg⟩:=qw hs hb (by omega);obtain⟨g1,g2,g3,vs,h1,h2,h3,kb,h4⟩:=hB;have zd:i<vs.size:=by omega
 obtain⟨BC,Iw⟩:=getD_some (by simp) fN;have pN:b'<ids.length:=by rw[hs.aU];exact BC
 let w':=w.setRow p.aq (vs.setIfInBounds i v)
 have cj:w'.heap.size=w.heap.size:=by simp[w',World.setRow]
 -- the inner Gr name
 have hx:∃x:Option Nat,(∀y,x=some y->∃q,ids[b']?=some (.lv q)/\q.aq=y) /\
   (∀im w',(∀y,x=some y->w'.heap[y]?=w.heap[y]?)->(∀u v,aA (av c ids w) w u v->aA im w' u v)->pj im w' aW sz n' dZ v x):=by
  rcases oH hs hv fN with⟨e1,e2,e3⟩|⟨q,cap,e1,e2,e3,e4,e5,e6⟩
  ·exact⟨none,(fun y h=>by cases h),fun _ _ _ _=>.inl ⟨e2,e1,rfl⟩⟩
  ·have J4:=hs.bP b' BC pN;rw[List.getElem?_eq_getElem pN] at e1;rw[Iw,Option.some.inj e1] at J4;obtain⟨q1,q2,us,q3,q4,q5,q6,q7⟩:=J4;refine⟨some q.aq,(fun y h=>by cases h;exact⟨q,by rw[List.getElem?_eq_getElem pN];exact e1,rfl⟩),fun im w' hk hm=>.inr ⟨q.aq,cap,us,e6,rfl,by rw[hk _ rfl];exact q3,by rw[q4,e3],e2.1,e2.2,q6,fun i' j cx h h'=>⟨hm _ _ (q7 i' j cx h h').1,(q7 i' j cx h h').2⟩⟩⟩
 obtain⟨x,xU,Xc⟩:=hx
 let p':Id:=⟨p.aq,p.k,p.n,p.sz,fun y=>p.Bh y\/x=some y,p.vg⟩
 have nI:∀y,p'.has y->p.has y\/x=some y:=by
  rintro y (h|h|h)
  ·exact .inl (.inl h)
  ·exact .inl (.inr h)
  ·exact .inr h
 let ab:=(ids.set b (.lv p')).set b' .aw
 have O2:ab.length=ids.length:=by simp[ab]
 have bX:∀k,k≠b->k≠b'->ab[k]?=ids[k]?:=by
  intro k h1 h2;simp only[ab];rw[List.getElem?_set_ne (fun e=>h2 e.symm),List.getElem?_set_ne (fun e=>h1 e.symm)]
 have eM:ab[b]?=some (.lv p'):=by
  simp only[ab];rw[List.getElem?_set_ne (fun e=>hne e.symm),List.getElem?_set_self fg]
 have jy:ab[b']?=some .aw:=by
  simp only[ab];rw[List.getElem?_set_self (by simpa using pN)]
 have bE:∀(k:Nat) (r:Id),ab[k]?=some (.lv r)->(k=b/\r=p')\/(k≠b/\k≠b'/\ids[k]?=some (.lv r)):=by
  intro k r h;by_cases sr:k=b
  ·subst sr;rw[eM] at h;cases h;exact .inl ⟨rfl,rfl⟩
  ·by_cases vD:k=b'
   ·subst vD;rw[jy] at h;cases h
   ·rw[bX k sr vD] at h;exact .inr ⟨sr,vD,h⟩
 have bm:∀r,eU.lv r∈ab->∀y,r.has y->y<w'.heap.size/\(w.heap.size<=y\/∃(b:Nat) (p:Id),ids[b]?=some (.lv p)/\p.has y):=by
  intro r hr y hy;rw[cj];obtain⟨k,hk⟩:=List.getElem?_of_mem hr;rcases bE k r hk with⟨_,rfl⟩|⟨_,_,e⟩
  ·rcases nI y hy with h|h
   ·exact⟨(hs.au p (List.mem_of_getElem? cD) y h).2,.inr ⟨b,p,cD,h⟩⟩
   ·obtain⟨q,q1,q2⟩:=xU y h;have:q.has y:=.inl q2.symm;exact⟨(hs.au q (List.mem_of_getElem? q1) y this).2,.inr ⟨b',q,q1,this⟩⟩
  ·exact⟨(hs.au r (List.mem_of_getElem? e) y hy).2,.inr ⟨k,r,e,hy⟩⟩
 have gk:∀k,k<w.heap.size->(∀(b:Nat) (p:Id),ids[b]?=some (.lv p)->¬p.has k)->w'.heap[k]?=w.heap[k]?:=by
  intro k _ hk;exact setRow_other w p.aq k _ (fun e=>hk b p cD (.inl e))
 obtain⟨ez,dH⟩:=hs.de (w':=w') (ab:=ab) (by rw[cj];exact Nat.le_refl _) gk bm
 have hd:∀(k:Nat) r,k≠b'->ids[k]?=some r->r≠.dead->∃q,ab[k]?=some q/\jH r q:=by
  intro k r hk hr _;by_cases su:k=b
  ·subst su;rw[cD] at hr;cases hr;exact⟨_,eM,p',rfl,rfl,rfl,rfl,rfl,fun _ _ h=>h⟩
  ·exact⟨r,by rw[bX k su hk];exact hr,fO r⟩
 have nh:∀u v,aA (av c ids w) w u v->aA (av c ab w') w' u v:=fun u v h=>h.mono ez dH
 have Xd:∀(k:Nat) (r:Id) y,ids[k]?=some (.lv r)->k≠b->r.has y->w'.heap[y]?=w.heap[y]?:=by
  intro k r y hr hk hy;refine setRow_other w p.aq y _ (fun e=>hk ?_);exact hs.al k b r p y hr cD hy (.inl e)
 refine⟨p,vs,ab,cD,h1,zd,g1,?_⟩
 refine hs.nH rfl rfl rfl (by show w.heap.size<=w'.heap.size;rw[cj];exact Nat.le_refl _) gk bm (fun vs h=>by
  simp only[ab] at h;rcases List.mem_or_eq_of_mem_set h with h|h
  ·rcases List.mem_or_eq_of_mem_set h with h|h
   ·exact h
   ·cases h
  ·cases h) ?_ (by simp) (by simp[ab,hs.aU]) ?_ ?_
 ·intro k k' r r' y e1 e2 x1 x2;rcases bE k r e1 with⟨rfl,rfl⟩|⟨ne,KG,e⟩<;>rcases bE k' r' e2 with⟨rfl,rfl⟩|⟨ne',KH,e'⟩
  ·rfl
  ·rcases nI y x1 with h|h
   ·exact absurd (hs.al _ _ p r' y cD e' h x2).symm ne'
   ·obtain⟨q,q1,q2⟩:=xU y h;exact absurd (hs.al _ _ q r' y q1 e' (.inl q2.symm) x2).symm KH
  ·rcases nI y x2 with h|h
   ·exact absurd (hs.al _ _ r p y e cD x1 h) ne
   ·obtain⟨q,q1,q2⟩:=xU y h;exact absurd (hs.al _ _ r q y e q1 x1 (.inl q2.symm)) KG
  ·exact hs.al k k' r r' y e e' x1 x2
 ·intro k h h';exact(hs.cc k h h').gz ez dH hd jy
 ·intro k hk iu;have gE:ab[k]?=some ab[k]:=List.getElem?_eq_getElem iu;simp only[List.length_set] at hk;rw[List.getElem_set];split
  ·rename_i he;subst he;rw[jy] at gE;rw[<-Option.some.inj gE];exact rfl
  ·rename_i he;rw[List.getElem_set];split
   ·rename_i gY;subst gY;rw[eM] at gE;rw[<-Option.some.inj gE]
    have Kj:∀j (h:j<(vs.setIfInBounds i v).size) (h':j<vs.size),(vs.setIfInBounds i v)[j]=if i=j then v else vs[j]:=by
     intro j h h';rw[Array.getElem_setIfInBounds]
    have Tz:∀y,x=some y->w'.heap[y]?=w.heap[y]?:=by
     intro y hy;obtain⟨q,q1,q2⟩:=xU y hy;exact Xd b' q y q1 (fun e=>hne e.symm) (.inl q2.symm)
    have hpk:∀y,p.Bh y->w'.heap[y]?=w.heap[y]?:=by
     intro y hy;exact setRow_other w p.aq y _ (fun e=>g3 (by rw[<-e];exact hy))
    refine⟨g1,g2,?_,vs.setIfInBounds i v,setRow_heap w p.aq vs _ ty _ h1,by simp[h2];rfl,h3,iO kb i x,?_⟩
    ·rintro(h|h)
     ·exact g3 h
     ·obtain⟨q,q1,q2⟩:=xU _ h;exact hne (hs.al b b' p q p.aq cD q1 (.inl rfl) (.inl q2.symm))
    ·intro j hj _ PB;have KI:j<vs.size:=by simpa using PB
     rw[Kj j PB KI];by_cases D5:j=i
     ·subst D5;rw[if_pos rfl];simp only[iO,if_pos];refine⟨Xc _ _ Tz nh,(fun y hy=>.inr hy),?_⟩;intro j' cH _ e1 e2;by_cases qB:j'=j
      ·exact qB
      ·exfalso;rw[if_neg qB] at e1;cases BD:x with
       | none=>exact e2 BD
       | some y =>
        have TA:j'<vs.size:=by omega
        obtain⟨_,k2,_⟩:=h4 j' cH (by simp;exact fun e=>qB e.symm) TA;obtain⟨q,q1,q2⟩:=xU y BD;exact hne (hs.al b b' p q y cD q1 (.inr (k2 y (by rw[e1,BD]))) (.inl q2.symm))
     ·rw[if_neg (fun e=>D5 e.symm)];simp only[iO,if_neg D5];obtain⟨k1,k2,k3⟩:=h4 j hj (by simp;exact fun e=>D5 e.symm) KI;refine⟨k1.mono ez dH (fun y hy=>hpk y (k2 y hy)),(fun y hy=>.inl (k2 y hy)),?_⟩;intro j' cH _ e1 e2;by_cases qB:j'=i
      ·exfalso;subst qB;rw[if_pos rfl] at e1;cases BD:x with
       | none=>rw[BD] at e1;exact e2 e1.symm
       | some y =>
        obtain⟨q,q1,q2⟩:=xU y BD;exact hne (hs.al b b' p q y cD q1 (.inr (k2 y (by rw[<-e1,BD]))) (.inl q2.symm))
      ·rw[if_neg qB] at e1;exact k3 j' cH (by simp;exact fun e=>qB e.symm) e1 e2
   ·rename_i gY;have rQ:k<m.length:=hk;have qA:k<ids.length:=by rw[hs.aU];exact rQ
    rw[bX k (fun e=>gY e.symm) (fun e=>he e.symm),List.getElem?_eq_getElem qA] at gE;rw[<-Option.some.inj gE];refine(hs.bP k rQ qA).gz ez dH hd jy ?_;intro q hq y hy;exact Xd k q y (by rw[List.getElem?_eq_getElem qA,hq]) (fun e=>gY e.symm) hy

def setAt{α:Type}(l:List α):Nat->List α->List α
 | _,[]=>l
 | k,x::xs=>(setAt l (k+1) xs).set k x
theorem oL{α:Type}(l:List α):∀(k:Nat) (xs:List α),(setAt l k xs).length=l.length
 | _,[]=>rfl
 | k,x::xs=>by rw[setAt,List.length_set,oL l (k+1) xs]
theorem sA{α:Type}(l:List α):∀(k:Nat) (xs:List α) (i:Nat),(xs.length=0\/k+xs.length<=l.length)->(setAt l k xs)[i]?=if k<=i/\i<k+xs.length then xs[i-k]? else l[i]?
 | k,[],i,_=>by rw[setAt,if_neg (by simp)]
 | k,x::xs,i,h=>by
  have h:k+(xs.length+1)<=l.length:=by simpa using h
  rw[setAt,List.getElem?_set,sA l (k+1) xs i (by omega),oL];by_cases hk:k=i
  ·subst hk;rw[if_pos rfl,if_pos (by omega),if_pos (by simp)];simp
  ·rw[if_neg hk];by_cases h2:k+1<=i/\i<k+1+xs.length
   ·rw[if_pos h2,if_pos (by simp;omega),show i-k=(i-(k+1))+1 by omega];rfl
   ·rw[if_neg h2,if_neg (by simp;omega)]
abbrev O7(aD:Nat):Ren:=cq fun i=>some (aD+i)
theorem BJ(x:Nat):¬iw [] x:=by rintro⟨p,h,_⟩;cases h
theorem xY(m:List ar):∀(xs:List ar) (pre:List ar),setAt (m++pre++List.replicate xs.length .dead) (m++pre).length xs=m++pre++xs
 | [],pre=>by simp[setAt]
 | x::xs,pre=>by
  have h:=xY m xs (pre++[.dead]);rw[setAt]
  have e1:m++pre++List.replicate (x::xs).length ar.dead=m++(pre++[.dead])++List.replicate xs.length .dead:=by
   simp[List.replicate_succ]
  have e2:(m++pre).length+1=(m++(pre++[ar.dead])).length:=by simp;omega
  rw[e1,e2,h];simp
/-- A function that makes blocks of its own: they lie at places that are kept. -/
theorem IA(hs:aJ c s m a w ids){g:FuncId}{vs:List Value}
  {r:A} {mo:List ar} (BF:iv mo=true) {aD:Nat} (gD:∀j,j<mo.length->m[aD+j]?=some .dead)
  (hc:Calls P g vs.toArray w fun e w'=>∃v jb,e=.returned v/\aJ ⟨w,av c ids w,iw [],[]⟩ [r] mo ⟨#[v],[]⟩ w' jb) :
  Calls P g vs.toArray w fun e w'=>∃v ab,e=.returned v/\∀d,aJ c (_root_.Go.Proofs.YtijddijloelacaaGreat.Am.bA s d (jz (O7 aD) 4 r)) (setAt m aD (mo.map (iP (O7 aD) 4))) (a.put d v) w' ab:=by
 have aH:mo.length=0\/aD+mo.length<=m.length:=by
  rcases Nat.eq_zero_or_pos mo.length with h|h
  ·exact .inl h
  ·have:=(List.getElem?_eq_some_iff.1 (gD (mo.length-1) (by omega))).1;omega
 refine bD hc ?_;rintro e w' ⟨v,jb,rfl,hr⟩;have qv:jb.length=mo.length:=hr.aU;have Ih:=hr.frame;have TM:∀k,k<w.heap.size->w'.heap[k]?=w.heap[k]?:=fun k hk=>Ih.block k hk (BJ k)
 have KQ:∀(j:Nat) p,jb[j]?=some (.lv p)->∀x,p.has x->w.heap.size<=x/\x<w'.heap.size:=by
  intro j p hj x hx;have:=hr.au p (List.mem_of_getElem? hj) x hx;rcases this.1 with h|h
  ·exact⟨h,this.2⟩
  ·exact(BJ x h).elim
 have hnst:∀(j:Nat) p,jb[j]?=some p->(∀vs,p≠.cV vs)/\p≠.aw:=by
  intro j p hj;have Wo:=bl hj;have hB:=hr.bP j (by omega) Wo;rw[List.getElem?_eq_getElem Wo] at hj;rw[Option.some.inj hj] at hB;have h1:=lh BF _ (List.getElem_mem (show j<mo.length by omega));have h2:=mJ BF _ (List.getElem_mem (show j<mo.length by omega));generalize mo[j]'(by omega)=x at hB h1 h2;constructor
  ·rintro vs rfl;cases x<;>first|exact hB.elim|exact absurd rfl (h1 _)|cases hB
  ·rintro rfl;cases x<;>first|exact hB.elim|exact absurd rfl h2|cases hB
 have ZM:∀i,(setAt ids aD jb)[i]?=if aD<=i/\i<aD+jb.length then jb[i-aD]? else ids[i]?:=fun i=>sA ids aD jb i (by rw[hs.aU];omega)
 have Su:∀(i:Nat) p,ids[i]?=some p->p≠.dead->(setAt ids aD jb)[i]?=some p:=by
  intro i p hi hp;rw[ZM,if_neg]
  ·exact hi
  ·rintro⟨h1,h2⟩;have h3:=gD (i-aD) (by omega);rw[show aD+(i-aD)=i by omega] at h3;obtain⟨h4,h5⟩:=List.getElem?_eq_some_iff.1 h3;have:=hs.bP i h4 (by rw[hs.aU];exact h4);rw[h5] at this;rw[List.getElem?_eq_getElem (by rw[hs.aU];exact h4)] at hi;exact hp ((Option.some.inj hi).symm.trans this)
 have BK:∀(j:Nat) p,jb[j]?=some p->(setAt ids aD jb)[aD+j]?=some p:=by
  intro j p hj;have:=bl hj;rw[ZM,if_pos (by omega),show aD+j-aD=j by omega];exact hj
 have qF:∀(i:Nat) p,(setAt ids aD jb)[i]?=some p->(∃j,i=aD+j/\jb[j]?=some p)\/(¬(aD<=i/\i<aD+jb.length)/\ids[i]?=some p):=by
  intro i p h;rw[ZM] at h;split at h
  ·rename_i hh;exact .inl ⟨i-aD,by omega,h⟩
  ·rename_i hh;exact .inr ⟨hh,h⟩
 have bm:∀p',eU.lv p'∈setAt ids aD jb->∀x,p'.has x->x<w'.heap.size/\(w.heap.size<=x\/∃(b:Nat) (p:Id),ids[b]?=some (.lv p)/\p.has x):=by
  intro p' hp x hx;obtain⟨i,hi⟩:=List.getElem?_of_mem hp;rcases qF i _ hi with⟨j,_,hj⟩|⟨_,hi⟩
  ·have:=KQ j p' hj x hx;exact⟨this.2,.inl this.1⟩
  ·exact⟨Nat.lt_of_lt_of_le (hs.au p' (List.mem_of_getElem? hi) x hx).2 Ih.size,.inr ⟨i,p',hi,hx⟩⟩
 obtain⟨ez,dH⟩:=hs.de (w':=w') (ab:=setAt ids aD jb) Ih.size (fun k hk _=>TM k hk) bm
 have hiN:∀b,av ⟨w,av c ids w,iw [],[]⟩ jb w' b->av c (setAt ids aD jb) w' b:=by
  rintro b (h|⟨h1,h2,h3⟩)
  ·exact ez b h
  ·have Ir:w.heap.size<=b:=by
    rcases h1 with h|h
    ·exact h
    ·exact(BJ b h).elim
   refine .inr ⟨.inl (Nat.le_trans hs.frame.size Ir),h2,fun p hp hx=>?_⟩;obtain⟨i,hi⟩:=List.getElem?_of_mem hp;rcases qF i _ hi with⟨j,_,hj⟩|⟨_,hi⟩
   ·exact h3 p (List.mem_of_getElem? hj) hx
   ·have:=(hs.au p (List.mem_of_getElem? hi) b hx).2;omega
 have hτ:tr (O7 aD) jb (setAt ids aD jb):=by
  refine⟨fun b b' p h1 h2=>?_,fun b b' p h1 h2 _=>?_,fun b b' p h1 h2=>?_,fun b b' h1 h2=>?_,fun b b' h1 h2=>?_⟩;all_goals cases h1
  ·exact⟨p,BK _ _ h2,rfl⟩
  ·exact⟨p,BK _ _ h2,iN p⟩
  ·exact⟨p,BK _ _ h2,rfl⟩
  ·exact BK _ _ h2
  ·exact BK _ _ h2
 have pQ:aJ c s (setAt m aD (mo.map (iP (O7 aD) 4))) a w' (setAt ids aD jb):=by
  refine hs.nH (Bu:=Ih.drawn) Ih.os Ih.tape Ih.output Ih.size (fun k hk _=>TM k hk) bm (fun vs h=>?_) ?_ rfl (by rw[oL,oL,hs.aU]) (fun i h h'=>(hs.cc i h h').mono ez dH (fun b p h1 h2=>Su b p h1 h2)) ?_
  ·obtain⟨i,hi⟩:=List.getElem?_of_mem h;rcases qF i _ hi with⟨j,_,hj⟩|⟨_,hi⟩
   ·exact absurd rfl ((hnst j _ hj).1 vs)
   ·exact List.mem_of_getElem? hi
  ·intro k k' p q x e1 e2 x1 x2;rcases qF k _ e1 with⟨j,rfl,hj⟩|⟨_,hj⟩<;>rcases qF k' _ e2 with⟨j',rfl,cH⟩|⟨_,cH⟩
   ·rw[hr.al j j' p q x hj cH x1 x2]
   ·have:=(KQ j p hj x x1).1;have:=(hs.au q (List.mem_of_getElem? cH) x x2).2;omega
   ·have:=(KQ j' q cH x x2).1;have:=(hs.au p (List.mem_of_getElem? hj) x x1).2;omega
   ·exact hs.al k k' p q x hj cH x1 x2
  ·intro k hk iu;have e1:(setAt ids aD jb)[k]?=some (setAt ids aD jb)[k]:=List.getElem?_eq_getElem iu;have e2:(setAt m aD (mo.map (iP (O7 aD) 4)))[k]?=some (setAt m aD (mo.map (iP (O7 aD) 4)))[k]:=List.getElem?_eq_getElem hk;rw[sA _ _ _ _ (by simpa using aH)] at e2;simp only[List.length_map] at e2;rw[ZM] at e1;rw[qv] at e1;by_cases Eu:aD<=k/\k<aD+mo.length
   ·rw[if_pos Eu] at e1 e2;rw[List.getElem?_map] at e2;have hj:k-aD<mo.length:=by omega
    rw[List.getElem?_eq_getElem hj] at e2;rw[List.getElem?_eq_getElem (by omega)] at e1;simp only[Option.map_some] at e2;rw[<-Option.some.inj e1,<-Option.some.inj e2];exact lJ hiN (fun _ _=>rfl) hτ 4 (fun _ _ _ _=>rfl) (hr.bP (k-aD) hj (by omega))
   ·rw[if_neg Eu] at e1 e2;have rQ:k<m.length:=bl e2;have qA:k<ids.length:=bl e1;rw[List.getElem?_eq_getElem rQ] at e2;rw[List.getElem?_eq_getElem qA] at e1;rw[<-Option.some.inj e1,<-Option.some.inj e2];refine(hs.bP k rQ qA).mono ez dH (fun b p h1 h2=>Su b p h1 h2) (fun q hq y hy=>TM y ?_);exact(hs.au q (by rw[<-hq];exact List.getElem_mem _) y hy).2
 refine⟨v,_,rfl,fun d=>pQ.bA d ?_⟩;have:=hr.cc 0 (by simp) (by simp);exact eF hiN (fun _ _=>rfl) hτ 4 _ _ (by simpa using this)
theorem IB(hs:aJ c s m a w ids)(hG:G.ok c){g:FuncId}{as:List A}{vs:List Value}(hlen:vs.length=as.length)(hrel:∀j (h:j<as.length) (h':j<vs.length),aA (av c ids w) w as[j] vs[j])
  {r:A} {mo:List ar} (hc:aM P G g as [] r mo) (BF:iv mo=true) {aD:Nat} (gD:∀j,j<mo.length->m[aD+j]?=some .dead) :
  Calls P g vs.toArray w fun e w'=>∃v ab,e=.returned v/\∀d,aJ c (_root_.Go.Proofs.YtijddijloelacaaGreat.Am.bA s d (jz (O7 aD) 4 r)) (setAt m aD (mo.map (iP (O7 aD) 4))) (a.put d v) w' ab:=by
 have h0:aJ ⟨w,av c ids w,iw [],[]⟩ as [] ⟨vs.toArray,[]⟩ w []:=by
  refine⟨rfl,by simp[hlen],fun i h h'=>.aL ((hrel i h (by simpa using h')).mono (fun b hb=>.inl hb) (fun _ _=>rfl)),rfl,fun b h=>absurd h (Nat.not_lt_zero _),(fun b b' p q x h=>by simp at h),(fun p h=>by cases h),Fr.refl _ _ _ _,fun b hb=>⟨cU hs hb,BJ b⟩,fun vs h=>by cases h⟩
 exact IA hs BF gD (hc.2 (av c ids w) w vs [] [] ⟨hG.now hs.frame,fun b hb=>(BJ b hb).elim⟩ h0)

def vG(P:Program)(G:aK)(f:A)(args:List A)(aD:Nat)(K:A->List ar->Prop):Prop :=
 match f with
 | .fn g cap=>fd.sf 4 (args++cap) fun as=>match as.any (cY 4) with
  | false=>∃r mo,aM P G g as [] r mo/\match iv mo with
   | true=>fd 4 (jz (O7 aD) 4 r) fun r'=>sj (mo.map (iP (O7 aD) 4)) fun jS=>K r' jS
   | false=>False
  | true=>False
 | _=>False
def KR:List ar->List ar->(List ar->Prop)->Prop
 | m,[],K=>K m
 | m,x::xs,K=>Ii m x fun m'=>KR m' xs K
theorem Gt:∀(xs m:List ar) (K:List ar->Prop),KR m xs K=K (m++xs)
 | [],m,K=>by simp[KR]
 | x::xs,m,K=>by rw[KR,uA,Gt xs];simp
theorem tw(hs:aJ c s m a w ids)(hG:G.ok c){F:Operand}{xs:Array Operand}{ts:Array TypeId}(ho:o.op=.call { callee:=.value F,args:=xs,argTypes:=ts }){aD:Nat}{K:A->List ar->Prop}
  (h:vG P G (ev s F) (xs.toList.map (ev s)) aD K)
  (hn:∀r' jS,K r' jS->(∃(m':List ar) (PI:dV),aJ c s m' a w PI/\(∀j,j<jS.length->m'[aD+j]?=some .dead)/\∀a' w' ab,aJ c (_root_.Go.Proofs.YtijddijloelacaaGreat.Am.bA s o.dst r') (setAt m' aD jS) a' w' ab->next a' w')):o.wp P a w next Q:=by
 have hf:=hs.ev F;unfold vG at h;split at h
 ·rename_i g cap hv;rw[hv] at hf;obtain⟨us,Kk,Bb,J2⟩:=hf.ig;rw[cX] at h
  have hrel:∀j (h:j<(xs.toList.map (ev s)++cap).length) (h':j<(xs.toList.map a.eval++us).length),Rel ids (av c ids w) w (xs.toList.map (ev s)++cap)[j] (xs.toList.map a.eval++us)[j]:=by
   intro j h h';by_cases hj:j<xs.toList.length
   ·rw[List.getElem_append_left (by simpa using hj),List.getElem_append_left (by simpa using hj)];exact mF hs xs.toList j (by simpa using hj) (by simpa using hj)
   ·rw[List.getElem_append_right (by simpa using hj),List.getElem_append_right (by simpa using hj)];simp at h h' hj;have:=J2 (j-xs.size) (by omega) (by omega);simpa using this
  have hlen:(xs.toList.map a.eval++us).length=(xs.toList.map (ev s)++cap).length:=by simp[Bb]
  have run : ∀ fn cd, P.funcs[g]? = some fn → fn.body = some cd → (fn.name == "runtime.NumGoroutine") = false → (execOp a.eval o).run P w = .ok (.enter g (xs.toList.map a.eval ++ us).toArray) w := by
   intro fn cd h1 h2 h3;have e:execOp a.eval o=(do let d <-resolve a.eval { callee:=.value F,args:=xs,argTypes:=ts } o.type;invoke d.target d.args):=by unfold execOp;rw[ho]
   have e2:(xs.map a.eval++us.toArray)=(xs.toList.map a.eval++us).toArray:=by apply Array.ext';simp
   have h4 : ¬ fn.name = "runtime.NumGoroutine" := by simpa using h3
   rw[e];simp[resolve,Kk,Deferred.ofValue,invoke,callFunc,h1,h2,h4,e2]
  split at h
  ·rename_i bm;obtain⟨r,mo,hc,hk⟩:=h;split at hk
   ·rename_i BF;rw[fA,eK] at hk;obtain⟨m',PI,Ev,gD,hn⟩:=hn _ _ hk;obtain⟨fn,cd,h1,h2,h3⟩:=hc.1;unfold Oper.wp;rw[run fn cd h1 h2 h3];show Calls P g _ w _
    have Xr:∀j (h:j<(xs.toList.map (ev s)++cap).length) (h':j<(xs.toList.map a.eval++us).length),aA (av c PI w) w (xs.toList.map (ev s)++cap)[j] (xs.toList.map a.eval++us)[j]:=by
     intro j h h'
     have hw:cY 4 (xs.toList.map (ev s)++cap)[j]=false:=by
      have:=List.any_eq_false.1 bm _ (List.getElem_mem h);simpa using this
     have hF1:=Ev.ev F;rw[hv] at hF1;obtain⟨us1,Xs,hw2,hw3⟩:=hF1.ig;have hus:us1=us:=by rw[Kk] at Xs;simpa using Xs.symm
     subst hus;refine cS (ids:=PI) 4 _ _ hw ?_;by_cases hj:j<xs.toList.length
     ·rw[List.getElem_append_left (by simpa using hj),List.getElem_append_left (by simpa using hj)];exact mF Ev xs.toList j (by simpa using hj) (by simpa using hj)
     ·rw[List.getElem_append_right (by simpa using hj),List.getElem_append_right (by simpa using hj)];simp at h h' hj;have:=hw3 (j-xs.size) (by omega) (by omega);simpa using this
    refine bD (IB Ev hG hlen Xr hc BF (fun j hj=>gD j (by simpa using hj))) ?_;rintro e w' ⟨v,ab,rfl,bY⟩;exact hn _ _ _ (bY o.dst)
   ·exact hk.elim
  ·exact h.elim
 ·exact h.elim
def Ew(P:Program)(G:aK)(f:A)(args:List A)(m:List ar)(K:KT):Prop:=dP m.length fun n=>vG P G f args n fun r' jS=>KR m jS fun m'=>K r' m'
theorem zn(hs:aJ c s m a w ids)(hG:G.ok c){F:Operand}{xs:Array Operand}{ts:Array TypeId}(ho:o.op=.call { callee:=.value F,args:=xs,argTypes:=ts }){K:KT}
  (h:Ew P G (ev s F) (xs.toList.map (ev s)) m K) (hn:cL c s o K next):o.wp P a w next Q:=by
 unfold Ew at h;rw[aX] at h;refine tw hs hG ho h ?_;intro r' jS hk;rw[Gt] at hk;refine⟨m++List.replicate jS.length .dead,ids++List.replicate jS.length .dead,?_,fun j hj=>?_,?_⟩
 ·refine hs.grow (Bw.refl _ w) _ _ (by simp) ?_ ?_ ?_ ?_
  ·intro i g1 g2;simp only[List.getElem_replicate];rfl
  ·intro p hp;rw[List.mem_replicate] at hp;cases hp.2
  ·intro p hp;rw[List.mem_replicate] at hp;cases hp.2
  ·intro i j p q x g1 g2 _ _;rw[List.getElem?_replicate] at g1;split at g1<;>cases g1
 ·rw[List.getElem?_append_right (by omega),List.getElem?_replicate,if_pos (by omega)]
 ·intro a' w' ab bY;have e:=xY m jS [];simp only[List.append_nil] at e;rw[e] at bY;exact hn _ _ _ _ _ hk bY
end
def ks1:A->Option KS
 | .int k _=>some (.int k)
 | .bool _=>some .bool
 | .str _=>some .str
 | _=>none
def Xt:List A->Option (List KS)
 | []=>some []
 | x::xs=>match ks1 x,Xt xs with
  | some s,some ss=>some (s::ss)
  | _,_=>none
def pf:List Nat->List KS->Bool
 | [],[]=>true
 | n::ns,s::ss=>match s with
  | .int _=>match Nat.beq n 5 with
   | true=>pf ns ss
   | false=>false
  | .bool=>match Nat.beq n 6 with
   | true=>pf ns ss
   | false=>false
  | .str=>match Nat.beq n 4 with
   | true=>pf ns ss
   | false=>false
 | _,_=>false
def vH:List KS->List KS->Bool
 | [],[]=>true
 | s::ss,u::us=>match s,u with
  | .int k,.int k'=>match nA k k' with
   | true=>vH ss us
   | false=>false
  | .bool,.bool=>vH ss us
  | .str,.str=>vH ss us
  | _,_=>false
 | _,_=>false
theorem lM:∀ {a b:List KS},vH a b=true->a=b
 | [],[],_=>rfl
 | s::ss,u::us,h=>by
  unfold vH at h;split at h
  ·split at h
   ·rename_i hk;rw[j6.1 hk,lM h]
   ·cases h
  ·rw[lM h]
  ·rw[lM h]
  ·cases h
 | [],_::_,h=>by simp[vH] at h
 | _::_,[],h=>by simp[vH] at h
def ZN:KS->A->Option KC
 | .int k,.int k' n=>match nA k' k with
  | true=>some (.int n)
  | false=>none
 | .bool,.bool b=>some (.bool b)
 | .bool,.sb b=>some (.bool b)
 | .str,.str s=>some (.str s)
 | _,_=>none
def Sv:List KS->List A->Option (List KC)
 | [],[]=>some []
 | s::ss,x::xs=>match ZN s x,Sv ss xs with
  | some k,some ks=>some (k::ks)
  | _,_=>none
 | _,_=>none
/-- A key, as cells. -/
def IC(agg:Bool)(sh:List KS)(x:A):Option (List KC) :=
 match agg,x with
 | true,.agg cs=>Sv sh cs
 | true,_=>none
 | false,.agg _=>none
 | false,x=>Sv sh [x]
def sC:Bool->Bool->Bool
 | true,true=>true
 | false,false=>true
 | _,_=>false
def fB(b:Bool)(K:Bool->Prop):Prop :=
 match b with
 | true=>K true
 | false=>K false
theorem Sw(b:Bool)(K:Bool->Prop):fB b K=K b:=by cases b<;>rfl
/-- What is known of a map's type: the keys' kinds, the element's zero. -/
def lN(tt:TT)(t:TypeId)(K:Bool->List KS->A->Prop):Prop :=
 match tt.lookup t with
 | none=>False
 | some ti=>match ti.kind,tt.lookup ti.mz,tt.lookup ti.aW with
  | 7,some tk,some te=>match tk.eqs,Xt tk.zero with
   | some ns,some sh=>match pf ns sh,Nat.beq ns.length tk.size with
    | true,true=>fB tk.agg fun ag=>match te.agg with
     | true=>fl te.zero fun z=>K ag sh (.agg z)
     | false=>match te.zero with
      | [z]=>fv z fun z'=>K ag sh z'
      | _=>False
    | _,_=>False
   | _,_=>False
  | _,_,_=>False
def BL(z:A)(k:List KC)(ok:Bool)(has:List KC->Bool)(val:List KC->A)(K:A->Prop):Prop :=
 match ok with
 | true=>(has k=true->fd 3 (val k) fun v=>K (.tup [v,.bool true]))/\(has k=false->K (.tup [z,.bool false]))
 | false=>(has k=true->fd 3 (val k) fun v=>K v)/\(has k=false->K z)
def xZ(agg:Bool)(sh:List KS)(z:A)(k:List KC)(ok:Bool)(kC:Bool)(vI:List KS)(has:List KC->Bool)(val:List KC->A)(K:A->Prop):Prop :=
 match sC agg kC,vH sh vI with
 | true,true=>BL z k ok has val K
 | _,_=>False
def kS(tt:TT)(t:TypeId)(x key:A)(ok:Bool)(m:List ar)(K:A->Prop):Prop :=
 lN tt t fun agg sh z=>match IC agg sh key with
  | none=>False
  | some k=>match x with
   | .mv kC vI has val=>xZ agg sh z k ok kC vI has val K
   | .omap b=>match m.getD b .dead with
    | .fK kC vI has val=>xZ agg sh z k ok kC vI has val K
    | _=>False
   | .gO=>match ok with
    | true=>K (.tup [z,.bool false])
    | false=>K z
   | _=>False
def pR(has:List KC->Bool)(k:List KC)(b:Bool):List KC->Bool:=fun j=>if j=k then b else has j
def sD(val:List KC->A)(k:List KC)(v:A):List KC->A:=fun j=>if j=k then v else val j
def KU(tt:TT)(t:TypeId)(x key v:A)(m:List ar)(K:KT):Prop :=
 lN tt t fun agg sh _=>match IC agg sh key,x,cY 4 v with
  | some k,.omap b,false=>match m.getD b .dead with
   | .fK kC vI has val=>match sC agg kC,vH sh vI with
    | true,true=>fd 4 v fun v'=>r8 m b (.fK kC vI (pR has k true) (sD val k v')) fun m'=>K .aj m'
    | _,_=>False
   | _=>False
  | _,_,_=>False
def Ex(tt:TT)(t:TypeId)(m:List ar)(K:KT):Prop :=
 lN tt t fun agg sh _=>nc m (.fK agg sh (fun _=>false) (fun _=>.aj)) fun b m'=>K (.omap b) m'

section
variable {c:Ctx} {s:List A} {m:List ar} {a:Act} {w w':World} {ids ab:dV} {P:Program} {im bL:Nat->Prop} {tt:TT} {G:aK}
variable {next:Act->World->Prop} {Q:Exit->Act->World->Prop} {o:Oper}

theorem pS{a b:Bool}(h:sC a b=true):a=b:=by cases a<;>cases b<;>simp[sC] at h<;>rfl
theorem nK:∀ {ns:List Nat} {sh:List KS} {k k':List KC},pf ns sh=true->jv sh k->jv sh k'->vh ns (F8 sh k) (F8 sh k') (decide (k=k'))
 | [],[],[],[],_,_,_=>by simp[F8,vh]
 | n::ns,s::ss,x::k,y::k',h,h1,h2=>by
  cases s with
  | int kd =>
   cases x<;>first|exact h1.elim|skip
   cases y<;>first|exact h2.elim|skip
   rename_i a b;simp only[pf] at h;split at h
   ·rename_i hn;have hn:=Nat.eq_of_beq_eq_true hn;subst hn;refine⟨decide (a=b),decide (k=k'),.inl ⟨rfl,kd,a,b,rfl,rfl,by rw[Bool.eq_iff_iff];simp⟩,nK h h1 h2,?_⟩;rw[<-Bool.decide_and];apply decide_eq_decide.2;simp
   ·cases h
  | bool =>
   cases x<;>first|exact h1.elim|skip
   cases y<;>first|exact h2.elim|skip
   rename_i a b;simp only[pf] at h;split at h
   ·rename_i hn;have hn:=Nat.eq_of_beq_eq_true hn;subst hn;refine⟨decide (a=b),decide (k=k'),.inr (.inl ⟨rfl,a,b,rfl,rfl,by rw[Bool.eq_iff_iff];simp⟩),nK h h1 h2,?_⟩;rw[<-Bool.decide_and];apply decide_eq_decide.2;simp
   ·cases h
  | str =>
   cases x<;>first|exact h1.elim|skip
   cases y<;>first|exact h2.elim|skip
   rename_i a b;simp only[pf] at h;split at h
   ·rename_i hn;have hn:=Nat.eq_of_beq_eq_true hn;subst hn;refine⟨decide (a=b),decide (k=k'),.inr (.inr ⟨rfl,_,_,rfl,rfl,by rw[dr,dr,Bool.eq_iff_iff];simp⟩),nK h h1 h2,?_⟩;rw[<-Bool.decide_and];apply decide_eq_decide.2;simp
   ·cases h
 | [],_::_,_,_,h,_,_=>by simp[pf] at h
 | _::_,[],_,_,h,_,_=>by simp[pf] at h
 | _,s::_,[],_,_,h,_=>by cases s<;>exact h.elim
 | _,s::_,_,[],_,_,h=>by cases s<;>exact h.elim
 | _,[],_::_,_,_,h,_=>h.elim
 | _,[],_,_::_,_,_,h=>h.elim
theorem PJ{s:KS}{x:A}{k:KC}{v:Value}(h:ZN s x=some k)(hx:Rel ids im w x v):v=WO s k:=by
 cases s<;>cases x<;>simp only[ZN] at h<;>first|(cases h;done)|skip
 ·split at h
  ·rename_i hk;cases h;rw[hx.cC,j6.1 hk];rfl
  ·cases h
 ·cases h;exact hx.eC
 ·cases h;exact hx.jw
 ·cases h;exact hx.iU
theorem zo:∀ {sh:List KS} {cs:List A} {k:List KC} {vs:List Value},Sv sh cs=some k->vs.length=cs.length->(∀j (h:j<cs.length) (h':j<vs.length),Rel ids im w cs[j] vs[j])->jv sh k/\vs=F8 sh k
 | [],[],k,vs,h,hl,_=>by
  simp only[Sv,Option.some.injEq] at h;subst h;have:vs=[]:=by simpa using hl
  subst this;exact⟨trivial,rfl⟩
 | s::ss,x::xs,k,vs,h,hl,hr=>by
  simp only[Sv] at h;split at h
  ·rename_i k0 ks h1 h2;cases h
   match vs,hl with
   | v::vs,hl =>
    have e1:=PJ h1 (hr 0 (by simp) (by simp));obtain⟨e2,e3⟩:=zo (vs:=vs) h2 (by simpa using hl) (fun j g g'=>hr (j+1) (by simpa using g) (by simpa using g'));simp only[List.getElem_cons_zero] at e1;refine⟨?_,by simp only[F8];rw[<-e1,<-e3]⟩;cases s<;>cases x<;>simp only[ZN] at h1<;>first|(cases h1;done)|skip
    ·split at h1
     ·cases h1;exact e2
     ·cases h1
    ·cases h1;exact e2
    ·cases h1;exact e2
    ·cases h1;exact e2
  ·cases h
 | [],_::_,_,_,h,_,_=>by simp[Sv] at h
 | _::_,[],_,_,h,_,_=>by simp[Sv] at h
theorem BM{agg:Bool}{sh:List KS}{x:A}{k:List KC}{v:Value}(h:IC agg sh x=some k)(hx:Rel ids im w x v):jv sh k/\v=kV agg sh k:=by
 unfold IC at h;split at h
 ·rename_i cs;obtain⟨vs,rfl,hl,_,hr⟩:=hx.iW;obtain⟨e1,e2⟩:=zo h hl hr;exact⟨e1,by rw[e2];rfl⟩
 ·cases h
 ·cases h
 ·obtain⟨e1,e2⟩:=zo (vs:=[v]) h rfl (fun j g g'=>by
   have:j=0:=by simp at g;omega
   subst this;exact hx)
  exact⟨e1,by unfold kV;rw[<-e2];rfl⟩

theorem zp(em:Bool):∀(d:Nat) (t:TypeId) (sh:List Nat) (xs:List Value) (r:Bool) (dd:Nat),br P d t=some sh->vh sh xs xs r->(Instr.checkKey em (d+dd) t (xp P t xs)).run P w=.ok () w
 | 0,_,_,_,_,_,h,_=>by simp[br] at h
 | d+1,t,sh,xs,r,dd,h,hk=>by
  have e:d+1+dd=(d+dd)+1:=by omega
  rw[e];unfold br at h;unfold xp;split at h
  ·rename_i k hd;cases h;obtain⟨x,y,rfl,_,_⟩:=oF hk;rw[hd];unfold Instr.checkKey;simp only[Sem.run_bind,run_underlying hd,Result.andThen_ok];rfl
  ·rename_i hd;cases h;obtain⟨x,y,rfl,_,_⟩:=oF hk;rw[hd];unfold Instr.checkKey;simp only[Sem.run_bind,run_underlying hd,Result.andThen_ok];rfl
  ·rename_i hd;cases h;obtain⟨x,y,rfl,_,_⟩:=oF hk;rw[hd];unfold Instr.checkKey;simp only[Sem.run_bind,run_underlying hd,Result.andThen_ok];rfl
  ·rename_i fs hd;split at h
   ·cases h
   ·rw[hd,Instr.checkKey];simp only[Sem.run_bind,run_underlying hd,Result.andThen_ok];rw[<-Array.forIn_toList]
    have key:∀(fl:List Field) (acc:Nat) (sh:List Nat) (r:Bool),eqFs P (br P d) acc fl=some sh->vh sh (xs.drop acc) (xs.drop acc) r ->
      ((forIn fl PUnit.unit fun f _=>do
       if f.name ≠ "_" then Instr.checkKey em (d + dd) f.type (← part f.type xs.toArray f.offset)
       pure (ForInStep.yield PUnit.unit):Sem PUnit)).run P w=.ok PUnit.unit w:=by
     intro fl
     induction fl with
     | nil=>intro acc sh r _ _;simp
     | cons f fl ih =>
      intro acc sh r h1 h2;unfold eqFs at h1;split at h1
      ·rename_i s1 i hs hi;split at h1
       ·rename_i hc;obtain⟨Eb,uz,hc3,hz⟩:=hc;split at h1
        ·rename_i r0 O0;cases h1;obtain⟨r1,r2,g1,g2,rfl⟩:=jZ h2;obtain⟨fd,Pf⟩:=kL d f.type s1 hs;have hl:=oE h2;simp at hl;have p1:=lG (w:=w) hi Pf xs acc (by omega) (by omega);rw[hc3] at p1;have q:=zp em d f.type s1 _ r1 dd hs g1;rw[List.drop_drop] at g2;have Tj:=ih (acc+s1.length) r0 r2 O0 g2;subst uz;rw[List.forIn_cons];simp only[Sem.run_bind,Eb,ne_eq,not_false_eq_true,if_true,p1,q,Result.andThen_ok,Sem.run_pure];exact Tj
        ·cases h1
       ·cases h1
      ·cases h1
    have:=key fs.toList 0 sh r h (by simpa using hk);simp at this ⊢;rw[this];rfl
  ·rename_i n e hd;split at h
   ·rename_i s1 i hs hi;split at h
    ·rename_i hc;cases h;rw[hd,Instr.checkKey];obtain⟨ed,Wm⟩:=kL d e s1 hs;simp only[Sem.run_bind,run_underlying hd,Result.andThen_ok];simp only[Std.Legacy.Range.forIn_eq_forIn_range',Std.Legacy.Range.size,Nat.sub_zero,Nat.add_one_sub_one,Nat.div_one];have Ec:P.cellsOf e=s1.length:=by unfold Program.cellsOf;rw[hi];simp[hc.1]
     have key:∀(k b:Nat) (r:Bool),vh (List.replicate k s1).flatten (xs.drop (b*s1.length)) (xs.drop (b*s1.length)) r ->
       ((forIn (List.range' b k) PUnit.unit fun i _=>do
        Instr.checkKey em (d+dd) e (<-part e xs.toArray (i*(<-sizeOf e)))
        pure (ForInStep.yield PUnit.unit):Sem PUnit)).run P w=.ok PUnit.unit w:=by
      intro k
      induction k with
      | zero=>intro b r _;simp
      | succ k ih =>
       intro b r h2;rw[List.replicate_succ,List.flatten_cons] at h2;have hl:=oE h2;simp only[List.length_drop,List.length_append] at hl;obtain⟨r1,r2,g1,g2,rfl⟩:=jZ h2;have p1:=lG (w:=w) hi Wm xs (b*s1.length) (by omega) (by omega);rw[hc.1] at p1;have q:=zp em d e s1 _ r1 dd hs g1;rw[List.drop_drop,<-Nat.succ_mul] at g2;have Tj:=ih (b+1) r2 g2;rw[List.range'_succ,List.forIn_cons];simp only[Sem.run_bind,run_sizeOf w hi,Ec,p1,q,Result.andThen_ok,Sem.run_pure];exact Tj
     have:=key n 0 r (by simpa using hk);simp at this ⊢;rw[this];rfl
    ·cases h
   ·cases h
  ·cases h
end
section
variable {c:Ctx} {s:List A} {m:List ar} {a:Act} {w w':World} {ids ab:dV} {P:Program} {im bL:Nat->Prop} {tt:TT} {G:aK}
variable {next:Act->World->Prop} {Q:Exit->Act->World->Prop} {o:Oper}

/-- What is known of a key's type. -/
structure qG (P:Program) (kt:TypeId) (agg:Bool) (sh:List KS):Prop where
 ex:∃d ns,P.underlying kt=some d/\agg=fq d/\br P 6 kt=some ns/\pf ns sh=true
theorem qG.xp{kt:TypeId}{agg:Bool}{sh:List KS}(h:qG P kt agg sh)(k:List KC):xp P kt (F8 sh k)=kV agg sh k:=by
 obtain⟨d,ns,h1,h2,_,_⟩:=h.ex;unfold Am.xp kV;rw[h1,h2];cases d<;>rfl
theorem qG.zq{kt:TypeId}{agg:Bool}{sh:List KS}(h:qG P kt agg sh){k:List KC}(hk:jv sh k)(em:Bool):(Instr.checkKey em 10000 kt (kV agg sh k)).run P w=.ok () w:=by
 rw[<-h.xp];obtain⟨d,ns,_,_,h3,h4⟩:=h.ex;exact zp em 6 kt ns _ _ 9994 h3 (nK h4 hk hk)
theorem qG.eq{kt:TypeId}{agg:Bool}{sh:List KS}(h:qG P kt agg sh){k k':List KC}(hk:jv sh k)(iu:jv sh k'):(Op.equal kt (kV agg sh k) (kV agg sh k')).run P w=.ok (decide (k=k')) w:=by
 rw[<-h.xp,<-h.xp];obtain⟨d,ns,_,_,h3,h4⟩:=h.ex;exact gJ 6 kt ns _ _ _ 9994 h3 (nK h4 hk iu)
theorem Gu{kt:TypeId}{agg:Bool}{sh:List KS}(h:qG P kt agg sh){k:List KC}(hk:jv sh k):∀(es:List MapEntry) (f:Nat->List KC) (i0:Nat),(∀i (h:i<es.length),jv sh (f i)/\es[i].key=kV agg sh (f i)) ->
  ∃res,(Instr.findAsking kt (kV agg sh k) es i0).run P w=.ok res w/\((res=none/\∀i,i<es.length->f i≠k)\/∃i,∃(h:i<es.length),f i=k/\res=some (i0+i,es[i].val))
 | [],f,i0,_=>⟨none,by simp[Instr.findAsking],.inl ⟨rfl,fun _ h=>by simp at h⟩⟩
 | e::es,f,i0,hf=>by
  have h0:=hf 0 (by simp);have he:=h.eq (w:=w) hk h0.1;have Xu:e.key=kV agg sh (f 0):=h0.2;rw[<-Xu] at he;by_cases Eu:k=f 0
  ·refine⟨some (i0,e.val),?_,.inr ⟨0,by simp,Eu.symm,rfl⟩⟩;simp only[Instr.findAsking,Sem.run_bind,he,Result.andThen_ok];rw[decide_eq_true Eu];rfl
  ·obtain⟨res,h1,h2⟩:=Gu h hk es (fun i=>f (i+1)) (i0+1) (fun i hi=>hf (i+1) (by simpa using hi));refine⟨res,?_,?_⟩
   ·simp only[Instr.findAsking,Sem.run_bind,he,Result.andThen_ok];rw[decide_eq_false Eu];exact h1
   ·rcases h2 with⟨e1,e2⟩|⟨i,hi,e1,e2⟩
    ·refine .inl ⟨e1,fun i hi=>?_⟩;cases i with
     | zero=>exact fun e=>Eu e.symm
     | succ i=>exact e2 i (by simpa using hi)
    ·exact .inr ⟨i+1,by simpa using hi,e1,by rw[e2];simp;omega⟩
theorem Gw{d:TypeDesc}{sh:List KS}(po:∀k k',jv sh k->jv sh k'->Instr.sameNow d (kV false sh k) (kV false sh k')=some (decide (k=k'))){k:List KC}(hk:jv sh k):∀(es:List MapEntry) (f:Nat->List KC) (i0:Nat),(∀i (h:i<es.length),jv sh (f i)/\es[i].key=kV false sh (f i)) ->
  ∃res,Instr.findNow d (kV false sh k) es i0=some res/\((res=none/\∀i,i<es.length->f i≠k)\/∃i,∃(h:i<es.length),f i=k/\res=some (i0+i,es[i].val))
 | [],f,i0,_=>⟨none,rfl,.inl ⟨rfl,fun _ h=>by simp at h⟩⟩
 | e::es,f,i0,hf=>by
  have h0:=hf 0 (by simp);have he:=po k (f 0) hk h0.1;have Xu:e.key=kV false sh (f 0):=h0.2;rw[<-Xu] at he;by_cases Eu:k=f 0
  ·refine⟨some (i0,e.val),?_,.inr ⟨0,by simp,Eu.symm,rfl⟩⟩;rw[decide_eq_true Eu] at he;simp only[Instr.findNow,he]
  ·rw[decide_eq_false Eu] at he;obtain⟨res,h1,h2⟩:=Gw po hk es (fun i=>f (i+1)) (i0+1) (fun i hi=>hf (i+1) (by simpa using hi));refine⟨res,?_,?_⟩
   ·simp only[Instr.findNow,he];exact h1
   ·rcases h2 with⟨e1,e2⟩|⟨i,hi,e1,e2⟩
    ·refine .inl ⟨e1,fun i hi=>?_⟩;cases i with
     | zero=>exact fun e=>Eu e.symm
     | succ i=>exact e2 i (by simpa using hi)
    ·exact .inr ⟨i+1,by simpa using hi,e1,by rw[e2];simp;omega⟩
theorem zt{s:KS}{k:List KC}(h:jv [s] k):∃x,k=[x]/\jv [s] [x]:=by
 match k,h with
 | [x],h=>exact⟨x,rfl,h⟩
 | [],h=>cases s<;>exact h.elim
 | x::y::l,h=>cases s<;>cases x<;>exact h.elim
theorem vJ{kt:TypeId}{agg:Bool}{sh:List KS}(h:qG P kt agg sh){k:List KC}(hk:jv sh k)(es:Array MapEntry)(f:Nat->List KC)(hf:∀i (h:i<es.size),jv sh (f i)/\es[i].key=kV agg sh (f i)):
  ∃res,(Instr.findKey kt (kV agg sh k) es.toList).run P w=.ok res w/\((res=none/\∀i,i<es.size->f i≠k)\/∃i,∃(h:i<es.size),f i=k/\res=some (i,es[i].val)):=by
 obtain⟨d,ns,h1,h2,h3,h4⟩:=h.ex;have PK:∀i (h:i<es.toList.length),jv sh (f i)/\es.toList[i].key=kV agg sh (f i):=fun i hi=>by simpa using hf i (by simpa using hi)
 cases agg with
 | true =>
  have hw:(match P.underlying kt with|some (.array _ _)|some (.struct _)=>true|_=>false)=true:=by
   rw[h1];cases d<;>simp[fq] at h2<;>rfl
  obtain⟨res,e1,e2⟩:=Gu (w:=w) h hk es.toList f 0 PK;exact⟨res,by rw[run_findKey_eq w hw];exact e1,by simpa using e2⟩
 | false =>
  have po:∀k k',jv sh k->jv sh k'->Instr.sameNow d (kV false sh k) (kV false sh k')=some (decide (k=k')):=by
   intro k k' g1 g2;unfold br at h3;rw[h1] at h3;cases d<;>simp[fq] at h2<;>simp only at h3<;>first|(cases h3;done)|skip
   all_goals
    cases h3
    match sh,h4,g1,g2 with
    | [s],h4,g1,g2 =>
     obtain⟨x,rfl,g1⟩:=zt g1;obtain⟨y,rfl,g2⟩:=zt g2;cases s<;>simp[pf] at h4<;>cases x<;>first|exact g1.elim|skip
     all_goals
      cases y<;>first|exact g2.elim|skip
      simp[kV,F8,WO,Instr.sameNow,Bool.beq_eq_decide_eq]
      try (rw[beq_toListBytes,dr,dr,Bool.eq_iff_iff];simp)
    | [],h4,_,_=>simp[pf] at h4
    | s::s'::ss,h4,_,_=>cases s<;>simp[pf] at h4
  obtain⟨res,e1,e2⟩:=Gw po hk es.toList f 0 PK;exact⟨res,MapKept.run_findKey h1 e1,by simpa using e2⟩

/-- What a map's type tells. -/
theorem lO(aN:bM P tt){t:TypeId}{K:Bool->List KS->A->Prop}(h:lN tt t K)(im:Nat->Prop)(w:World):
  ∃kt et agg sh z zv,P.underlying t=some (.map kt et)/\qG P kt agg sh/\(zeroValue et).run P w=.ok zv w/\aA im w z zv/\K agg sh z:=by
 unfold lN at h;split at h
 ·exact h.elim
 ·rename_i ti j7;split at h
  ·rename_i tk te hk ZO Bc;split at h
   ·rename_i ns sh dS Ge;split at h
    ·rename_i zj hlen;obtain⟨i,d,z0,g1,g2,g3,g4,g5,g6,g7,g8,_,_,_,_,_,_,g9,_⟩:=aN.facts ZO;obtain⟨zv,z1,z2,z3⟩:=aN.Pj Bc im w;have PL:qG P ti.mz tk.agg sh:=⟨d,ns,g2,g8,by rw[<-g9];exact dS,zj⟩;rw[Sw] at h;split at h
     ·rename_i ha;rw[cI] at h;exact⟨_,_,_,_,_,zv,aN.yW j7 hk,PL,z1,z2 ha,h⟩
     ·rename_i ha;obtain⟨z,e1,e2⟩:=z3 ha;rw[e1] at h;simp only[dL] at h;exact⟨_,_,_,_,_,zv,aN.yW j7 hk,PL,z1,e2,h⟩
    ·exact h.elim
   ·exact h.elim
  ·exact h.elim

theorem KW{t kt et:TypeId}{agg:Bool}{sh:List KS}(ht:P.underlying t=some (.map kt et))(PL:qG P kt agg sh){zv:Value}(hz:(zeroValue et).run P w=.ok zv w){k:List KC}(hk:jv sh k)
  {r:Nat} {es:Array MapEntry} {clock:Nat} (hh:w.heap[r]?=some (.map es clock)) {f:Nat->List KC} (hf:∀i (h:i<es.size),jv sh (f i)/\es[i].key=kV agg sh (f i)) (ok:Bool) :
  (∃i,∃(h:i<es.size),f i=k/\(Instr.lookup t (.map (some r)) (kV agg sh k) ok).run P w=.ok (if ok then .tuple #[es[i].val,.bool true] else es[i].val) w) \/
  ((∀i,i<es.size->f i≠k)/\(Instr.lookup t (.map (some r)) (kV agg sh k) ok).run P w=.ok (if ok then .tuple #[zv,.bool false] else zv) w):=by
 obtain⟨res,e1,e2⟩:=vJ (w:=w) PL hk es f hf;have hc:=PL.zq (w:=w) hk es.isEmpty;rcases e2 with⟨rfl,e2⟩|⟨i,hi,e2,rfl⟩
 ·refine .inr ⟨e2,?_⟩;simp only[Instr.lookup,Sem.run_bind,run_underlying ht,Result.andThen_ok,MapKept.run_getObj_map hh,Sem.run_pure,hc,e1,hz]
 ·refine .inl ⟨i,hi,e2,?_⟩;simp only[Instr.lookup,Sem.run_bind,run_underlying ht,Result.andThen_ok,MapKept.run_getObj_map hh,Sem.run_pure,hc,e1]

theorem tz(aN:bM P tt)(hs:aJ c s m a w ids){t:TypeId}{X Y:Operand}{ok:Bool}(ho:o.op=.lookup t X Y ok){K:KT}(h:kS tt t (ev s X) (ev s Y) ok m fun v=>K v m)(hn:cL c s o K next):o.wp P a w next Q:=by
 have e:execOp a.eval o=(do pure (.value (<-Instr.lookup t (a.eval X) (a.eval Y) ok))):=by
  obtain⟨dst,op,ty,pos,after,guard⟩:=o;simp only at ho;subst ho;rfl
 unfold kS at h;obtain⟨kt,et,agg,sh,z,zv,h1,h2,h3,h4,h⟩:=lO aN h (av c ids w) w;split at h
 ·exact h.elim
 ·rename_i k hk;obtain⟨g1,g2⟩:=BM hk (hs.ev Y)
  have main:∀(has:List KC->Bool) (val:List KC->A) (r:Nat) (es:Array MapEntry) (clock:Nat) (f:Nat->List KC),a.eval X=.map (some r)->w.heap[r]?=some (.map es clock) ->
    (∀i (h:i<es.size),jv sh (f i)/\es[i].key=kV agg sh (f i)/\has (f i)=true)->(∀k,jv sh k->has k=true->∃i,i<es.size/\f i=k)->(∀i (h:i<es.size),aA (av c ids w) w (val (f i)) es[i].val) ->
    BL z k ok has val (fun v=>K v m)->o.wp P a w next Q:=by
   intro has val r es clock f q1 q2 q3 q4 q5 q6;simp only[BL,fA] at q6;rcases KW h1 h2 h3 g1 q2 (fun i hi=>⟨(q3 i hi).1,(q3 i hi).2.1⟩) ok with⟨i,hi,e1,e2⟩|⟨e1,e2⟩
   ·have KX:has k=true:=by rw[<-e1];exact(q3 i hi).2.2
    have hrel:=q5 i hi;rw[e1] at hrel;cases ok with
    | true =>
     refine aZ hs hn ⟨_,.tuple #[es[i].val,.bool true],by rw[e,q1,g2];simp only[Sem.run_bind,e2,Result.andThen_ok];rfl,q6.1 KX,?_⟩
     exact .aL (.tup [val k,.bool true] [es[i].val,.bool true] rfl (fun j g g'=>by
      match j with
      | 0=>exact hrel
      | 1=>exact .bool true
      | j+2=>exact absurd g (by simp)))
    | false=>exact aZ hs hn ⟨_,es[i].val,by rw[e,q1,g2];simp only[Sem.run_bind,e2,Result.andThen_ok];rfl,q6.1 KX,.aL hrel⟩
   ·have KX:has k=false:=by
     cases hb:has k with
     | false=>rfl
     | true=>obtain⟨i,hi,he⟩:=q4 k g1 hb;exact absurd he (e1 i hi)
    cases ok with
    | true =>
     refine aZ hs hn ⟨_,.tuple #[zv,.bool false],by rw[e,q1,g2];simp only[Sem.run_bind,e2,Result.andThen_ok];rfl,q6.2 KX,?_⟩
     exact .aL (.tup [z,.bool false] [zv,.bool false] rfl (fun j g g'=>by
      match j with
      | 0=>exact h4
      | 1=>exact .bool false
      | j+2=>exact absurd g (by simp)))
    | false=>exact aZ hs hn ⟨_,zv,by rw[e,q1,g2];simp only[Sem.run_bind,e2,Result.andThen_ok];rfl,q6.2 KX,.aL h4⟩
  have hx:=hs.ev X;split at h
  ·rename_i kC vI has val hv;rw[hv] at hx;unfold xZ at h;split at h
   ·rename_i oI mr;have oI:=pS oI;have mr:=lM mr;subst oI;subst mr;cases hx with
    | aL hx =>
     generalize hX:a.eval X=V at hx;cases hx with
     | mv _ _ _ _ r es clock f hb hh iu hd hc Ix=>exact main has val r es clock f hX hh iu hc Ix h
   ·exact h.elim
  ·rename_i b hv;rw[hv] at hx;split at h
   ·rename_i kC vI has val Gx;unfold xZ at h;split at h
    ·rename_i oI mr;have oI:=pS oI;have mr:=lM mr;subst oI;subst mr;obtain⟨p,h5,h6⟩:=hs.Gb hx (by rw[Gx];simp);obtain⟨x,nD,ng⟩:=hs.fu h5;rw[bI nD] at Gx;subst Gx;obtain⟨es,clock,f,q1,q2,q3,q4,q5⟩:=ng;exact main has val p.aq es clock f h6 q1 q2 q4 q5.1 h
    ·exact h.elim
   ·exact h.elim
  ·rename_i hv;rw[hv] at hx;have hX:=hx.lF;have hc:=h2.zq (w:=w) g1 true
   have cz:(Instr.lookup t (.map none) (kV agg sh k) ok).run P w=.ok (if ok then .tuple #[zv,.bool false] else zv) w:=by
    have hfk:(Instr.findKey kt (kV agg sh k) ([]:List MapEntry)).run P w=.ok none w:=by
     obtain⟨res,e1,e2⟩:=vJ (w:=w) h2 g1 #[] (fun _=>[]) (fun i hi=>by simp at hi);rcases e2 with⟨rfl,_⟩|⟨i,hi,_⟩
     ·exact e1
     ·simp at hi
    simp only[Instr.lookup,Sem.run_bind,run_underlying h1,Result.andThen_ok,Sem.run_pure];simp only[Array.isEmpty_empty,hc,Result.andThen_ok,hfk];simp only[Sem.run_bind,h3,Result.andThen_ok,Sem.run_pure]
   split at h
   ·refine aZ hs hn ⟨_,.tuple #[zv,.bool false],by rw[e,hX,g2];simp only[Sem.run_bind,cz,Result.andThen_ok];rfl,h,?_⟩
    exact .aL (.tup [z,.bool false] [zv,.bool false] rfl (fun j g g'=>by
     match j with
     | 0=>exact h4
     | 1=>exact .bool false
     | j+2=>exact absurd g (by simp)))
   ·exact aZ hs hn ⟨_,zv,by rw[e,hX,g2];simp only[Sem.run_bind,cz,Result.andThen_ok];rfl,h,.aL h4⟩
  ·exact h.elim

/-- A block of ours that is an object is written. -/
theorem aJ.setObj(hs:aJ c s m a w ids)(b:Nat)(p:Id)(cD:ids[b]?=some (.lv p))(x:ar)(ob:Obj)
  (hx:∀w',w'.heap[p.aq]?=some ob->(∀a v,aA (av c ids w) w a v->aA (av c ids w') w' a v)->bq ids (av c ids w') w' x (.lv p)) :
  aJ c s (m.set b x) a { w with heap:=w.heap.setIfInBounds p.aq ob } ids:=by
 have k9:eU.lv p∈ids:=List.mem_of_getElem? cD;have Ih:=hs.fresh p k9;have cj:({ w with heap:=w.heap.setIfInBounds p.aq ob }:World).heap.size=w.heap.size:=by simp
 have BN:∀k,k≠p.aq->({ w with heap:=w.heap.setIfInBounds p.aq ob }:World).heap[k]?=w.heap[k]?:=by
  intro k hk;simp[Array.getElem?_setIfInBounds_ne (fun e=>hk e.symm)]
 have bm:∀p',eU.lv p'∈ids->∀x,p'.has x->x<({ w with heap:=w.heap.setIfInBounds p.aq ob }:World).heap.size/\(w.heap.size<=x\/∃(b:Nat) (p:Id),ids[b]?=some (.lv p)/\p.has x):=by
  intro p' Sf y hy;obtain⟨k,hk⟩:=List.getElem?_of_mem Sf;exact⟨by rw[cj];exact(hs.au p' Sf y hy).2,.inr ⟨k,p',hk,hy⟩⟩
 have gk:∀k,k<w.heap.size->(∀(b:Nat) (p:Id),ids[b]?=some (.lv p)->¬p.has k)->({ w with heap:=w.heap.setIfInBounds p.aq ob }:World).heap[k]?=w.heap[k]? :=
  fun k _ hk=>BN k (fun e=>hk b p cD (.inl e))
 obtain⟨ez,dH⟩:=hs.de (w':={ w with heap:=w.heap.setIfInBounds p.aq ob }) (ab:=ids) (by rw[cj];exact Nat.le_refl _) gk bm;refine hs.nH rfl rfl rfl (by rw[cj];exact Nat.le_refl _) gk bm (fun _ h=>h) hs.al rfl (by simp[hs.aU]) (fun i h h'=>(hs.cc i h h').mono ez dH (fun _ _ h _=>h)) ?_;intro k hk iu;simp only[List.length_set] at hk;rw[List.getElem_set];split
 ·rename_i he;subst he;have e:ids[b]=.lv p:=by rw[List.getElem?_eq_getElem iu] at cD;exact Option.some.inj cD
  rw[e];refine hx _ ?_ (fun a v h=>h.mono ez dH);simp[Ih.2]
 ·rename_i he;refine(hs.bP k hk iu).mono ez dH (fun _ _ h _=>h) ?_;intro q hq y hy;refine BN y (fun e=>he ?_);exact hs.al b k p q y cD (by rw[List.getElem?_eq_getElem iu,hq]) (.inl e) hy

theorem pq:∀(sh:List KS) (k:List KC),jv sh k->∀n,((F8 sh k).zip (F8 sh k)).all (fun(x,y)=>Instr.sameBits n x y)=true
 | [],[],_,n=>rfl
 | s::ss,x::k,h,n=>by
  cases s<;>cases x<;>first|exact h.elim|skip
  all_goals
   simp only[F8,List.zip_cons_cons,List.all_cons,Bool.and_eq_true];refine⟨by simp[WO,Instr.sameBits,beq_toListBytes],pq ss k h n⟩
 | [],_::_,h,_=>h.elim
 | s::_,[],h,_=>by cases s<;>exact h.elim
theorem BO{agg:Bool}{sh:List KS}{k:List KC}(hk:jv sh k)(h1:agg=false->sh.length=1):Instr.sameBits 10000 (kV agg sh k) (kV agg sh k)=true:=by
 cases agg with
 | true =>
  have:=pq sh k hk 9999;simp only[kV,Instr.sameBits];simpa using this
 | false =>
  match sh,k,hk,h1 rfl with
  | [s],k,hk,_ =>
   obtain⟨x,rfl,hk⟩:=zt hk;cases s<;>cases x<;>first|exact hk.elim|simp[kV,F8,WO,Instr.sameBits,beq_toListBytes]
theorem qG.len1{kt:TypeId}{agg:Bool}{sh:List KS}(h:qG P kt agg sh)(ha:agg=false):sh.length=1:=by
 obtain⟨d,ns,h1,h2,h3,h4⟩:=h.ex;subst ha;unfold br at h3;rw[h1] at h3;cases d<;>simp[fq] at h2<;>simp only at h3<;>first|(cases h3;done)|skip
 all_goals
  cases h3
  match sh,h4 with
  | [s],_=>rfl
  | [],h4=>simp[pf] at h4
  | s::s'::ss,h4=>cases s<;>simp[pf] at h4

theorem PM{t kt et:TypeId}{agg:Bool}{sh:List KS}(ht:P.underlying t=some (.map kt et))(PL:qG P kt agg sh){k:List KC}(hk:jv sh k)
  {r:Nat} {es:Array MapEntry} {clock:Nat} (hh:w.heap[r]?=some (.map es clock)) {f:Nat->List KC} (hf:∀i (h:i<es.size),jv sh (f i)/\es[i].key=kV agg sh (f i)) (v:Value) :
  (∃i,∃(_:i<es.size),f i=k/\(Instr.mapUpdate t (.map (some r)) (kV agg sh k) v).run P w=.ok () { w with heap:=w.heap.setIfInBounds r (.map (es.modify i fun e=>{ e with key:=kV agg sh k,val:=v }) clock) }) \/
  ((∀i,i<es.size->f i≠k)/\(Instr.mapUpdate t (.map (some r)) (kV agg sh k) v).run P w=.ok () { w with heap:=w.heap.setIfInBounds r (.map (es.push { key:=kV agg sh k,val:=v,born:=clock }) (clock+1)) }):=by
 obtain⟨res,e1,e2⟩:=vJ (w:=w) PL hk es f hf;have hc:=PL.zq (w:=w) hk false;rcases e2 with⟨rfl,e2⟩|⟨i,hi,e2,rfl⟩
 ·refine .inr ⟨e2,?_⟩;simp only[Instr.mapUpdate,Sem.run_bind,run_underlying ht,Result.andThen_ok,MapKept.run_getObj_map hh,hc,e1];exact MapKept.run_setObj_map _ hh
 ·refine .inl ⟨i,hi,e2,?_⟩
  have rY:(Instr.keyThatStays (((es[i]?).map (·.key)).getD (kV agg sh k)) (kV agg sh k)).run P w=.ok (kV agg sh k) w:=by
   have:((es[i]?).map (·.key)).getD (kV agg sh k)=kV agg sh k:=by
    rw[Array.getElem?_eq_getElem hi];show es[i].key=_;rw[(hf i hi).2,e2]
   rw[this];unfold Instr.keyThatStays;rw[if_pos (BO hk PL.len1)];rfl
  simp only[Instr.mapUpdate,Sem.run_bind,run_underlying ht,Result.andThen_ok,MapKept.run_getObj_map hh,hc,e1,rY];exact MapKept.run_setObj_map _ hh

theorem pT(aN:bM P tt)(hs:aJ c s m a w ids){t:TypeId}{X Y Z:Operand}(ho:o.op=.mapUpdate t X Y Z\/o.op=.insert t X Y Z){K:KT}(h:KU tt t (ev s X) (ev s Y) (ev s Z) m K)(hn:cL c s o K next):o.wp P a w next Q:=by
 have e:execOp a.eval o=(do Instr.mapUpdate t (a.eval X) (a.eval Y) (a.eval Z);pure .skip):=by
  obtain⟨dst,op,ty,pos,after,guard⟩:=o;simp only at ho;rcases ho with ho|ho<;>subst ho<;>rfl
 unfold KU at h;obtain⟨kt,et,agg,sh,z,zv,h1,h2,_,_,h⟩:=lO aN h (av c ids w) w;split at h
 ·rename_i k b hk Ik bm;have hx:=hs.ev X;rw[Ik] at hx;obtain⟨g1,g2⟩:=BM hk (hs.ev Y);have hv:=cS 4 _ _ bm (hs.ev Z);split at h
  ·rename_i kC vI has val Gx;split at h
   ·rename_i oI mr;have oI:=pS oI;have mr:=lM mr;subst oI;subst mr;rw[fA,fM] at h;obtain⟨p,h5,h6⟩:=hs.Gb hx (by rw[Gx];simp);obtain⟨x,nD,ng⟩:=hs.fu h5;rw[bI nD] at Gx;subst Gx;obtain⟨es,clock,f,q1,q2,q3,q4,q5,q6,q7⟩:=ng;rcases PM h1 h2 g1 q1 (fun i hi=>⟨(q2 i hi).1,(q2 i hi).2.1⟩) (a.eval Z) with⟨i,hi,e1,e2⟩|⟨e1,e2⟩
    ·refine iL (by rw[e,h6,g2];simp only[Sem.run_bind,e2,Result.andThen_ok];rfl) (hn _ _ _ _ ids h (aJ.lI (hs.setObj b p h5 _ _ ?_) _ _));intro w' jT Iw;refine⟨_,clock,f,jT,?_,?_,?_,?_,?_,?_⟩
     ·intro j hj;have cH:j<es.size:=by simpa using hj
      rw[Array.getElem_modify];split
      ·rename_i lB;subst lB;exact⟨(q2 i cH).1,by rw[e1],by simp[pR,e1]⟩
      ·exact⟨(q2 j cH).1,(q2 j cH).2.1,by
        unfold pR;split
        ·rfl
        ·exact(q2 j cH).2.2⟩
     ·intro i j g3 g4;exact q3 i j (by simpa using g3) (by simpa using g4)
     ·intro k' g3 g4;unfold pR at g4;split at g4
      ·rename_i he;subst he;exact⟨i,by simpa using hi,e1⟩
      ·obtain⟨j,hj,cH⟩:=q4 k' g3 g4;exact⟨j,by simpa using hj,cH⟩
     ·intro j hj;have cH:j<es.size:=by simpa using hj
      rw[Array.getElem_modify];split
      ·rename_i lB;subst lB;unfold sD;rw[if_pos e1];exact Iw _ _ hv
      ·rename_i lB;unfold sD;rw[if_neg (fun he=>lB (q3 i j hi cH (by rw[e1,he])))];exact Iw _ _ (q5 j cH)
     ·intro j hj;have cH:j<es.size:=by simpa using hj
      rw[Array.getElem_modify];split
      ·exact q6 j cH
      ·exact q6 j cH
     ·intro j j' hj cH he;have h1:j<es.size:=by simpa using hj
      have h2:j'<es.size:=by simpa using cH
      refine q7 j j' h1 h2 ?_;rw[Array.getElem_modify,Array.getElem_modify] at he;split at he<;>split at he<;>exact he
    ·refine iL (by rw[e,h6,g2];simp only[Sem.run_bind,e2,Result.andThen_ok];rfl) (hn _ _ _ _ ids h (aJ.lI (hs.setObj b p h5 _ _ ?_) _ _));intro w' jT Iw;obtain⟨F,F1,F2⟩:∃F:Nat->List KC,F es.size=k/\∀j,j<es.size->F j=f j:=⟨fun j=>if j=es.size then k else f j,by simp,fun j h=>by simp[Nat.ne_of_lt h]⟩;refine⟨_,clock+1,F,jT,?_,?_,?_,?_,?_,?_⟩
     ·intro j hj;have cH:j<es.size+1:=by simpa using hj
      rw[Array.getElem_push];split
      ·rename_i aH;rw[F2 j aH]
       exact⟨(q2 j aH).1,(q2 j aH).2.1,by
        unfold pR;split
        ·rfl
        ·exact(q2 j aH).2.2⟩
      ·rename_i aH;have:j=es.size:=by omega
       rw[this,F1];exact⟨g1,rfl,by simp[pR]⟩
     ·intro i j g3 g4 g5;have g3:i<es.size+1:=by simpa using g3
      have g4:j<es.size+1:=by simpa using g4
      by_cases hi:i<es.size<;>by_cases hj:j<es.size
      ·rw[F2 i hi,F2 j hj] at g5;exact q3 i j hi hj g5
      ·have:j=es.size:=by omega
       rw[this,F1,F2 i hi] at g5;exact absurd g5 (e1 i hi)
      ·have:i=es.size:=by omega
       rw[this,F1,F2 j hj] at g5;exact absurd g5.symm (e1 j hj)
      ·omega
     ·intro k' g3 g4;unfold pR at g4;split at g4
      ·rename_i he;subst he;exact⟨es.size,by simp,F1⟩
      ·obtain⟨j,hj,cH⟩:=q4 k' g3 g4;exact⟨j,by simp;omega,by rw[F2 j hj];exact cH⟩
     ·intro j hj;have cH:j<es.size+1:=by simpa using hj
      rw[Array.getElem_push];split
      ·rename_i aH;rw[F2 j aH];unfold sD;rw[if_neg (e1 j aH)];exact Iw _ _ (q5 j aH)
      ·rename_i aH;have:j=es.size:=by omega
       rw[this,F1];unfold sD;rw[if_pos rfl];exact Iw _ _ hv
     ·intro j hj;rw[Array.getElem_push];split
      ·rename_i aH;exact Nat.lt_succ_of_lt (q6 j aH)
      ·exact Nat.lt_succ_self _
     ·intro j j' hj cH he;have h1:j<es.size+1:=by simpa using hj
      have h2:j'<es.size+1:=by simpa using cH
      rw[Array.getElem_push,Array.getElem_push] at he;split at he<;>split at he
      ·rename_i a b;exact q7 j j' a b he
      ·rename_i a b;have:=q6 j a;simp only at he;omega
      ·rename_i a b;have:=q6 j' b;simp only at he;omega
      ·omega
   ·exact h.elim
  ·exact h.elim
 ·exact h.elim

theorem zw(aN:bM P tt)(hs:aJ c s m a w ids){t:TypeId}(ho:o.op=.makeMap t none){K:KT}(h:Ex tt t m K)(hn:cL c s o K next):o.wp P a w next Q:=by
 have e:execOp a.eval o=(do pure (.value (<-Instr.makeMap t none))):=by
  obtain⟨dst,op,ty,pos,after,guard⟩:=o;simp only at ho;subst ho;rfl
 unfold Ex at h;obtain⟨kt,et,agg,sh,z,zv,h1,h2,_,_,h⟩:=lO aN h (av c ids w) w;rw[gj] at h;have hb:=kM w (.map #[] 0)
 have nk:(w.alloc (.map #[] 0)).heap[w.heap.size]?=some (.map #[] 0):=by
  show(w.heap.push _)[w.heap.size]?=_;simp
 have bY:=hs.grow hb [.fK agg sh (fun _=>false) (fun _=>.aj)] [.lv (mkId w.heap.size 0 0 0)] rfl (fun i g1 g2=>by
   have:i=0:=by simp at g1;omega
   subst this;exact⟨#[],0,fun _=>[],nk,(fun i h=>by simp at h),(fun i j h=>by simp at h),(fun k _ h=>by simp at h),(fun i h=>by simp at h),(fun i h=>by simp at h),(fun i j h=>by simp at h)⟩)
  (fun p hp x hx=>by
   simp at hp;subst hp;rw[cQ hx];refine⟨Nat.le_refl _,?_⟩;show _<(w.heap.push _).size;simp) (fun vs h=>by simp at h) (fun i j p q x g1 g2 _ _=>by
   cases i with
   | zero=>cases j with
    | zero=>rfl
    | succ j=>simp at g2
   | succ i=>simp at g1)
 refine bj (v:=.map (some w.heap.size)) (w':=w.alloc (.map #[] 0)) (by rw[e];simp only[Sem.run_bind,RowKit.run_makeMap,Result.andThen_ok];rfl) (hn _ _ _ _ _ h (bY.bA o.dst (.omap m.length (mkId w.heap.size 0 0 0) ?_)));rw[<-hs.aU];simp
end
def ug{α:Type}(n:Nat)(f g:Nat->α):Nat->α:=fun i=>match Nat.blt i n with
 | true=>f i
 | false=>g (i-n)
theorem mM{α:Type}{n i:Nat}(f g:Nat->α)(h:i<n):ug n f g i=f i:=by
 unfold ug;rw[show Nat.blt i n=true from Nat.ble_eq_true_of_le h]
theorem mN{α:Type}{n i:Nat}(f g:Nat->α)(h:n<=i):ug n f g i=g (i-n):=by
 unfold ug;split
 ·rename_i h';have:i<n:=Nat.le_of_ble_eq_true h';omega
 ·rfl
def zz(tt:TT)(t:TypeId)(b':Nat)(s:List A)(m:List ar)(K:List A->A->List ar->Prop):Prop :=
 match tt.lookup t,m.getD b' .dead with
 | some ti,.row aW sz n' dZ=>match ti.kind,Nat.beq ti.bN 1 with
  | 3,true=>dP ti.aW fun ty=>r8 m b' .gone fun m1=>nc m1 (.nest ty aW sz 1 none (fun _=>n') (fun _=>dZ)) fun b m'=>K s (.own b) m'
  | _,_=>False
 | _,_=>False
def KY(tt:TT)(t:TypeId)(b b2:Nat)(ty aW sz n:Nat)(len:Nat->Nat)(row:Nat->Nat->List A)(Wu Ey TN n2:Nat)(Ez:Nat->Nat)(jK:Nat->Nat->List A)(s:List A)(m:List ar)(K:List A->A->List ar->Prop):Prop :=
 match tt.lookup t with
 | none=>False
 | some ti=>match ti.kind,Nat.beq ti.bN 1,Nat.beq ty ti.aW,Nat.beq Wu ty,Nat.beq Ey aW,Nat.beq TN sz,Nat.beq b b2,n2 with
  | 3,true,true,true,true,true,false,k+1=>dP ti.fk fun eb=>(n+(k+1)<=140737488355328/\(n+(k+1))*eb<=140737488355328) /\
   fd.sf 4 (s.map (xm b 4)) fun s'=>sj (((m.map (Bt b 4)).set b (.nest ty aW sz (n+(k+1)) none (ug n len Ez) (ug n row jK))).set b2 .gone) fun m'=>K s' (.own b) m'
  | _,_,_,_,_,_,_,_=>False

def KZ(tt:TT)(t:TypeId)(n:Nat)(s:List A)(m:List ar)(K:List A->A->List ar->Prop):Prop :=
 match tt.lookup t with
 | none=>False
 | some ti=>match ti.kind with
  | 3=>K s (.int .i64 n) m
  | _=>False
section
variable {c:Ctx} {s:List A} {m:List ar} {a:Act} {w w':World} {ids ab:dV} {P:Program} {im bL:Nat->Prop} {tt:TT} {G:aK}
variable {next:Act->World->Prop} {Q:Exit->Act->World->Prop} {o:Oper}

theorem xw(aN:bM P tt)(hs:aJ c s m a w ids){t:TypeId}{X:Operand}{b':Nat}(ho:o.op=.buildSlice t 1 #[(0,X)])(hX:ev s X=.own b')
  {K:List A->A->List ar->Prop} (h:zz tt t b' s m K)
  (hn:∀s1 v m' a' w' ab,K s1 v m'->aJ c (bA s1 o.dst v) m' a' w' ab->next a' w'):o.wp P a w next Q:=by
 have hx:=hs.ev X;rw[hX] at hx;unfold zz at h;split at h
 ·rename_i ti aW sz n' dZ j7 fN;split at h
  ·rename_i hk he;have pI:ti.bN=1:=Nat.eq_of_beq_eq_true he;rw[aX,fM,gj] at h;obtain⟨i0,d,z0,_,hd,_,_,_,_,_,_,_,_,_,kA,_⟩:=aN.facts j7;obtain⟨ie,ze,gS,jJ,cj,D6,hz,rP,hne⟩:=kA hk;subst gS;obtain⟨BC,Iw⟩:=getD_some (by simp) fN;have pN:b'<ids.length:=by rw[hs.aU];exact BC
   obtain⟨o1,o2⟩:=qq (by rfl) hx
   have cz:(Instr.buildSlice t 1 #[(0,a.eval X)]).run P w=.ok (.slice (some ⟨w.heap.size,0,none⟩) 1 1) (w.alloc (.cells #[a.eval X] ti.aW)):=by
    simp[Instr.buildSlice,underlying,hd,sizeOf,typeInfo,jJ,cj,pI,zeroValue,hz,Instr.fill,newRow,o2,show Array.range 1 = #[0] from rfl]
   obtain⟨v,hv⟩:∃v,a.eval X=v:=⟨_,rfl⟩;rw[hv] at cz hx;obtain⟨w',jT⟩:∃w',w.alloc (.cells #[v] ti.aW)=w':=⟨_,rfl⟩;rw[jT] at cz;have Kq:w'.heap.size=w.heap.size+1:=by rw[<-jT];simp
   have nk:w'.heap[w.heap.size]?=some (.cells #[v] ti.aW (0,0)):=by rw[<-jT];exact heap_alloc_new w _
   have hold:∀k,k<w.heap.size->w'.heap[k]?=w.heap[k]?:=fun k hk=>by rw[<-jT];exact Below.heap_alloc w _ k hk
   -- the inner Gr name
   have BD:∃x:Option Nat,(∀y,x=some y->∃q,ids[b']?=some (.lv q)/\q.aq=y) /\
     (∀im w',(∀y,x=some y->w'.heap[y]?=w.heap[y]?)->(∀u v,aA (av c ids w) w u v->aA im w' u v)->pj im w' aW sz n' dZ v x):=by
    rcases oH hs hx fN with⟨e1,e2,e3⟩|⟨q,cap,e1,e2,e3,e4,e5,e6⟩
    ·exact⟨none,(fun y h=>by cases h),fun _ _ _ _=>.inl ⟨e2,e1,rfl⟩⟩
    ·have J4:=hs.bP b' BC pN;rw[List.getElem?_eq_getElem pN] at e1;rw[Iw,Option.some.inj e1] at J4;obtain⟨q1,q2,us,q3,q4,q5,q6,q7⟩:=J4;refine⟨some q.aq,(fun y h=>by cases h;exact⟨q,by rw[List.getElem?_eq_getElem pN];exact e1,rfl⟩),fun im w' hk hm=>.inr ⟨q.aq,cap,us,e6,rfl,by rw[hk _ rfl];exact q3,by rw[q4,e3],e2.1,e2.2,q6,fun i' j cx h h'=>⟨hm _ _ (q7 i' j cx h h').1,(q7 i' j cx h h').2⟩⟩⟩
   obtain⟨x,xU,Xc⟩:=BD
   have TO:∀y,x=some y->y<w.heap.size:=fun y hy=>by
    obtain⟨q,q1,q2⟩:=xU y hy;exact(hs.au q (List.mem_of_getElem? q1) y (.inl q2.symm)).2
   let p':Id:=⟨w.heap.size,1,1,1,fun y=>x=some y,fun _=>none⟩
   let ab:=ids.set b' .aw++[.lv p']
   have O2:ab.length=ids.length+1:=by simp[ab]
   have bX:∀k,k<ids.length->k≠b'->ab[k]?=ids[k]?:=by
    intro k hk hne;simp only[ab];rw[List.getElem?_append_left (by simpa using hk),List.getElem?_set_ne (fun e=>hne e.symm)]
   have jy:ab[b']?=some .aw:=by
    simp only[ab];rw[List.getElem?_append_left (by simpa using pN),List.getElem?_set_self pN]
   have kO:ab[ids.length]?=some (.lv p'):=by
    simp only[ab];rw[List.getElem?_append_right (by simp)];simp
   have bE:∀(k:Nat) (r:Id),ab[k]?=some (.lv r)->(k=ids.length/\r=p')\/(k≠b'/\k<ids.length/\ids[k]?=some (.lv r)):=by
    intro k r h;by_cases sr:k=b'
    ·subst sr;rw[jy] at h;cases h
    ·rcases Nat.lt_trichotomy k ids.length with hk|hk|hk
     ·rw[bX k hk sr] at h;exact .inr ⟨sr,hk,h⟩
     ·subst hk;rw[kO] at h;cases h;exact .inl ⟨rfl,rfl⟩
     ·rw[List.getElem?_eq_none (by omega)] at h;cases h
   have bm:∀r,eU.lv r∈ab->∀y,r.has y->y<w'.heap.size/\(w.heap.size<=y\/∃(b:Nat) (p:Id),ids[b]?=some (.lv p)/\p.has y):=by
    intro r hr y hy;rw[Kq];obtain⟨k,hk⟩:=List.getElem?_of_mem hr;rcases bE k r hk with⟨_,rfl⟩|⟨_,_,e⟩
    ·rcases hy with h|h
     ·have h:y=w.heap.size:=h;exact⟨by omega,.inl (by omega)⟩
     ·obtain⟨q,q1,q2⟩:=xU y h;have hq:q.has y:=.inl q2.symm;have:=TO y h;exact⟨by omega,.inr ⟨b',q,q1,hq⟩⟩
    ·have:=(hs.au r (List.mem_of_getElem? e) y hy).2;exact⟨by omega,.inr ⟨k,r,e,hy⟩⟩
   obtain⟨ez,dH⟩:=hs.de (w':=w') (ab:=ab) (by omega) (fun k hk _=>hold k hk) bm
   have hd:∀(k:Nat) r,k≠b'->ids[k]?=some r->r≠.dead->∃q,ab[k]?=some q/\jH r q:=by
    intro k r hk hr _
    have aH:k<ids.length:=by
     rcases Nat.lt_or_ge k ids.length with h'|h'
     ·exact h'
     ·rw[List.getElem?_eq_none h'] at hr;cases hr
    exact⟨r,by rw[bX k aH hk];exact hr,fO r⟩
   have nh:∀u v,aA (av c ids w) w u v->aA (av c ab w') w' u v:=fun u v h=>h.mono ez dH
   have hS:aJ c s (m.set b' .gone++[.nest ti.aW aW sz 1 none (fun _=>n') (fun _=>dZ)]) a w' ab:=by
    refine hs.nH (by rw[<-jT];rfl) (by rw[<-jT];rfl) (by rw[<-jT];rfl) (by omega) (fun k hk _=>hold k hk) bm (fun vs h=>by
     simp only[ab] at h;rcases List.mem_append.1 h with h|h
     ·rcases List.mem_or_eq_of_mem_set h with h|h
      ·exact h
      ·cases h
     ·simp at h) ?_ rfl (by simp[ab,hs.aU]) (fun k h h'=>(hs.cc k h h').gz ez dH hd jy) ?_ (.of (by rw[<-jT];exact Nat.le_refl _))
    ·intro k k' r r' y e1 e2 x1 x2;rcases bE k r e1 with⟨rfl,rfl⟩|⟨ne,aH,e⟩<;>rcases bE k' r' e2 with⟨rfl,rfl⟩|⟨ne',hlt',e'⟩
     ·rfl
     ·exfalso;have hy:=(hs.au r' (List.mem_of_getElem? e') y x2).2;rcases x1 with h|h
      ·have h:y=w.heap.size:=h;omega
      ·obtain⟨q,q1,q2⟩:=xU y h;exact ne' (hs.al _ _ r' q y e' q1 x2 (.inl q2.symm))
     ·exfalso;have hy:=(hs.au r (List.mem_of_getElem? e) y x1).2;rcases x2 with h|h
      ·have h:y=w.heap.size:=h;omega
      ·obtain⟨q,q1,q2⟩:=xU y h;exact ne (hs.al _ _ r q y e q1 x1 (.inl q2.symm))
     ·exact hs.al k k' r r' y e e' x1 x2
    ·intro k hk iu;have gE:ab[k]?=some ab[k]:=List.getElem?_eq_getElem iu;simp only[List.length_append,List.length_set,List.length_singleton] at hk;rcases Nat.lt_or_ge k m.length with rQ|rQ
     ·rw[List.getElem_append_left (by simpa using rQ),List.getElem_set];split
      ·rename_i he;subst he;rw[jy] at gE;rw[<-Option.some.inj gE];exact rfl
      ·rename_i he;have qA:k<ids.length:=by rw[hs.aU];exact rQ
       rw[bX k qA (fun e=>he e.symm),List.getElem?_eq_getElem qA] at gE;rw[<-Option.some.inj gE];refine(hs.bP k rQ qA).gz ez dH hd jy (fun q hq y hy=>hold y ?_);exact(hs.au q (by rw[<-hq];exact List.getElem_mem _) y hy).2
     ·have Eu:k=ids.length:=by rw[hs.aU];omega
      have e2:ab[k]?=some (.lv p'):=by rw[show k=ids.length from Eu];exact kO
      have gE:eU.lv p'=ab[k]:=Option.some.inj (e2.symm.trans gE);rw[<-gE,List.getElem_append_right (by simpa using rQ)];simp only[List.length_set,show k-m.length=0 by omega,List.getElem_cons_zero];refine⟨rfl,rfl,?_,#[v],nk,rfl,Nat.le_refl _,fun _=>x,?_⟩
      ·intro h;have h:x=some w.heap.size:=h;have:=TO _ h;omega
      ·intro i hi _ Ix;have hi0:i=0:=by omega
       subst hi0;refine⟨Xc _ _ (fun y hy=>hold y (TO y hy)) nh,fun y hy=>hy,fun j hj _ _ _=>by omega⟩
   refine bj (v:=.slice (some ⟨w.heap.size,0,none⟩) 1 1) (w':=w') ?_ (hn s _ _ _ _ ab h (hS.bA o.dst ?_))
   ·unfold execOp;rw[ho];simp[hv,cz]
   ·have cD:ab[(m.set b' .gone).length]?=some (.lv p'):=by rw[List.length_set,<-hs.aU];exact kO
    exact .own _ 1 p' cD ⟨Nat.le_refl _,by simp[maxLen]⟩ rfl
  ·exact h.elim
 ·exact h.elim

theorem pj.one{aW:TypeId}{sz n:Nat}{row:Nat->List A}{v:Value}{x:Option Nat}(h:pj im w aW sz n row v x):v.oneCell'=true:=by
 rcases h with⟨rfl,_⟩|⟨q,cap,vs,rfl,_⟩<;>rfl
/-- What a nest's block holds. -/
theorem x7(hs:aJ c s m a w ids){b:Nat}{v:Value}(hx:Rel ids (av c ids w) w (.own b) v){ty aW:TypeId}{sz n:Nat}{len:Nat->Nat}{row:Nat->Nat->List A}(hb:m.getD b .dead=.nest ty aW sz n none len row):
  ∃(xs:List Value) (kx:Nat->Option Nat),xs.length=n/\(∀i (hi:i<xs.length),pj (av c ids w) w aW sz (len i) (row i) xs[i] (kx i)) /\
   (∀i,i<n->∀y,kx i=some y->∃p,ids[b]?=some (.lv p)/\p.Bh y)/\(∀p,ids[b]?=some (.lv p)->¬p.Bh p.aq)/\(∀i j,i<n->j<n->kx j=kx i->kx i≠none->j=i) /\
   ((v=.slice none 0 0/\n=0/\xs=[])\/∃p cap cur,ids[b]?=some (.lv p)/\v=.slice (some ⟨p.aq,0,none⟩) n cap/\w.heap[p.aq]?=some (.cells cur ty (0,0))/\n<=cap/\cap<=maxLen/\cur.size=cap/\cur.toList.take n=xs):=by
 obtain⟨mE,hm⟩:=getD_some (by simp) hb;have fg:b<ids.length:=by rw[hs.aU];exact mE
 have hB:=hs.bP b mE fg;rw[hm] at hB;rcases hs.gC hx (by rw[hb];simp) with⟨h1,h2⟩|⟨p,cap,h1,h2,h3,h4⟩
 ·have:ids[b]=.bg:=by rw[List.getElem?_eq_getElem fg] at h1;exact Option.some.inj h1
  rw[this] at hB;have hB:n=0:=hB;subst hB;exact⟨[],fun _=>none,rfl,fun i hi=>by simp at hi,fun i hi=>by omega,(fun p hp=>by rw[h1] at hp;cases hp),fun i j hi=>by omega,.inl ⟨h2,rfl,rfl⟩⟩
 ·have:ids[b]=.lv p:=by rw[List.getElem?_eq_getElem fg] at h1;exact Option.some.inj h1
  rw[this] at hB;obtain⟨g1,g2,g3,vs,e1,e2,e3,kb,e4⟩:=hB;have hl:(vs.toList.take n).length=n:=by rw[List.length_take,Array.length_toList];omega
  refine⟨vs.toList.take n,kb,hl,fun i hi=>?_,fun i hi y hy=>⟨p,h1,(e4 i hi (by simp) (by omega)).2.1 y hy⟩,(fun p' hp=>by rw[h1] at hp;cases hp;exact g3),
   fun i j hi hj h1 h2=>(e4 i hi (by simp) (by omega)).2.2 j hj (by simp) h1 h2,.inr ⟨p,cap,vs,h1,by rw[h4,g2],e1,by omega,h2.2,by rw[e2,<-h3,g1];omega,rfl⟩⟩
  have cx:i<n:=by omega
  have:=(e4 i cx (by simp) (by omega)).1;simpa using this

theorem BP(aN:bM P tt)(hs:aJ c s m a w ids){t:TypeId}{X Y:Operand}{b b2:Nat}(ho:o.op=.call { callee:=.builtin .append,args:=#[X,Y],argTypes:=#[t,t] })(hX:ev s X=.own b)(hY:ev s Y=.own b2)
  {ty aW:TypeId} {sz n:Nat} {len:Nat->Nat} {row:Nat->Nat->List A} {Wu Ey:TypeId} {TN n2:Nat} {Ez:Nat->Nat} {jK:Nat->Nat->List A}
  (hb:m.getD b .dead=.nest ty aW sz n none len row) (mr:m.getD b2 .dead=.nest Wu Ey TN n2 none Ez jK)
  {K:List A->A->List ar->Prop} (h:KY tt t b b2 ty aW sz n len row Wu Ey TN n2 Ez jK s m K)
  (hn:∀s1 v m' a' w' ab,K s1 v m'->aJ c (bA s1 o.dst v) m' a' w' ab->next a' w'):o.wp P a w next Q:=by
 have hx:=hs.ev X;have hy:=hs.ev Y;rw[hX] at hx;rw[hY] at hy
 have e:(execOp a.eval o)=(do pure (.value (<-Builtin.append_ #[t,t] o.type #[a.eval X,a.eval Y]))):=by
  obtain⟨dst,op,ty,pos,after,guard⟩:=o;simp only at ho;subst ho;simp[execOp,resolve,invoke,builtin]
 unfold KY at h;split at h
 ·exact h.elim
 ·rename_i ti j7;split at h
  ·rename_i k hk he q1 q2 q3 q4 q5;have pI:ti.bN=1:=Nat.eq_of_beq_eq_true he;obtain rfl:=Nat.eq_of_beq_eq_true q1;obtain rfl:=Nat.eq_of_beq_eq_true q2;obtain rfl:=Nat.eq_of_beq_eq_true q3;obtain rfl:=Nat.eq_of_beq_eq_true q4;have hne:b≠b2:=fun e=>by subst e;rw[Nat.beq_refl] at q5;cases q5
   rw[aX] at h;obtain⟨⟨Eb,uz⟩,h⟩:=h;rw[cX,eK] at h;obtain⟨i0,d,z0,_,hd,_,_,_,_,_,_,_,_,_,kA,_⟩:=aN.facts j7;obtain⟨ie,ze,gS,jJ,cj,D6,hz,rP,hne0⟩:=kA hk;subst gS;have Iu:ze.cells.size=ie.size:=by rw[rP,cj]
   have uf:ie.size=1:=by rw[cj,pI]
   obtain⟨mE,hm⟩:=getD_some (by simp) hb;have fg:b<ids.length:=by rw[hs.aU];exact mE
   obtain⟨hbm2,tv⟩:=getD_some (by simp) mr;have hbi2:b2<ids.length:=by rw[hs.aU];exact hbm2
   obtain⟨xs,kx,x1,x2,x3,x4,x5,x6⟩:=x7 hs hx hb;obtain⟨ys,ky,y1,y2,y3,y4,y5,y6⟩:=x7 hs hy mr
   obtain⟨q,TH,cur2,r1,r2,r3,r4,r5,r6,r7⟩:∃p cap cur,ids[b2]?=some (.lv p)/\a.eval Y=.slice (some ⟨p.aq,0,none⟩) (k+1) cap/\w.heap[p.aq]?=some (.cells cur ti.aW (0,0))/\k+1<=cap/\cap<=maxLen/\cur.size=cap/\cur.toList.take (k+1)=ys:=by
    rcases y6 with⟨_,h,_⟩|h
    ·omega
    ·exact h
   have Tp:(a.eval Y=.slice none 0 0/\k+1=0/\ys=[])\/∃ad cp,a.eval Y=.slice (some ad) (k+1) cp/\ys.length=(k+1)*ie.size/\(∀j u,ys[j]?=some u->w.cell? (ad.add j)=some u):=by
    refine .inr ⟨⟨q.aq,0,none⟩,TH,r2,by rw[uf,y1];omega,fun j u hu=>?_⟩;have Ko:(⟨q.aq,0,none⟩:Addr).add j=⟨q.aq,j,none⟩:=by unfold Addr.add;split<;>simp_all
    rw[Ko,cell_of_row w q.aq j cur2 ti.aW (0,0) r3];rw[<-r7,List.getElem?_take] at hu;split at hu
    ·simpa using hu
    ·cases hu
   have Po:(a.eval X=.slice none 0 0/\n=0/\xs=[])\/∃g cap cur,a.eval X=.slice (some ⟨g,0,none⟩) n cap/\w.heap[g]?=some (.cells cur ti.aW (0,0))/\n<=cap/\cap<=maxLen/\cur.size=cap*ie.size/\cur.toList.take (n*ie.size)=xs:=by
    rcases x6 with h|⟨p,cap,cur,e1,e2,e3,e4,e5,e6,e7⟩
    ·exact .inl h
    ·exact .inr ⟨p.aq,cap,cur,e2,e3,e4,e5,by rw[uf,e6];omega,by rw[uf,Nat.mul_one];exact e7⟩
   have Gy:(a.eval X).ownBlock=none\/∃p,ids[b]?=some (.lv p)/\(a.eval X).ownBlock=some p.aq:=by
    rcases x6 with⟨h,_⟩|⟨p,cap,cur,e1,e2,_⟩
    ·exact .inl (by rw[h];rfl)
    ·exact .inr ⟨p,e1,by rw[e2];rfl⟩
   obtain⟨v',w',cz,o1,o2,o3,o4,o5,Py,o6⟩:=mG (P:=P) (w:=w) t o.type ti.aW ie ze hd jJ hz Iu (a.eval X) n xs Po (a.eval Y) (k+1) ys Tp
    (fun u hu=>by obtain⟨i,hi,rfl⟩:=List.getElem_of_mem hu;exact(y2 i hi).one) Eb (by rw[D6];exact uz)
   rcases o6 with⟨_,hz0⟩|⟨g,cap,cur,rfl,g1,g2,g3,g4,g5,g6,g7⟩
   ·omega
   rw[uf] at g4 g5;rw[Nat.mul_one] at g4 g5
   have hblk:∀k,k<w.heap.size->(∀p,ids[b]?=some (.lv p)->p.aq≠k)->w'.heap[k]?=w.heap[k]?:=by
    intro k hk hp;refine o5 k hk (fun e=>?_);rcases Gy with h|⟨p,h1,h2⟩
    ·rw[h] at e;cases e
    ·rw[h2] at e;exact hp p h1 (Option.some.inj e)
   have gk:∀k,k<w.heap.size->(∀(b:Nat) (p:Id),ids[b]?=some (.lv p)->¬p.has k)->w'.heap[k]?=w.heap[k]?:=fun k hk hp=>hblk k hk (fun p h1 h2=>hp b p h1 (.inl h2.symm))
   let p':Id:=⟨g,cur.size,n+(k+1),1,fun y=>(∃i,i<n/\kx i=some y)\/∃i,i<k+1/\ky i=some y,fun _=>none⟩
   let ab:=(ids.set b (.lv p')).set b2 .aw
   have bX:∀k,k≠b->k≠b2->ab[k]?=ids[k]?:=by
    intro k h1 h2;simp only[ab];rw[List.getElem?_set_ne (fun e=>h2 e.symm),List.getElem?_set_ne (fun e=>h1 e.symm)]
   have eM:ab[b]?=some (.lv p'):=by
    simp only[ab];rw[List.getElem?_set_ne (fun e=>hne e.symm),List.getElem?_set_self fg]
   have zC:ab[b2]?=some .aw:=by
    simp only[ab];rw[List.getElem?_set_self (by simpa using hbi2)]
   have bE:∀(k:Nat) (r:Id),ab[k]?=some (.lv r)->(k=b/\r=p')\/(k≠b/\k≠b2/\ids[k]?=some (.lv r)):=by
    intro k r h;by_cases sr:k=b
    ·subst sr;rw[eM] at h;cases h;exact .inl ⟨rfl,rfl⟩
    ·by_cases vD:k=b2
     ·subst vD;rw[zC] at h;cases h
     ·rw[bX k sr vD] at h;exact .inr ⟨sr,vD,h⟩
   -- whose a block of the new nest was
   have Xv:∀y,p'.has y->(w.heap.size<=y/\y=g)\/∃(b':Nat) (p:Id),(b'=b\/b'=b2)/\ids[b']?=some (.lv p)/\p.has y:=by
    rintro y (h|⟨i,hi,h⟩|⟨i,hi,h⟩)
    ·have h:y=g:=h;rcases g7 with h'|h'
     ·exact .inl ⟨by omega,h⟩
     ·rcases Gy with h1|⟨p,h1,h2⟩
      ·rw[h1] at h';cases h'
      ·rw[h2] at h';exact .inr ⟨b,p,.inl rfl,h1,.inl (by rw[h];exact(Option.some.inj h').symm)⟩
    ·obtain⟨p,h1,h2⟩:=x3 i hi y h;exact .inr ⟨b,p,.inl rfl,h1,.inr h2⟩
    ·obtain⟨p,h1,h2⟩:=y3 i hi y h;exact .inr ⟨b2,p,.inr rfl,h1,.inr h2⟩
   have bm:∀r,eU.lv r∈ab->∀y,r.has y->y<w'.heap.size/\(w.heap.size<=y\/∃(b:Nat) (p:Id),ids[b]?=some (.lv p)/\p.has y):=by
    intro r hr y hy;obtain⟨k,hk⟩:=List.getElem?_of_mem hr;rcases bE k r hk with⟨_,rfl⟩|⟨_,_,e⟩
    ·rcases Xv y hy with⟨h1,h2⟩|⟨b',p,_,h1,h2⟩
     ·exact⟨by omega,.inl h1⟩
     ·exact⟨Nat.lt_of_lt_of_le (hs.au p (List.mem_of_getElem? h1) y h2).2 o4,.inr ⟨b',p,h1,h2⟩⟩
    ·exact⟨Nat.lt_of_lt_of_le (hs.au r (List.mem_of_getElem? e) y hy).2 o4,.inr ⟨k,r,e,hy⟩⟩
   obtain⟨ez,dH⟩:=hs.de (w':=w') (ab:=ab) o4 gk bm
   -- first the names of b are struck, then b2 is gone
   have hdS:∀(b':Nat) p,b'≠b->ids[b']?=some p->p≠.dead->∃q,(ids.set b .dead)[b']?=some q/\jH p q:=by
    intro b' p fN hp _;exact⟨p,by rw[List.getElem?_set_ne (fun e=>fN e.symm)];exact hp,fO p⟩
   have hdT:∀(b':Nat) p,b'≠b2->(ids.set b .dead)[b']?=some p->p≠.dead->∃q,ab[b']?=some q/\jH p q:=by
    intro b' p fN hp Ss;by_cases su:b'=b
    ·subst su;rw[List.getElem?_set_self fg] at hp;cases hp;exact absurd rfl Ss
    ·rw[List.getElem?_set_ne (fun e=>su e.symm)] at hp;exact⟨p,by rw[bX b' su fN];exact hp,fO p⟩
   have nh:∀u v,aA (av c ids w) w u v->aA (av c ab w') w' u v:=fun u v h=>h.mono ez dH
   have hkx:∀i,i<n->∀y,kx i=some y->w'.heap[y]?=w.heap[y]?:=by
    intro i hi y hy;obtain⟨p,h1,h2⟩:=x3 i hi y hy;refine hblk y (hs.au p (List.mem_of_getElem? h1) y (.inr h2)).2 (fun p0 h0 e0=>?_);rw[h1] at h0;cases h0;exact x4 p h1 (by rw[e0];exact h2)
   have hky:∀i,i<k+1->∀y,ky i=some y->w'.heap[y]?=w.heap[y]?:=by
    intro i hi y hy;obtain⟨p,h1,h2⟩:=y3 i hi y hy;refine hblk y (hs.au p (List.mem_of_getElem? h1) y (.inr h2)).2 (fun p0 h0 e0=>?_);exact hne (hs.al b b2 p0 p y h0 h1 (.inl e0.symm) (.inr h2))
   have hS:aJ c (s.map (xm b 4)) (((m.map (Bt b 4)).set b (.nest ti.aW Ey TN (n+(k+1)) none (ug n len Ez) (ug n row jK))).set b2 .gone) a w' ab:=by
    refine hs.nH o1 o2 o3 o4 gk bm (fun vs h=>by
     simp only[ab] at h;rcases List.mem_or_eq_of_mem_set h with h|h
     ·rcases List.mem_or_eq_of_mem_set h with h|h
      ·exact h
      ·cases h
     ·cases h) ?_ (by simp) (by simp[ab,hs.aU]) ?_ ?_ Py
    ·intro k k' r r' y e1 e2 z1 z2
     have go:∀(kk:Nat) (rr:Id),kk≠b->kk≠b2->ids[kk]?=some (.lv rr)->p'.has y->rr.has y->False:=by
      intro kk rr n1 n2 ek a1 a2;have aH:=(hs.au rr (List.mem_of_getElem? ek) y a2).2;rcases Xv y a1 with⟨h1,_⟩|⟨b',p,fN,h1,h2⟩
      ·omega
      ·have:=hs.al _ _ p rr y h1 ek h2 a2;rcases fN with rfl|rfl
       ·exact n1 this.symm
       ·exact n2 this.symm
     rcases bE k r e1 with⟨rfl,rfl⟩|⟨ne,KG,e⟩<;>rcases bE k' r' e2 with⟨rfl,rfl⟩|⟨ne',KH,e'⟩
     ·rfl
     ·exact(go k' r' ne' KH e' z1 z2).elim
     ·exact(go k r ne KG e z2 z1).elim
     ·exact hs.al k k' r r' y e e' z1 z2
    ·intro k h h';rw[List.getElem_map];have q0:=nG (bL:=av c ids w) (w':=w) (ab:=ids.set b .dead) (fun _ h=>h) (fun _ _=>rfl) hdS 4 _ _ (hs.cc k (by simpa using h) h');exact q0.gz ez dH hdT zC
    ·intro k hk iu;have gE:ab[k]?=some ab[k]:=List.getElem?_eq_getElem iu;simp only[List.length_set,List.length_map] at hk;rw[List.getElem_set];split
     ·rename_i he;subst he;rw[zC] at gE;rw[<-Option.some.inj gE];exact rfl
     ·rename_i he;rw[List.getElem_set];split
      ·rename_i gY;subst gY;rw[eM] at gE;rw[<-Option.some.inj gE]
       have TP:∀i (hi:i<(xs++ys).length) (hv:i<cur.size),cur[i]=(xs++ys)[i]:=by
        intro i hi hv;have dH:i<n+(k+1):=by rw[List.length_append,x1,y1] at hi;exact hi
        simp only[<-g5];simp
       refine⟨rfl,rfl,?_,cur,g1,rfl,by show n+(k+1)<=cur.size;omega,ug n kx ky,?_⟩
       ·rintro(⟨i,hi,h⟩|⟨i,hi,h⟩)
        ·obtain⟨p,h1,h2⟩:=x3 i hi _ h;rcases g7 with h'|h'
         ·have h':w.heap.size<=p'.aq:=h';have:=(hs.au p (List.mem_of_getElem? h1) _ (.inr h2)).2;omega
         ·rcases Gy with h3|⟨p0,h3,h4⟩
          ·rw[h3] at h';cases h'
          ·rw[h4] at h';rw[h1] at h3;cases h3;have e0:p.aq=p'.aq:=Option.some.inj h';exact x4 p h1 (by rw[e0];exact h2)
        ·obtain⟨p,h1,h2⟩:=y3 i hi _ h;rcases g7 with h'|h'
         ·have h':w.heap.size<=p'.aq:=h';have:=(hs.au p (List.mem_of_getElem? h1) _ (.inr h2)).2;omega
         ·rcases Gy with h3|⟨p0,h3,h4⟩
          ·rw[h3] at h';cases h'
          ·rw[h4] at h';have e0:p0.aq=p'.aq:=Option.some.inj h';exact hne (hs.al b b2 p0 p p'.aq h3 h1 (.inl e0.symm) (.inr h2))
       ·intro i hi _ hv;have hl:(xs++ys).length=n+(k+1):=by rw[List.length_append,x1,y1]
        rw[TP i (by omega) hv];rcases Nat.lt_or_ge i n with pL|pL
        ·rw[mM _ _ pL,mM _ _ pL,mM _ _ pL,List.getElem_append_left (by omega)];refine⟨(x2 i (by omega)).mono ez dH (hkx i pL),fun y hy=>.inl ⟨i,pL,hy⟩,fun j hj _ e1 e2=>?_⟩;rcases Nat.lt_or_ge j n with PN|PN
         ·rw[mM _ _ PN] at e1;exact x5 i j pL PN e1 e2
         ·rw[mN _ _ PN] at e1;exfalso;obtain⟨y,hy⟩:=Option.ne_none_iff_exists'.1 e2;obtain⟨p,h1,h2⟩:=x3 i pL y hy;obtain⟨p2,h3,h4⟩:=y3 (j-n) (by omega) y (by rw[e1,hy]);exact hne (hs.al b b2 p p2 y h1 h3 (.inr h2) (.inr h4))
        ·rw[mN _ _ pL,mN _ _ pL,mN _ _ pL,List.getElem_append_right (by omega)];have ei:i-xs.length=i-n:=by rw[x1]
         simp only[ei];refine⟨(y2 (i-n) (by omega)).mono ez dH (hky (i-n) (by omega)),fun y hy=>.inr ⟨i-n,by omega,hy⟩,fun j hj _ e1 e2=>?_⟩;rcases Nat.lt_or_ge j n with PN|PN
         ·rw[mM _ _ PN] at e1;exfalso;obtain⟨y,hy⟩:=Option.ne_none_iff_exists'.1 e2;obtain⟨p,h1,h2⟩:=y3 (i-n) (by omega) y hy;obtain⟨p2,h3,h4⟩:=x3 j PN y (by rw[e1,hy]);exact hne (hs.al b b2 p2 p y h3 h1 (.inr h4) (.inr h2))
         ·rw[mN _ _ PN] at e1;have:=y5 (i-n) (j-n) (by omega) (by omega) e1 e2;omega
      ·rename_i gY;have qA:k<ids.length:=by rw[hs.aU];exact hk
       rw[bX k (fun e=>gY e.symm) (fun e=>he e.symm),List.getElem?_eq_getElem qA] at gE;rw[<-Option.some.inj gE,List.getElem_map];have q0:=bq.Sn (bL:=av c ids w) (w':=w) (ab:=ids.set b .dead) (fun _ h=>h) (fun _ _=>rfl) hdS 4 (fun _ _ _ _=>rfl) (hs.bP k hk qA);refine q0.gz ez dH hdT zC (fun r hr y hy=>?_);have er:ids[k]?=some (.lv r):=by rw[List.getElem?_eq_getElem qA,hr]
       exact hblk y (hs.au r (List.mem_of_getElem? er) y hy).2 (fun p h1 h2=>gY (hs.al b k p r y h1 er (.inl h2.symm) hy))
   refine bj (v:=.slice (some ⟨g,0,none⟩) (n+(k+1)) cap) (w':=w') (by rw[e];simp[cz]) (hn _ _ _ _ _ _ h (hS.bA o.dst (.own b cap p' eM ⟨g2,g3⟩ ?_)));show cap*1=cur.size;omega
  ·exact h.elim
theorem BR(aN:bM P tt)(hs:aJ c s m a w ids){t:TypeId}{X:Operand}{b:Nat}(ho:o.op=.call { callee:=.builtin .len,args:=#[X],argTypes:=#[t] })(hX:ev s X=.own b)
  {ty aW:TypeId} {sz n:Nat} {hole:Option Nat} {len:Nat->Nat} {row:Nat->Nat->List A} (hb:m.getD b .dead=.nest ty aW sz n hole len row)
  {K:List A->A->List ar->Prop} (h:KZ tt t n s m K)
  (hn:∀s1 v m' a' w' ab,K s1 v m'->aJ c (bA s1 o.dst v) m' a' w' ab->next a' w'):o.wp P a w next Q:=by
 have hx:=hs.ev X;rw[hX] at hx
 have e:(execOp a.eval o)=(do pure (.value (<-Builtin.len_ #[t] o.type #[a.eval X]))):=by
  obtain⟨dst,op,ty,pos,after,guard⟩:=o;simp only at ho;subst ho;rw[BigFrame.execOp_builtin,BigFrame.builtin_len];simp
 unfold KZ at h;split at h
 ·exact h.elim
 ·rename_i ti j7;split at h
  ·rename_i hk;obtain⟨i0,d,z0,_,hd,_,_,_,_,_,_,_,_,_,kA,_⟩:=aN.facts j7;obtain⟨ie,ze,gS,_⟩:=kA hk;subst gS;obtain⟨mE,hm⟩:=getD_some (by simp) hb;have fg:b<ids.length:=by rw[hs.aU];exact mE
   have hB:=hs.bP b mE fg;rw[hm] at hB
   have hv:∃ad cap,a.eval X=.slice ad n cap:=by
    rcases hs.gC hx (by rw[hb];simp) with⟨h1,h2⟩|⟨p,cap,h1,h2,h3,h4⟩
    ·have:ids[b]=.bg:=by rw[List.getElem?_eq_getElem fg] at h1;exact Option.some.inj h1
     rw[this] at hB;have hB:n=0:=hB;subst hB;exact⟨_,_,h2⟩
    ·have:ids[b]=.lv p:=by rw[List.getElem?_eq_getElem fg] at h1;exact Option.some.inj h1
     rw[this] at hB;have e2:p.n=n:=hB.2.1;exact⟨_,_,by rw[h4,e2]⟩
   obtain⟨ad,cap,hv⟩:=hv;refine bj (v:=.int .i64 n) (w':=w) ?_ (hn s _ m _ _ ids h (hs.bA o.dst (.aL (.int _ _))));rw[e,hv];simp[Builtin.len_,underlying,hd,goInt]
  ·exact h.elim
end
/-- How many entries a map has: as many as any list of them, each once. -/
def TQ(sh:List KS)(has:List KC->Bool)(K:A->Prop):Prop :=
 ∀keys:List (List KC),keys.Nodup->(∀k∈keys,jv sh k/\has k=true)->(∀k,jv sh k->has k=true->k∈keys)->K (.int .i64 keys.length)
def qH(tt:TT)(t:TypeId)(x:A)(m:List ar)(K:A->Prop):Prop :=
 lN tt t fun _ _ _=>match x with
  | .mv _ sh has _=>TQ sh has K
  | .omap b=>match m.getD b .dead with
   | .fK _ sh has _=>TQ sh has K
   | _=>False
  | _=>False
section
variable {c:Ctx} {s:List A} {m:List ar} {a:Act} {w w':World} {ids ab:dV} {P:Program} {im bL:Nat->Prop} {tt:TT} {G:aK}
variable {next:Act->World->Prop} {Q:Exit->Act->World->Prop} {o:Oper}
theorem Gz{sh:List KS}{has:List KC->Bool}{K:A->Prop}{n:Nat}{f:Nat->List KC}(hk:∀i,i<n->jv sh (f i)/\has (f i)=true)(hd:∀i j,i<n->j<n->f i=f j->i=j)
  (hc:∀k,jv sh k->has k=true->∃i,i<n/\f i=k) (h:TQ sh has K):K (.int .i64 n):=by
 have h:=h ((List.range n).map f) ?_ ?_ ?_
 ·simpa using h
 ·unfold List.Nodup;rw[List.pairwise_map];exact List.Pairwise.imp_of_mem (fun ha hb BI e=>BI (hd _ _ (List.mem_range.1 ha) (List.mem_range.1 hb) e)) List.nodup_range
 ·intro k iu;obtain⟨i,hi,rfl⟩:=List.mem_map.1 iu;exact hk i (List.mem_range.1 hi)
 ·intro k h1 h2;obtain⟨i,hi,rfl⟩:=hc k h1 h2;exact List.mem_map.2 ⟨i,List.mem_range.2 hi,rfl⟩
theorem lk(aN:bM P tt)(hs:aJ c s m a w ids){X:Operand}{t:TypeId}
  (ho:o.op=.call { callee:=.builtin .len,args:=#[X],argTypes:=#[t] }) {K:KT} (h:qH tt t (ev s X) m fun v=>K v m) (hn:cL c s o K next):o.wp P a w next Q:=by
 have hx:=hs.ev X
 have e:(execOp a.eval o)=(do pure (.value (<-Builtin.len_ #[t] o.type #[a.eval X]))):=by
  obtain⟨dst,op,ty,pos,after,guard⟩:=o;simp only at ho;subst ho;rw[BigFrame.execOp_builtin,BigFrame.builtin_len];simp
 unfold qH at h;obtain⟨kt,et,agg,sh,z,zv,h1,h2,_,_,h⟩:=lO aN h (av c ids w) w
 have fin:∀(r:Nat) (es:Array MapEntry) (clock:Nat),a.eval X=.map (some r)->w.heap[r]?=some (.map es clock)->K (.int .i64 es.size) m->o.wp P a w next Q:=by
  intro r es clock hv hh hk;refine bj (v:=.int .i64 es.size) (w':=w) ?_ (hn _ _ _ _ _ hk (hs.bA o.dst (.aL (.int _ _))));rw[e,hv];simp[Builtin.len_,run_underlying h1,MapKept.run_getObj_map hh,goInt]
 split at h
 ·rename_i kC vI has val hX;rw[hX] at hx;cases hx with
  | aL hi =>
   generalize hv:a.eval X=v at hi;cases hi with
   | mv _ _ _ _ r es clock f hb hh hk hd hc Wp Ig F9 =>
    exact fin r es clock hv hh (Gz (fun i hi=>⟨(hk i hi).1,(hk i hi).2.2⟩) hd hc h)
 ·rename_i b hX;rw[hX] at hx;split at h
  ·rename_i kC vI has val hb;obtain⟨mE,hm⟩:=getD_some (by simp) hb;have fg:b<ids.length:=by rw[hs.aU];exact mE
   have hB:=hs.bP b mE fg;rw[hm] at hB;cases hp:ids[b] with
   | dead=>rw[hp] at hB;exact hB.elim
   | aw=>rw[hp] at hB;exact hB.elim
   | cV vs=>rw[hp] at hB;exact hB.elim
   | bg=>rw[hp] at hB;exact hB.elim
   | lv p =>
    rw[hp] at hB;obtain⟨es,clock,f,g1,g2,g3,g4,_⟩:=hB;have cD:ids[b]?=some (.lv p):=by rw[List.getElem?_eq_getElem fg,hp]
    have hv:a.eval X=.map (some p.aq):=by
     generalize a.eval X=v at hx;cases hx with
     | omap _ q hq=>rw[cD] at hq;cases hq;rfl
     | gI _ x hq=>rw[cD] at hq;cases hq
     | aL hi=>cases hi
    exact fin p.aq es clock hv g1 (Gz (fun i hi=>⟨(g2 i hi).1,(g2 i hi).2.2⟩) g3 g4 h)
  ·exact h.elim
 ·exact h.elim
end
def sIdxG(tt:TT)(t:TypeId)(b n:Nat)(i:A)(K:A->Prop):Prop :=
 match tt.lookup t,i with
 | some ti,.int _ ix=>match ti.kind,Nat.beq ti.bN 1 with
  | 3,true=>(0<=ix/\ix<(n:Int))/\K (.oref b ix.toNat 0)
  | _,_=>False
 | _,_=>False
def sLoadG(tt:TT)(t:TypeId)(i off n hi:Nat)(cs:List A)(K:A->Prop):Prop :=
 match tt.lookup t,off,cs with
 | some ti,0,[x]=>match ti.agg with
  | false=>(i=hi/\i<n)/\fd 3 x K
  | true=>False
 | _,_,_=>False
def ZQ(tt:TT)(t:TypeId)(i off:Nat)(y:A)(ty:TypeId)(agg:Bool)(sh:List KS)(n:Nat)(cs:List A)(kI:Nat->Nat)(has:Nat->List KC->Bool)(val:Nat->List KC->A)(K:ar->Prop):Prop :=
 match tt.lookup t,off,cs,y with
 | some ti,0,[],.omap k=>match Nat.beq ti.size 1 with
  | true=>i<n/\K (.cZ ty agg sh n i [.omap k] kI has val)
  | false=>False
 | _,_,_,_=>False
section
variable {c:Ctx} {s:List A} {m:List ar} {a:Act} {w w':World} {ids ab:dV} {P:Program} {im bL:Nat->Prop} {tt:TT} {G:aK}
variable {next:Act->World->Prop} {Q:Exit->Act->World->Prop} {o:Oper}
variable {ty:TypeId} {agg:Bool} {sh:List KS} {n hi:Nat} {cs:List A} {kI:Nat->Nat} {has:Nat->List KC->Bool} {val:Nat->List KC->A}
end
section
variable {c:Ctx} {s:List A} {m:List ar} {a:Act} {w w':World} {ids ab:dV} {P:Program} {im bL:Nat->Prop} {tt:TT} {G:aK}
variable {next:Act->World->Prop} {Q:Exit->Act->World->Prop} {o:Oper}

def sEnt(tt:TT)(t:TypeId)(x key:A)(m:List ar)(K:KT):Prop :=
 lN tt t fun agg sh _=>match IC agg sh key,x with
  | some k,.omap b=>match m.getD b .dead with
   | .qm kC vI has val=>match sC agg kC,vH sh vI with
    | true,true=>r8 m b (.qm kC vI (pR has k true) (sD val k .aj)) fun m'=>K (.tup [.aj,.tf b k]) m'
    | _,_=>False
   | _=>False
  | _,_=>False
end

def Xw(row:Nat->List A):Nat->Option (List UInt8)
 | 0=>some []
 | n+1=>match Xw row n with
  | some l=>match row n with
   | [.int .u8 v]=>some (l++[UInt8.ofNat v.toNat])
   | _=>none
  | none=>none
def EA(tt:TT)(src dst:TypeId)(x:A)(m:List ar)(K:KT):Prop :=
 match x with
 | .own b=>match m.getD b .dead with
  | .row _ sz n row=>match tt.lookup src,tt.lookup dst with
   | some si,some di=>match si.kind,di.kind,tt.lookup si.aW,Nat.beq sz 1 with
    | 3,4,some ei,true=>match ei.kind,ei.ik,Xw row n with
     | 5,.u8,some l=>K (.str l) m
     | _,_,_=>False
    | _,_,_,_=>False
   | _,_=>False
  | _=>False
 | _=>xM tt src dst x fun v=>K v m
theorem GA:∀(row:Nat->List A) (n:Nat) (l:List UInt8),Xw row n=some l->l.length=n/\∀i,i<n->∃v:Int,row i=[.int .u8 v]/\l[i]?=some (UInt8.ofNat v.toNat)
 | row,0,l,h=>by
  simp only[Xw,Option.some.injEq] at h;subst h;exact⟨rfl,fun i h=>absurd h (Nat.not_lt_zero _)⟩
 | row,n+1,l,h=>by
  unfold Xw at h;split at h
  ·rename_i l0 h0;obtain⟨g1,g2⟩:=GA row n l0 h0;split at h
   ·rename_i v hv;have h:=Option.some.inj h;subst h;refine⟨by simp[g1],fun i hi=>?_⟩;rcases Nat.lt_or_eq_of_le (Nat.le_of_lt_succ hi) with q|q
    ·obtain⟨v',e1,e2⟩:=g2 i q;exact⟨v',e1,by rw[List.getElem?_append_left (by omega)];exact e2⟩
    ·subst q;exact⟨v,hv,by rw[List.getElem?_append_right (by omega),g1];simp⟩
   ·cases h
  ·cases h
section
variable {c:Ctx} {s:List A} {m:List ar} {a:Act} {w w':World} {ids ab:dV} {P:Program} {im bL:Nat->Prop} {tt:TT} {G:aK}
variable {next:Act->World->Prop} {Q:Exit->Act->World->Prop} {o:Oper}
theorem zD(aN:bM P tt)(hs:aJ c s m a w ids){X:Operand}{src dst:TypeId}(ho:o.op=.convert src dst X){K:KT}(h:EA tt src dst (ev s X) m K)(hn:cL c s o K next):o.wp P a w next Q:=by
 unfold EA at h;split at h
 ·rename_i b hv;split at h
  ·rename_i ty sz n row Gx;split at h
   ·rename_i si di hsi hdi;split at h
    ·rename_i ei Bm nu Sx cj;split at h
     ·rename_i l kA hik hl;have cj:sz=1:=Nat.eq_of_beq_eq_true cj;subst cj;have hx:=hs.ev X;rw[hv] at hx;have e:execOp a.eval o=(do let z <-convert src dst (a.eval X);pure (.value z)):=by unfold execOp;rw[ho]
      obtain⟨_,d1,_,_,WT,_,_,_,_,_,_,_,_,_,b3,_⟩:=aN.facts hsi;obtain⟨_,_,rfl,_⟩:=b3 Bm;obtain⟨_,d2,_,_,Wn,_,_,_,_,_,_,_,_,_,_,_,b4,_⟩:=aN.facts hdi;obtain rfl:=b4 nu;obtain⟨_,d3,_,_,Wv,_,_,_,_,_,_,_,_,_,_,b5,_⟩:=aN.facts Sx;obtain rfl:=b5 kA;rw[hik] at Wv;obtain⟨hll,hlg⟩:=GA row n l hl;rcases hs.gC hx (by rw[Gx];simp) with⟨h1,h2⟩|⟨p,cap,h1,_,_,h2⟩
      ·have hb:b<ids.length:=by
        rcases Nat.lt_or_ge b ids.length with h'|h'
        ·exact h'
        ·rw[List.getElem?_eq_none h'] at h1;cases h1
       have hm:b<m.length:=by rw[<-hs.aU];exact hb
       have hB:=hs.bP b hm hb;rw[List.getElem?_eq_getElem hb] at h1;rw[Option.some.inj h1] at hB;have e2:m.getD b .dead=m[b]:=by rw[List.getD_eq_getElem?_getD,List.getElem?_eq_getElem hm];rfl
       rw[<-e2,Gx] at hB;have hn0:n=0:=hB;have Xx:l=[]:=List.length_eq_zero_iff.1 (by omega);subst Xx;refine aZ hs hn ⟨_,.string ByteArray.empty,?_,h,.aL (.str [])⟩;have cz:=run_convert_bytes_nil (P:=P) (w:=w) src si.aW WT Wv 0 0 dst Wn;rw[e,h2];simp only[Sem.run_bind,cz,Result.andThen_ok];rfl
      ·obtain⟨x,nD,ng⟩:=hs.fu h1;rw[bI nD] at Gx;subst Gx;obtain⟨g1,g2,vs,g3,g4,g5,g6,g7⟩:=ng
       have BS:∀i,i<n->w.cell? ⟨p.aq,0+i,none⟩=some (.int .u8 (((List.range n).map fun i=>match row i with|[.int _ v]=>v|_=>0).getD i 0)):=by
        intro i hi;obtain⟨v,e1,_⟩:=hlg i hi;have aH:i*1+0<vs.size:=by omega
        have hr:=(g7 i 0 hi (by rw[g6 i hi];omega) aH).1;have e3:(row i)[0]'(by rw[g6 i hi];omega)=.int .u8 v:=by simp only[e1,List.getElem_cons_zero]
        rw[e3] at hr
        have Ix:vs[i*1+0]=.int .u8 v:=by
         generalize vs[i*1+0]=vv at hr;cases hr;rfl
        have e4:((List.range n).map fun i=>match row i with|[.int _ v]=>v|_=>0).getD i 0=v:=by
         simp[List.getD_eq_getElem?_getD,hi,e1]
        rw[e4];unfold World.cell?;simp only[g3,Nat.zero_add];have ID:i<vs.size:=by omega
        simp only[Nat.mul_one,Nat.add_zero] at Ix;simp[Array.getElem?_eq_getElem ID,Ix]
       have cz:=run_convert_bytes_arg (P:=P) (w:=w) src si.aW WT Wv p.aq 0 n cap ((List.range n).map fun i=>match row i with|[.int _ v]=>v|_=>0) (by simp) BS dst Wn;refine aZ hs hn ⟨_,.string ⟨l.toArray⟩,?_,h,.aL (.str l)⟩;rw[e,h2,g2]
       have D7:strOfNums ((List.range n).map fun i=>match row i with|[.int _ v]=>v|_=>0)=⟨l.toArray⟩:=by
        unfold strOfNums
        congr 2
        apply List.ext_getElem?;intro i;rcases Nat.lt_or_ge i n with hi|hi
        ·obtain⟨v,e1,e5⟩:=hlg i hi;rw[e5];simp[hi,e1]
        ·rw[List.getElem?_eq_none (by simpa using hi),List.getElem?_eq_none (by omega)]
       rw[D7] at cz;simp[cz]
     ·exact h.elim
    ·exact h.elim
   ·exact h.elim
  ·exact h.elim
 ·exact tn aN hs ho h hn
end

def x8(P:Program)(G:aK)(tt:TT)(o:Oper)(s:List A)(m:List ar)(K:List A->A->List ar->Prop):Prop :=
 match o.op with
 | .call { callee:=.value f,args,.. }=>pn P G (ev s f) (args.toList.map (ev s)) m (K s)\/Ep P G (ev s f) (args.toList.map (ev s)) s m K \/
   Wr (O5 [] (((args.toList.map (ev s)).map (reach m 8)).flatten)) (fun ρ=>oK ρ s m fun s' m'=>pn P G (ev s' f) (args.toList.map (ev s')) m' (K s')) \/
   Ew P G (ev s f) (args.toList.map (ev s)) m (K s)
 | .makeMap t r=>match r with
  | none=>Ex tt t m (K s)
  | some _=>False
 | .convert src dst x=>EA tt src dst (ev s x) m (K s)
 | .lookup t x k ok=>kS tt t (ev s x) (ev s k) ok m fun v=>K s v m
 | .mapUpdate t x k v=>KU tt t (ev s x) (ev s k) (ev s v) m (K s)
 | .insert t x k v=>KU tt t (ev s x) (ev s k) (ev s v) m (K s)
 | .buildSlice t len ps=>match len,ps.toList with
  | 1,[(0,x)]=>match ev s x with
   | .own b'=>zz tt t b' s m K
   | _=>ni P G tt o s m K
  | _,_=>ni P G tt o s m K
 | .call { callee:=.builtin .len,args,argTypes }=>match args.toList,argTypes.toList with
  | [x],[t]=>match ev s x with
   | .own b=>match m.getD b .dead with
    | .nest _ _ _ n _ _ _=>KZ tt t n s m K
    | _=>ni P G tt o s m K
   | .omap b=>qH tt t (.omap b) m fun v=>K s v m
   | .mv g n h v=>qH tt t (.mv g n h v) m fun v=>K s v m
   | _=>ni P G tt o s m K
  | _,_=>ni P G tt o s m K
 | .call { callee:=.builtin .append,args,argTypes }=>match args.toList,argTypes.toList with
  | [x,y],[t,t']=>match ev s x,ev s y with
   | .own b,.own b2=>match m.getD b .dead,m.getD b2 .dead with
    | .nest ty aW sz n none len row,.nest Wu Ey TN n2 none Ez jK=>match Nat.beq t' t with
     | true=>KY tt t b b2 ty aW sz n len row Wu Ey TN n2 Ez jK s m K
     | false=>False
    | _,_=>ni P G tt o s m K
   | _,_=>ni P G tt o s m K
  | _,_=>ni P G tt o s m K
 | _=>ni P G tt o s m K
section
variable {c:Ctx} {s:List A} {m:List ar} {a:Act} {w w':World} {ids ab:dV} {P:Program} {im bL:Nat->Prop} {tt:TT} {G:aK}
variable {next:Act->World->Prop} {Q:Exit->Act->World->Prop} {o:Oper}
theorem tA(aN:bM P tt)(hG:G.ok c)(hs:aJ c s m a w ids){K:List A->A->List ar->Prop}(h:x8 P G tt o s m K)
  (hn:∀s1 v m' a' w' ab,K s1 v m'->aJ c (bA s1 o.dst v) m' a' w' ab->next a' w'):o.wp P a w next Q:=by
 have O8:cL c s o (K s) next:=fun v m' a' w' ab h1 h2=>hn s v m' a' w' ab h1 h2;unfold x8 at h;split at h
 ·rename_i f args ts ho;rcases h with h|h|h|h
  ·exact nE hs hG ho h O8
  ·exact zi hs hG ho h hn
  ·rw[zf] at h;obtain⟨s',m',ab,h',bY⟩:=gl _ hs h;exact nE bY hG ho h' (fun v m' a' w' ab h1 h2=>hn s' v m' a' w' ab h1 h2)
  ·exact zn hs hG ho h O8
 ·rename_i t r ho;split at h
  ·exact zw aN hs ho h O8
  ·exact h.elim
 ·rename_i ho;exact zD aN hs ho h O8
 ·rename_i ho;exact tz aN hs ho h O8
 ·rename_i ho;exact pT aN hs (.inl ho) h O8
 ·rename_i ho;exact pT aN hs (.inr ho) h O8
 ·rename_i t len ps ho;split at h
  ·rename_i x Xy;split at h
   ·rename_i b' hX;have e1:ps = #[(0,x)]:=by apply Array.ext';simpa using Xy
    subst e1;exact xw aN hs ho hX h hn
   ·exact c9 aN hG hs h hn
  ·exact c9 aN hG hs h hn
 ·rename_i args ts ho;split at h
  ·rename_i x t hx ht;have e1:args = #[x]:=by apply Array.ext';simpa using hx
   have e2:ts = #[t]:=by apply Array.ext';simpa using ht
   subst e1;subst e2;split at h
   ·rename_i b hX;split at h
    ·rename_i hb;exact BR aN hs ho hX hb h hn
    ·exact c9 aN hG hs h hn
   ·rename_i b hX;rw[<-hX] at h;exact lk aN hs ho h O8
   ·rename_i g n hh v hX;rw[<-hX] at h;exact lk aN hs ho h O8
   ·exact c9 aN hG hs h hn
  ·exact c9 aN hG hs h hn
 ·rename_i args ts ho;split at h
  ·rename_i x y t t' hx ht;have e1:args = #[x,y]:=by apply Array.ext';simpa using hx
   have e2:ts = #[t,t']:=by apply Array.ext';simpa using ht
   subst e1;subst e2;split at h
   ·rename_i b b2 hX hY;split at h
    ·rename_i hb mr;split at h
     ·rename_i TR;have TR:=Nat.eq_of_beq_eq_true TR;subst TR;exact BP aN hs ho hX hY hb mr h hn
     ·exact h.elim
    ·exact c9 aN hG hs h hn
   ·exact c9 aN hG hs h hn
  ·exact c9 aN hG hs h hn
 ·exact c9 aN hG hs h hn
end
def sE(s:List A)(d:Option Nat)(v:A)(K:List A->Prop):Prop :=
 match d with
 | some d=>yV s d v K
 | none=>K s
theorem oM(s:List A)(d:Option Nat)(v:A)(K:List A->Prop):sE s d v K=K (bA s d v):=by
 cases d with
 | none=>rfl
 | some d=>exact ij _ _ _ _
def nL(ops:List Oper)(j:Nat):Option Nat:=(ops[j]?).bind (·.dst)
def EB(g:Option Nat)(want:Bool)(s:List A)(X Y:List A->Prop):Prop :=
 match g with
 | none=>False
 | some d=>match s.getD d .aj with
  | .bool b=>match b,want with
   | true,true=>X s
   | false,false=>X s
   | true,false=>Y s
   | false,true=>Y s
  | .sb b=>match want with
   | true=>(b=true->yV s d (.bool true) X)/\(b=false->yV s d (.bool false) Y)
   | false=>(b=false->yV s d (.bool false) X)/\(b=true->yV s d (.bool true) Y)
  | .tup vs=>match vs with
   | []=>Y s
   | _=>False
  | _=>False
def nM(P:Program)(G:aK)(tt:TT)(ops:List Oper):List Oper->List A->List ar->(List A->List ar->Prop)->Prop
 | [],s,m,K=>K s m
 | o::rest,s,m,K=>match o.guard with
  | none=>x8 P G tt o s m fun s1 v m'=>sE s1 o.dst v fun s'=>nM P G tt ops rest s' m' K
  | some (j,want)=>EB (nL ops j) want s
    (fun s=>x8 P G tt o s m fun s1 v m'=>sE s1 o.dst v fun s'=>nM P G tt ops rest s' m' K)
    (fun s=>sE s o.dst (.tup []) fun s'=>nM P G tt ops rest s' m K)

section
variable {c:Ctx} {s:List A} {m:List ar} {a:Act} {w w':World} {ids ab:dV} {P:Program} {im bL:Nat->Prop} {tt:TT} {G:aK}
variable {next:Act->World->Prop} {Q:Exit->Act->World->Prop} {o:Oper}

theorem aJ.zF(hs:aJ c s m a w ids)(d:Nat){x:A}(hv:Rel ids (av c ids w) w x (a.tmps.getD d undef)):aJ c (s.set d x) m a w ids where
 defers:=hs.defers
 len:=by simp[hs.len]
 cc:=by
  intro i h h';simp only[List.length_set] at h;rw[List.getElem_set];split
  ·rename_i he;subst he;simpa[Array.getD_eq_getD_getElem?,h'] using hv
  ·exact hs.cc i h h'
 aU:=hs.aU
 bP:=hs.bP
 al:=hs.al
 au:=hs.au
 frame:=hs.frame
 fh:=hs.fh
 cV:=hs.cV

theorem ke{ops:List Oper}{j d:Nat}{b:Bool}(hg:nL ops j=some d)(hv:a.tmps.getD d undef=.bool b):yielded ops.toArray a.tmps j=some b:=by
 unfold yielded;have h1:(ops.toArray[j]?).bind (·.dst)=some d:=by simpa[nL] using hg
 rw[h1]
 have h2:a.tmps[d]?=some (.bool b):=by
  rcases Nat.lt_or_ge d a.tmps.size with h|h
  ·simpa[Array.getD_eq_getD_getElem?,h] using hv
  ·simp[Array.getD_eq_getD_getElem?,h,undef] at hv
 simp[h2]

theorem mO(aN:bM P tt){ops:List Oper}{QA:List A->List ar->Prop}(hG:G.ok c)(hQ:∀s m a w ids,QA s m->aJ c s m a w ids->Q .normal a w):
  ∀(rest:List Oper) (s:List A) (m:List ar) (a:Act) (w:World) (ids:dV),aJ c s m a w ids->nM P G tt ops rest s m QA->wpList P ops.toArray Q rest a w
 | [],s,m,a,w,ids,hs,h=>hQ s m a w ids h hs
 | o::rest,s,m,a,w,ids,hs,h=>by
  have exec:∀s,aJ c s m a w ids->(x8 P G tt o s m fun s1 v m'=>sE s1 o.dst v fun s'=>nM P G tt ops rest s' m' QA)->∀K:Act->World->Prop,(∀a w,wpList P ops.toArray Q rest a w->K a w)->o.wp P a w K Q:=by
   intro s hs h K hK;refine tA aN hG hs h ?_;intro s1 v m' a' w' ab hk bY;rw[oM] at hk;exact hK _ _ (mO aN hG hQ rest _ _ _ _ _ bY hk)
  have skip:∀s,aJ c s m a w ids->(sE s o.dst (.tup []) fun s'=>nM P G tt ops rest s' m QA)->∀K:Act->World->Prop,(∀a w,wpList P ops.toArray Q rest a w->K a w)->K (a.put o.dst undef) w:=by
   intro s hs h K hK;rw[oM] at h;exact hK _ _ (mO aN hG hQ rest _ _ _ _ _ (hs.bA o.dst (.aL (.tup [] [] rfl (fun _ h=>by simp at h)))) h)
  unfold nM at h;refine wpList_step fun K hK=>?_;split at h
  ·rename_i hg;have:Region.wanted o (yielded ops.toArray a.tmps)=true:=by unfold Region.wanted;rw[hg]
   rw[if_pos this];exact exec s hs h K hK
  ·rename_i j want hg;have hw:Region.wanted o (yielded ops.toArray a.tmps)=(yielded ops.toArray a.tmps j==some want):=by unfold Region.wanted;rw[hg]
   rw[hw];unfold EB at h;split at h
   ·exact h.elim
   ·rename_i d hd;have pU:=hs.ev (.tmp d);simp only[ev,Act.eval] at pU;split at h
    ·rename_i b hb;rw[hb] at pU;rw[ke hd pU.eC];split at h
     ·exact exec s hs h K hK
     ·exact exec s hs h K hK
     ·exact skip s hs h K hK
     ·exact skip s hs h K hK
    ·rename_i b hb;rw[hb] at pU;have Xz:=pU.jw;rw[ke hd Xz]
     have pQ:∀b',b=b'->aJ c (s.set d (.bool b')) m a w ids:=by
      intro b' e;subst e;exact hs.zF d (by rw[Xz];exact .aL (.bool _))
     rw[ij,ij,ij,ij] at h;split at h
     ·cases b
      ·exact skip _ (pQ false rfl) (h.2 rfl) K hK
      ·exact exec _ (pQ true rfl) (h.1 rfl) K hK
     ·cases b
      ·exact exec _ (pQ false rfl) (h.1 rfl) K hK
      ·exact skip _ (pQ true rfl) (h.2 rfl) K hK
    ·rename_i vs hb;rw[hb] at pU;split at h
     ·obtain⟨us,hu,Bb,_⟩:=pU.kK;have J2:us=[]:=by simpa using Bb
      subst J2
      have hy:yielded ops.toArray a.tmps j=none:=by
       unfold yielded;have h1:(ops.toArray[j]?).bind (·.dst)=some d:=by simpa[nL] using hd
       rw[h1];rcases Nat.lt_or_ge d a.tmps.size with h|h
       ·have h2:a.tmps[d]?=some (.tuple #[]):=by simpa[Array.getD_eq_getD_getElem?,h] using hu
        simp[h2]
       ·simp[h]
      rw[hy];exact skip s hs h K hK
     ·exact h.elim
    ·exact h.elim
end

theorem wp_loop_ghost{P:Program}{Q:Exit->Act->World->Prop}{a:Act}{w:World}{c:Code}(I:Nat->Act->World->Prop)(n₀:Nat)(h₀:I n₀ a w)
  (round:∀n a w,I n a w->c.wp P (Exit.then (fun a' w'=>∃n',n'<n/\I n' a' w') Q) a w):(Code.loop c).wp P Q a w:=by
 intro b k cs
 have key:∀n a w,I n a w ->
   ∃e a' w',Q e a' w'/\Arrives P (lone (b.at a (.code c::.inLoop c::k)) cs w) b k cs e a' w':=by
  intro n
  induction n using Nat.strongRecOn with
  | _ n ih =>
   intro a w hI;obtain⟨e,a₁,w₁,hq,BT⟩:=round n a w hI b (.inLoop c::k) cs;cases e with
   | normal =>
    obtain⟨n',aH,hI₁⟩:=hq;obtain⟨e₂,a₂,w₂,hq₂,XA⟩:=ih n' aH a₁ w₁ hI₁;exact⟨e₂,a₂,w₂,hq₂,.of_steps (Steps.trans BT (.one step_inLoop)) XA⟩
   | exit id=>exact⟨_,a₁,w₁,hq,.pass (x:=.inLoop c) rfl (fun _ _=>.inl (by simp)) BT⟩
   | goto l=>exact⟨_,a₁,w₁,hq,.pass (x:=.inLoop c) rfl (fun _ _=>.inl (by simp)) BT⟩
   | ret=>exact⟨_,a₁,w₁,hq,.pass (x:=.inLoop c) rfl (fun _ _=>.inl (by simp)) BT⟩
   | panic ch=>exact⟨_,a₁,w₁,hq,.pass (x:=.inLoop c) rfl (fun _ _=>.inl (by simp)) BT⟩
   | outgrown=>exact⟨_,a₁,w₁,hq,.pass (x:=.inLoop c) rfl (fun _ _=>.inl (by simp)) BT⟩
 obtain⟨e,a',w',hq,BT⟩:=key _ a w h₀;exact⟨e,a',w',hq,.of_steps (.one step_loop) BT⟩

def post(c:Ctx)(Q:Exit->List A->List ar->Prop):Exit->Act->World->Prop:=fun e a w=>∃s m ids,Q e s m/\aJ c s m a w ids

@[irreducible] def WA (P:Program) (G:aK) (cd:Code) (Q:Exit->List A->List ar->Prop) (s:List A) (m:List ar):Prop :=
 ∀c a w ids,G.ok c->aJ c s m a w ids->cd.wp P (post c Q) a w

def K0(next:List A->List ar->Prop)(Q:Exit->List A->List ar->Prop):Exit->List A->List ar->Prop
 | .normal,s,m=>next s m
 | e,s,m=>Q e s m
def zG(id:Nat)(Q:Exit->List A->List ar->Prop):Exit->List A->List ar->Prop
 | .exit id',s,m=>match Nat.beq id' id with
  | true=>Q .normal s m
  | false=>Q (.exit id') s m
 | e,s,m=>Q e s m
def GB(v:A)(X Y:Prop):Prop :=
 match v with
 | .bool true=>X
 | .bool false=>Y
 | .sb b=>(b=true->X)/\(b=false->Y)
 | _=>False

section
variable {P:Program} {G:aK} {tt:TT} {Q:Exit->List A->List ar->Prop} {s:List A} {m:List ar}

theorem bo{x y:Code}(h:WA P G x (K0 (WA P G y Q) Q) s m):WA P G (.seq x y) Q s m:=by
 unfold WA at h ⊢;intro c a w ids hG hs;refine wp_seq (wp_mono (h c a w ids hG hs) ?_);rintro e a' w' ⟨s',m',ab,hq,bY⟩;cases e with
 | normal =>
  exact hq c a' w' ab hG bY
 | _=>exact⟨s',m',ab,hq,bY⟩
theorem aP(h:Q .normal s m):WA P G .skip Q s m:=by
 unfold WA;intro c a w ids hG hs;exact wp_skip ⟨s,m,ids,h,hs⟩
theorem bp(h:Q .ret s m):WA P G .ret Q s m:=by
 unfold WA;intro c a w ids hG hs;exact wp_ret ⟨s,m,ids,h,hs⟩
theorem aQ{id:Nat}(h:Q (.exit id) s m):WA P G (.exit id) Q s m:=by
 unfold WA;intro c a w ids hG hs;exact wp_exit ⟨s,m,ids,h,hs⟩
theorem aG{id:Nat}{x:Code}(h:WA P G x (zG id Q) s m):WA P G (.block id x) Q s m:=by
 unfold WA at h ⊢;intro c a w ids hG hs;refine wp_block (wp_mono (h c a w ids hG hs) ?_);rintro e a' w' ⟨s',m',ab,hq,bY⟩;cases e with
 | exit id' =>
  simp only[zG] at hq;simp only[Exit.inBlock];split at hq
  ·rename_i he;rw[if_pos (Nat.eq_of_beq_eq_true he)];exact⟨s',m',ab,hq,bY⟩
  ·rename_i he;rw[if_neg (fun e=>by subst e;rw[Nat.beq_refl] at he;cases he)];exact⟨s',m',ab,hq,bY⟩
 | _=>exact⟨s',m',ab,hq,bY⟩
theorem aR{t:Operand}{x y:Code}(h:GB (ev s t) (WA P G x Q s m) (WA P G y Q s m)):WA P G (.cond t x y) Q s m:=by
 unfold GB at h;unfold WA;intro c a w ids hG hs;have pU:=hs.ev t;split at h
 ·rename_i hv;rw[hv] at pU;unfold WA at h;exact wp_cond_true pU.eC (h c a w ids hG hs)
 ·rename_i hv;rw[hv] at pU;unfold WA at h;exact wp_cond_false pU.eC (h c a w ids hG hs)
 ·rename_i b hv;rw[hv] at pU;cases b
  ·have:=h.2 rfl;unfold WA at this;exact wp_cond_false pU.jw (this c a w ids hG hs)
  ·have:=h.1 rfl;unfold WA at this;exact wp_cond_true pU.jw (this c a w ids hG hs)
 ·exact h.elim
theorem aB(aN:bM P tt){id:Nat}{l:List Oper}(h:nM P G tt l l s m (Q .normal)):WA P G (.region id l.toArray false) Q s m:=by
 unfold WA;intro c a w ids hG hs;exact wp_region_lit (mO aN hG (fun s m a w ids hq hs=>⟨s,m,ids,hq,hs⟩) l s m a w ids hs h)

/-- A state that says less. -/
def ZR(s:List A)(m:List ar)(s':List A)(m':List ar):Prop:=∀c a w ids,aJ c s m a w ids->∃ab,aJ c s' m' a w ab

theorem sF{cd:Code}{s':List A}{m':List ar}(hw:ZR s m s' m')(h:WA P G cd Q s' m'):WA P G cd Q s m:=by
 unfold WA at h ⊢;intro c a w ids hG hs;obtain⟨ab,bY⟩:=hw c a w ids hs;exact h c a w ab hG bY
theorem GC{cd:Code}{Q':Exit->List A->List ar->Prop}(h:WA P G cd Q s m)(hq:∀e s m,Q e s m->Q' e s m):WA P G cd Q' s m:=by
 unfold WA at h ⊢;intro c a w ids hG hs;refine wp_mono (h c a w ids hG hs) ?_;rintro e a' w' ⟨s',m',ab,J3,bY⟩;exact⟨s',m',ab,hq _ _ _ J3,bY⟩

def TS{ι:Type}(S:ι->List A)(M:ι->List ar)(μ:ι->Nat)(i:ι)(Q:Exit->List A->List ar->Prop):Exit->List A->List ar->Prop
 | .normal,s,m=>∃j,μ j<μ i/\ZR s m (S j) (M j)
 | e,s,m=>Q e s m
theorem PO{ι:Type}{body:Code}(S:ι->List A)(M:ι->List ar)(μ:ι->Nat)(i0:ι)(h0:ZR s m (S i0) (M i0))
  (hr:∀i,WA P G body (TS S M μ i Q) (S i) (M i)):WA P G (.loop body) Q s m:=by
 refine sF h0 ?_;unfold WA;intro c a w ids hG hs;refine wp_loop_ghost (fun n a w=>∃i ids,μ i=n/\aJ c (S i) (M i) a w ids) (μ i0) ⟨i0,ids,rfl,hs⟩ ?_;rintro n a w ⟨i,ids,rfl,hs⟩;have:=hr i;unfold WA at this;refine wp_mono (this c a w ids hG hs) ?_;rintro e a' w' ⟨s',m',ab,hq,bY⟩;cases e with
 | normal =>
  obtain⟨j,aH,hw⟩:=hq;obtain⟨XB,hs''⟩:=hw c a' w' ab bY;exact⟨μ j,aH,j,XB,rfl,hs''⟩
 | _=>exact⟨s',m',ab,hq,bY⟩
end
def eI:List Prop->Prop
 | []=>True
 | [p]=>p
 | p::q::ps=>p/\eI (q::ps)
theorem sG{p:Prop}{ps:List Prop}:eI (p::ps)↔p/\eI ps:=by
 cases ps<;>simp[eI]
theorem jc{ps qs:List Prop}:eI (ps++qs)↔eI ps/\eI qs:=by
 induction ps with
 | nil=>simp[eI]
 | cons p ps ih=>rw[List.cons_append,sG,sG,ih,and_assoc]

/-- What must hold that the first value may be taken for the second one, where blocks from n on are forgotten. -/
def iI:Nat->Nat->A->A->List Prop
 | 0,_,_,y=>match y with
  | .aj=>[]
  | _=>[False]
 | d+1,n,x,y=>match y with
  | .aj=>[]
  | .int k b=>match x with
   | .int k' a=>match nA k' k with
    | true=>[a=b]
    | false=>[False]
   | _=>[False]
  | .bool b=>match x with
   | .bool a=>[a=b]
   | .sb a=>[a=b]
   | _=>[False]
  | .sb b=>match x with
   | .bool a=>[a=b]
   | .sb a=>[a=b]
   | _=>[False]
  | .str b=>match x with
   | .str a=>[a=b]
   | _=>[False]
  | .iH=>match x with
   | .iH=>[]
   | _=>[False]
  | .aC=>match x with
   | .aC=>[]
   | _=>[False]
  | .bz=>match x with
   | .bz=>[]
   | _=>[False]
  | .gO=>match x with
   | .gO=>[]
   | _=>[False]
  | .mv g' n' k' v'=>match x with
   | .mv g1 n1 k1 v1=>[g1=g',n1=n',∀i,k1 i=k' i,∀i,k1 i=true->v1 i=v' i]
   | _=>[False]
  | .omap b=>match x with
   | .omap b'=>match Nat.beq b' b,Nat.blt b n with
    | true,true=>[]
    | _,_=>[False]
   | _=>[False]
  | .tf _ _=>[False]
  | .pe _ _=>[False]
  | .ref b o=>match x with
   | .ref b' o'=>match Nat.beq b' b,Nat.beq o' o,Nat.blt b n with
    | true,true,true=>[]
    | _,_,_=>[False]
   | _=>[False]
  | .oref b i o=>match x with
   | .oref b' i' o'=>match Nat.beq b' b,Nat.blt b n with
    | true,true=>[i'=i,o'=o]
    | _,_=>[False]
   | _=>[False]
  | .own b=>match x with
   | .own b'=>match Nat.beq b' b,Nat.blt b n with
    | true,true=>[]
    | _,_=>[False]
   | _=>[False]
  | .sl n' ue dZ=>match x with
   | .sl n1 sz row=>match Nat.beq sz ue with
    | true=>[n1=n',(∀i,i<n1->row i=dZ i)\/∀i,i<n1->eI (jA d 0 (row i) (dZ i))]
    | false=>[False]
   | .aC=>[n'=0]
   | _=>[False]
  | .bref dz o'=>match x with
   | .bref cs o=>[cs=dz,o=o']
   | _=>[False]
  | .agg dz=>match x with
   | .agg cs=>jA d n cs dz
   | _=>[False]
  | .tup dz=>match x with
   | .tup cs=>jA d n cs dz
   | _=>[False]
  | .fn f' dz=>match x with
   | .fn f cs=>(f=f')::jA d n cs dz
   | _=>[False]
where jA (d n:Nat):List A->List A->List Prop
 | [],[]=>[]
 | x::xs,y::ys=>iI d n x y++jA d n xs ys
 | _,_=>[False]
def PQ(n:Nat)(x y:ar):List Prop :=
 match x,y with
 | .box ty cs,.box uE dz=>match Nat.beq ty uE with
  | true=>iI.jA 4 n cs dz
  | false=>[False]
 | .row ty sz n1 row,.row uE ue K1 dZ=>match Nat.beq ty uE,Nat.beq sz ue with
  | true,true=>[n1=K1,(∀i,i<n1->row i=dZ i)\/∀i,i<n1->eI (iI.jA 4 0 (row i) (dZ i))]
  | _,_=>[False]
 | .nest ty aW sz n1 ho le row,.nest uE xu ue K1 Pp le' dZ=>match Nat.beq ty uE,Nat.beq aW xu,Nat.beq sz ue,ho,Pp with
  | true,true,true,none,none=>[n1=K1,∀i,i<n1->le i=le' i/\∀j,j<le i->row i j=dZ i j]
  | _,_,_,_,_=>[False]
 | .fK g1 n1 k1 v1,.fK g' n' k' v'=>[g1=g',n1=n',∀i,k1 i=k' i,∀i,k1 i=true->v1 i=v' i]
 | .qm g1 n1 k1 v1,.fK g' n' k' v'=>[g1=g',n1=n',∀i,k1 i=k' i,∀i,k1 i=true->v1 i=v' i]
 | .Ie g1 n1 k1 v1 se,.Ie g' n' k' v' se'=>[g1=g',n1=n',∀i,k1 i=k' i,∀i,k1 i=true->v1 i=v' i,se=se']
 | .cZ ty g1 n1 k1 _ cs kI h1 v1,.cZ uE g' n' k' _ dz PR h' v'=>match Nat.beq ty uE,cs,dz with
  | true,[],[]=>[g1=g',n1=n',k1=k',∀i,i<k1->PR i<=1->kI i=PR i/\(PR i=1->(∀k,h1 i k=h' i k)/\∀k,h1 i k=true->v1 i k=v' i k)]
  | _,_,_=>[False]
 | .row ty sz n1 row,.bW uE ue K1 Φ=>match Nat.beq ty uE,Nat.beq sz ue with
  | true,true=>[n1=K1,∃dZ,Φ dZ/\∀i,i<n1->row i=dZ i]
  | _,_=>[False]
 | .bW ty sz n1 Φ,.bW uE ue K1 Φ'=>match Nat.beq ty uE,Nat.beq sz ue with
  | true,true=>[n1=K1,∀row,Φ row->Φ' row]
  | _,_=>[False]
 | .ghost cs,.ghost dz=>iI.jA 4 n cs dz
 | .dead,.dead=>[]
 | .gone,.gone=>[]
 | _,_=>[False]
def x9(n:Nat):List ar->List ar->List Prop
 | _,[]=>[]
 | x::xs,y::ys=>PQ n x y++x9 n xs ys
 | [],_::_=>[False]
/-- The first state may be taken for the second. -/
def uh(s:List A)(m:List ar)(s':List A)(m':List ar):Prop:=eI (iI.jA 5 m'.length s s'++x9 m'.length m m')

section
variable {c:Ctx} {s:List A} {m:List ar} {a:Act} {w w':World} {ids ab:dV} {P:Program} {im bL:Nat->Prop} {tt:TT} {G:aK}

theorem aA.up(hi:∀b,im b->bL b){x:A}{v:Value}(h:aA im w x v):aA bL w x v:=h.mono hi (fun _ _=>rfl)

theorem gn:∀(d n:Nat) (xs ys:List A),eI (iI.jA d n xs ys)->xs.length=ys.length
 | _,_,[],[],_=>rfl
 | d,n,x::xs,y::ys,h=>by
  rw[iI.jA,jc] at h;simp[gn d n xs ys h.2]
 | _,_,[],_::_,h=>by simp[iI.jA,eI] at h
 | _,_,_::_,[],h=>by simp[iI.jA,eI] at h
theorem jd:∀(d n:Nat) (xs ys:List A),eI (iI.jA d n xs ys)->∀j (h:j<xs.length) (h':j<ys.length),eI (iI d n xs[j] ys[j])
 | _,_,[],_,_,j,h,_=>by simp at h
 | _,_,_::_,[],_,j,_,h'=>by simp at h'
 | d,n,x::xs,y::ys,h,j,h1,h2=>by
  rw[iI.jA,jc] at h;cases j with
  | zero=>exact h.1
  | succ j=>exact jd d n xs ys h.2 j (by simpa using h1) (by simpa using h2)

theorem iy{n b:Nat}{p:eU}(h:ids[b]?=some p)(hb:b<n):(ids.take n)[b]?=some p:=by
 rw[List.getElem?_take,if_pos hb];exact h

theorem Rel.uF{x:A}{v:Value}(h:Rel [] im w x v):aA im w x v:=by
 induction h with
 | aL h=>exact h
 | ref b off p h=>simp at h
 | oref b i off p h=>simp at h
 | gQ b h=>simp at h
 | own b cap p h=>simp at h
 | lD b x n cap h=>simp at h
 | lC b off x y h=>simp at h
 | ic b i off x y h=>simp at h
 | gI b x h=>simp at h
 | omap b p h=>simp at h
 | tf b k p n h hn=>simp at h
 | rT b k n h=>simp at h
 | pe b k cap x p h hx=>simp at h
 | rU b k h=>simp at h
 | pD b k x n cap h=>simp at h
 | agg cs vs hl ho hr ih=>exact .agg cs vs hl ho ih
 | tup cs vs hl hr ih=>exact .tup cs vs hl ih
 | fn f cs vs hl hr ih=>exact .fn f cs vs hl ih

theorem je(hi:∀b,im b->bL b):∀(d n:Nat) (x y:A) (v:Value),eI (iI d n x y)->Rel ids im w x v->Rel (ids.take n) bL w y v
 | 0,n,x,y,v,h,hr=>by
  cases y<;>simp[iI,eI] at h;exact .aL (.aj _)
 | d+1,n,x,y,v,h,hr=>by
  have lists:∀cs dz:List A,eI (iI.jA d n cs dz)->cs.length=dz.length/\∀(us:List Value),(∀j (h:j<cs.length) (h':j<us.length),Rel ids im w cs[j] us[j])->∀j (h:j<dz.length) (h':j<us.length),Rel (ids.take n) bL w dz[j] us[j]:=by
   intro cs dz h;have hl:=gn _ _ _ _ h;refine⟨hl,fun us hus j h1 h2=>je hi d n _ _ _ (jd _ _ _ _ h j (by omega) h1) (hus j (by omega) h2)⟩
  unfold iI at h;split at h
  ·exact .aL (.aj _)
  ·split at h
   ·split at h
    ·rename_i hk;rw[j6] at hk;subst hk;have h:_=_:=h;subst h;rw[hr.cC];exact .aL (.int _ _)
    ·exact h.elim
   ·exact h.elim
  ·split at h
   ·have h:_=_:=h;subst h;rw[hr.eC];exact .aL (.bool _)
   ·have h:_=_:=h;subst h;rw[hr.jw];exact .aL (.bool _)
   ·exact h.elim
  ·split at h
   ·have h:_=_:=h;subst h;rw[hr.eC];exact .aL (.sb _)
   ·have h:_=_:=h;subst h;rw[hr.jw];exact .aL (.sb _)
   ·exact h.elim
  ·split at h
   ·have h:_=_:=h;subst h;rw[hr.iU];exact .aL (.str _)
   ·exact h.elim
  ·split at h
   ·rw[hr.lE];exact .aL .iH
   ·exact h.elim
  ·split at h
   ·rw[hr.dO];exact .aL .aC
   ·exact h.elim
  ·split at h
   ·cases hr with|aL hr=>cases hr;exact .aL .bz
   ·exact h.elim
  ·split at h
   ·rw[hr.lF];exact .aL .gO
   ·exact h.elim
  ·split at h
   ·obtain⟨e1,e2,e3,e4⟩:=h;subst e1;subst e2;cases hr with
    | aL hr =>
     cases hr with
     | mv _ _ _ _ r es clock f hb hh hk hd hc hv Ig F9 =>
      exact .aL (.mv _ _ _ _ r es clock f (hi _ hb) hh (fun i h=>by rw[<-e3];exact hk i h) hd (fun k h1 h2=>hc k h1 (by rw[e3];exact h2)) (fun i h=>by rw[<-e4 _ (hk i h).2.2];exact(hv i h).up hi) Ig F9)
   ·exact h.elim
  ·split at h
   ·split at h
    ·rename_i h1 h3;have h1:=Nat.eq_of_beq_eq_true h1;subst h1;rcases hr.jY with⟨p,g1,rfl⟩|⟨g1,x,rfl⟩;rotate_left
     ·exact .gI _ x (iy g1 (Nat.le_of_ble_eq_true (by assumption)))
     exact .omap _ p (iy g1 (Nat.le_of_ble_eq_true h3))
    ·exact h.elim
   ·exact h.elim
  ·exact h.elim
  ·exact h.elim
  ·split at h
   ·split at h
    ·rename_i h1 h2 h3;have h1:=Nat.eq_of_beq_eq_true h1;have h2:=Nat.eq_of_beq_eq_true h2;subst h1;subst h2;rcases hr.iV with⟨p,g1,rfl⟩|⟨g1,x,y,rfl⟩;rotate_left
     ·exact .lC _ _ x y (iy g1 (Nat.le_of_ble_eq_true h3))
     exact .ref _ _ p (iy g1 (Nat.le_of_ble_eq_true h3))
    ·exact h.elim
   ·exact h.elim
  ·split at h
   ·split at h
    ·rename_i h1 h3;have h1:=Nat.eq_of_beq_eq_true h1;subst h1;obtain⟨e1,e2⟩:=h;subst e1;subst e2;rcases hr.ja with⟨p,g1,rfl⟩|⟨g1,x,y,rfl⟩;rotate_left
     ·exact .ic _ _ _ x y (iy g1 (Nat.le_of_ble_eq_true h3))
     exact .oref _ _ _ p (iy g1 (Nat.le_of_ble_eq_true h3))
    ·exact h.elim
   ·exact h.elim
  ·split at h
   ·split at h
    ·rename_i h1 h3;have h1:=Nat.eq_of_beq_eq_true h1;subst h1;rcases hr.kJ with⟨g1,rfl⟩|⟨p,cap,g1,g2,g3,rfl⟩|⟨g1,x,n,cap,rfl⟩
     ·exact .gQ _ (iy g1 (Nat.le_of_ble_eq_true h3))
     ·exact .own _ cap p (iy g1 (Nat.le_of_ble_eq_true h3)) g2 g3
     ·exact .lD _ x n cap (iy g1 (Nat.le_of_ble_eq_true h3))
    ·exact h.elim
   ·exact h.elim
  ·split at h
   ·split at h
    ·rename_i h1;have h1:=Nat.eq_of_beq_eq_true h1;subst h1;obtain⟨e1,e2⟩:=h;subst e1;cases hr with
     | aL hr =>
      cases hr with
      | uu=>exact .aL (.uu _ _)
      | sle=>exact .aL (.sle _ _ _ _)
      | sl _ _ _ aq base cap vs hb mw hl hc ho hr =>
       rcases e2 with e2|e2
       ·refine .aL (.sl _ _ _ aq base cap vs (hi _ hb) mw (fun i h=>by rw[<-e2 i h];exact hl i h) hc ho ?_);intro i j lB hj;have:=hr i j lB (by rw[e2 i lB];exact hj);simp only[e2 i lB] at this;exact this.up hi
       ·refine .aL (.sl _ _ _ aq base cap vs (hi _ hb) mw (fun i h=>by rw[<-gn _ _ _ _ (e2 i h)];exact hl i h) hc ho ?_);intro i j lB hj;have hlen:=gn _ _ _ _ (e2 i lB);have:=je hi d 0 _ _ _ (jd _ _ _ _ (e2 i lB) j (by omega) hj) (.aL (hr i j lB (by omega)));exact Rel.uF (by simpa using this)
    ·exact h.elim
   ·have h:_=_:=h;subst h;rw[hr.dO];exact .aL (.uu _ _)
   ·exact h.elim
  ·split at h
   ·obtain⟨e1,e2⟩:=h;subst e1;subst e2;cases hr with|aL hr=>exact .aL (hr.up hi)
   ·exact h.elim
  ·split at h
   ·obtain⟨hl,hg⟩:=lists _ _ h;obtain⟨us,rfl,u2,u3,u4⟩:=hr.iW;exact .agg _ us (by omega) u3 (hg us u4)
   ·exact h.elim
  ·split at h
   ·obtain⟨hl,hg⟩:=lists _ _ h;obtain⟨us,rfl,u2,u4⟩:=hr.kK;exact .tup _ us (by omega) (hg us u4)
   ·exact h.elim
  ·split at h
   ·rw[sG] at h;obtain⟨h1,h⟩:=h;subst h1;obtain⟨hl,hg⟩:=lists _ _ h;obtain⟨us,rfl,u2,u4⟩:=hr.ig;exact .fn _ _ us (by omega) (hg us u4)
   ·exact h.elim

theorem ya:∀(n:Nat) (xs ys:List ar),eI (x9 n xs ys)->ys.length<=xs.length
 | _,_,[],_=>Nat.zero_le _
 | n,x::xs,y::ys,h=>by
  rw[x9,jc] at h;simp;exact ya n xs ys h.2
 | _,[],_::_,h=>h.elim
theorem yb:∀(n:Nat) (xs ys:List ar),eI (x9 n xs ys)->∀j (h:j<xs.length) (h':j<ys.length),eI (PQ n xs[j] ys[j])
 | _,[],_,_,j,h,_=>by simp at h
 | _,_::_,[],_,j,_,h'=>by simp at h'
 | n,x::xs,y::ys,h,j,h1,h2=>by
  rw[x9,jc] at h;cases j with
  | zero=>exact h.1
  | succ j=>exact yb n xs ys h.2 j (by simpa using h1) (by simpa using h2)

theorem K2(hi:∀b,im b->bL b){n:Nat}{x y:ar}{p:eU}(h:eI (PQ n x y))(hr:bq ids im w x p):bq (ids.take n) bL w y p:=by
 unfold PQ at h;split at h
 ·rename_i ty cs uE dz;split at h
  ·rename_i ht;have ht:=Nat.eq_of_beq_eq_true ht;subst ht;have hl:=gn _ _ _ _ h;cases p with
   | dead=>exact hr
   | aw=>exact hr
   | bg=>exact hr
   | cV vs=>exact hr
   | lv p =>
    obtain⟨vs,h1,h2,h3,h4⟩:=hr;exact⟨vs,h1,h2,by omega,fun j hj cH=>⟨je hi 4 n _ _ _ (jd _ _ _ _ h j (by omega) hj) (h4 j (by omega) cH).1,(h4 j (by omega) cH).2⟩⟩
  ·exact h.elim
 ·rename_i ty sz n1 row uE ue K1 dZ;split at h
  ·rename_i ht hs;have ht:=Nat.eq_of_beq_eq_true ht;have hs:=Nat.eq_of_beq_eq_true hs;subst ht;subst hs;obtain⟨e1,e2⟩:=h;subst e1;cases p with
   | dead=>exact hr
   | aw=>exact hr
   | bg=>exact hr
   | cV vs=>exact hr
   | lv p =>
    obtain⟨g1,g2,vs,h1,h2,h3,hl,h4⟩:=hr;rcases e2 with e2|e2
    ·refine⟨g1,g2,vs,h1,h2,h3,fun i hi=>by rw[<-e2 i hi];exact hl i hi,?_⟩;intro i j cx hj cH;have:=h4 i j cx (by rw[e2 i cx];exact hj) cH;simp only[e2 i cx] at this;exact⟨this.1.up hi,this.2⟩
    ·refine⟨g1,g2,vs,h1,h2,h3,fun i hi=>by rw[<-gn _ _ _ _ (e2 i hi)];exact hl i hi,?_⟩;intro i j cx hj cH;have hlen:=gn _ _ _ _ (e2 i cx);have h5:=h4 i j cx (by omega) cH;have:=je (ids:=[]) hi 4 0 _ _ _ (jd _ _ _ _ (e2 i cx) j (by omega) hj) (.aL h5.1);exact⟨Rel.uF (by simpa using this),h5.2⟩
  ·exact h.elim
 ·rename_i ty aW sz n1 ho le row uE xu ue K1 Pp le' dZ;split at h
  ·rename_i ht he hs;have ht:=Nat.eq_of_beq_eq_true ht;have he:=Nat.eq_of_beq_eq_true he;have hs:=Nat.eq_of_beq_eq_true hs;subst ht;subst hs;subst he;obtain⟨e1,e2⟩:=h;subst e1;cases p with
   | dead=>exact hr
   | aw=>exact hr
   | bg=>exact hr
   | cV vs=>exact hr
   | lv p =>
    obtain⟨g1,g2,g3,vs,h1,h2,h3,kb,h4⟩:=hr;refine⟨g1,g2,g3,vs,h1,h2,h3,kb,fun i cx hh h=>?_⟩;obtain⟨k1,k2,k3⟩:=h4 i cx hh h;refine⟨?_,k2,k3⟩;obtain⟨e3,e4⟩:=e2 i cx;rcases k1 with⟨q1,q2,q3⟩|⟨q,cap,us,q1,q2,q3,q4,q5,q6,q7,q8⟩
    ·exact .inl ⟨q1,by omega,q3⟩
    ·refine .inr ⟨q,cap,us,by rw[<-e3];exact q1,q2,q3,q4,by omega,q6,fun i' hi''=>by rw[<-e4 i' (by omega)];exact q7 i' (by omega),?_⟩;intro i' j hi'' hj cH;have:=q8 i' j (by omega) (by rw[e4 i' (by omega)];exact hj) cH;simp only[e4 i' (by omega)] at this;exact⟨this.1.up hi,this.2⟩
  ·exact h.elim
 ·obtain⟨e1,e2,e3,e4⟩:=h;subst e1;subst e2;cases p with
  | dead=>exact hr
  | aw=>exact hr
  | bg=>exact hr
  | cV vs=>exact hr
  | lv p =>
   obtain⟨es,clock,f,h1,h2,h3,h4,h5,h6⟩:=hr;exact⟨es,clock,f,h1,fun i h=>by rw[<-e3];exact h2 i h,h3,fun k g1 g2=>h4 k g1 (by rw[e3];exact g2),fun i h=>by rw[<-e4 _ (h2 i h).2.2];exact(h5 i h).up hi,h6⟩
 ·obtain⟨e1,e2,e3,e4⟩:=h;subst e1;subst e2;cases p with
  | dead=>exact hr
  | aw=>exact hr
  | bg=>exact hr
  | cV vs=>exact hr
  | lv p =>
   obtain⟨es,clock,f,h1,h2,h3,h4,h5,h6,h7,h8⟩:=hr;refine⟨es,clock,f,h1,fun i h=>by rw[<-e3];exact h2 i h,h3,fun k g1 g2=>h4 k g1 (by rw[e3];exact g2),fun i h=>by rw[<-e4 _ (h2 i h).2.2];exact(h5 i h).up hi,fun i h=>?_,fun i j g1 g2 e=>?_⟩
   ·refine Classical.byContradiction fun hc=>?_;have:=h7 es[i].born (by omega);rw[h6 i h] at this;cases this
   ·have k1:=h6 i g1;have k2:=h6 j g2;rw[e,k2] at k1;exact h3 i j g1 g2 (Option.some.inj k1).symm
 ·obtain⟨e1,e2,e3,e4,e5⟩:=h;subst e1;subst e2;subst e5;cases p with
  | dead=>exact hr
  | aw=>exact hr
  | bg=>exact hr
  | cV vs=>exact hr
  | lv p =>
   obtain⟨r,es,clock,f,sb,h1,h2,h3,h4,h5,h6,h7,h8,h9,h10⟩:=hr;exact⟨r,es,clock,f,sb,h1,hi _ h2,h3,fun i h=>by rw[<-e3];exact h4 i h,h5,fun k g1 g2=>h6 k g1 (by rw[e3];exact g2),fun i h=>by rw[<-e4 _ (h4 i h).2.2];exact(h7 i h).up hi,h8,h9,h10⟩
 ·rename_i ty g1 n1 k1 ez cs kI h1 v1 uE g' n' k' dH dz PR h' v';split at h
  ·rename_i ht;have ht:=Nat.eq_of_beq_eq_true ht;subst ht;obtain⟨e1,e2,e3,e4⟩:=h;subst e1;subst e2;subst e3;cases p with
   | dead=>exact hr
   | aw=>exact hr
   | bg=>exact hr
   | cV vs=>exact hr
   | lv p =>
    obtain⟨g1,g2,g3,vs,q1,q2,q3,_,kb,q5⟩:=hr;refine⟨g1,g2,g3,vs,q1,q2,q3,fun j hj=>absurd hj (by simp),kb,fun i cx hv=>?_⟩;obtain⟨k0,l0⟩:=q5 i cx hv;have l0:=l0 (.inl rfl);refine⟨k0,fun _=>⟨fun e=>l0.1 (by rw[(e4 i cx (by omega)).1];exact e),fun e=>?_⟩⟩;obtain⟨f1,f2⟩:=e4 i cx (by omega);obtain⟨f3,f4⟩:=f2 e;obtain⟨l1,l2,⟨es,clock,f,m1,m2,m3,m4,m5,m6⟩,l4⟩:=l0.2 (by rw[f1];exact e);refine⟨l1,l2,⟨es,clock,f,m1,fun i h=>by rw[<-f3];exact m2 i h,m3,fun k g1 g2=>m4 k g1 (by rw[f3];exact g2),fun i h=>by rw[<-f4 _ (m2 i h).2.2];exact(m5 i h).up hi,m6⟩,fun j hj _ ej ek=>?_⟩;exact l4 j hj (.inl rfl) (by rw[(e4 j hj (by omega)).1];exact ej) ek
  ·exact h.elim
 ·rename_i ty sz n1 row uE ue K1 Φ;split at h
  ·rename_i ht hs;have ht:=Nat.eq_of_beq_eq_true ht;have hs:=Nat.eq_of_beq_eq_true hs;subst ht;subst hs;obtain⟨e1,dZ,e0,e2⟩:=h;subst e1;cases p with
   | dead=>exact hr
   | aw=>exact hr
   | bg=>exact⟨hr,dZ,e0⟩
   | cV vs=>exact hr
   | lv p =>
    obtain⟨g1,g2,vs,h1,h2,h3,hl,h4⟩:=hr;refine⟨dZ,e0,g1,g2,vs,h1,h2,h3,fun i hi=>by rw[<-e2 i hi];exact hl i hi,?_⟩;intro i j cx hj cH;have:=h4 i j cx (by rw[e2 i cx];exact hj) cH;simp only[e2 i cx] at this;exact⟨this.1.up hi,this.2⟩
  ·exact h.elim
 ·rename_i ty sz n1 Φ uE ue K1 Φ';split at h
  ·rename_i ht hs;have ht:=Nat.eq_of_beq_eq_true ht;have hs:=Nat.eq_of_beq_eq_true hs;subst ht;subst hs;obtain⟨e1,e2⟩:=h;subst e1;cases p with
   | dead=>exact hr
   | aw=>exact hr
   | bg=>exact⟨hr.1,hr.2.elim fun row h=>⟨row,e2 _ h⟩⟩
   | cV vs=>exact hr
   | lv p =>
    obtain⟨row,e0,g1,g2,vs,h1,h2,h3,hl,h4⟩:=hr;exact⟨row,e2 _ e0,g1,g2,vs,h1,h2,h3,hl,fun i j cx hj cH=>⟨(h4 i j cx hj cH).1.up hi,(h4 i j cx hj cH).2⟩⟩
  ·exact h.elim
 ·have hl:=gn _ _ _ _ h;cases p with
  | dead=>exact hr
  | aw=>exact hr
  | bg=>exact hr
  | lv p=>exact hr
  | cV vs=>exact⟨by rw[<-hl];exact hr.1,fun j hj cH=>je hi 4 n _ _ _ (jd _ _ _ _ h j (by omega) hj) (hr.2 j (by omega) cH)⟩
 ·have hr:p=.dead:=hr;exact hr
 ·have hr:p=.aw:=hr;exact hr
 ·exact h.elim

theorem aJ.fit(hs:aJ c s m a w ids){s':List A}{m':List ar}(h:uh s m s' m'):aJ c s' m' a w (ids.take m'.length):=by
 unfold uh at h;rw[jc] at h;obtain⟨h1,h2⟩:=h;have hl:=gn _ _ _ _ h1;have hlb:=ya _ _ _ h2
 have hi:∀b,av c ids w b->av c (ids.take m'.length) w b:=by
  rintro b (h|⟨q1,q2,q3⟩)
  ·exact .inl h
  ·exact .inr ⟨q1,q2,fun p hp=>q3 p (List.mem_of_mem_take hp)⟩
 have hidl:ids.length=m.length:=hs.aU;refine⟨hs.defers,by rw[hs.len,hl],?_,by simp;omega,?_,?_,?_,hs.frame,hs.fh,fun vs h=>hs.cV vs (List.mem_of_mem_take h)⟩
 ·intro i g1 g2;exact je hi 5 _ _ _ _ (jd _ _ _ _ h1 i (by omega) g1) (hs.cc i (by omega) g2)
 ·intro b g1 g2;have:=hs.bP b (by omega) (by omega);rw[List.getElem_take];exact K2 hi (yb _ _ _ h2 b (by omega) g1) this
 ·intro i j p q x g1 g2 g3 g3';rw[List.getElem?_take] at g1 g2;split at g1
  ·split at g2
   ·exact hs.al i j p q x g1 g2 g3 g3'
   ·cases g2
  ·cases g1
 ·intro p hp;exact hs.au p (List.mem_of_mem_take hp)
theorem kg{s':List A}{m':List ar}(h:uh s m s' m'):ZR s m s' m':=fun _ _ _ _ hs=>⟨_,hs.fit h⟩
end
end Go.Proofs.YtijddijloelacaaGreat.Am

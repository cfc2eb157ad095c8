/-
  THE ENGINE, part 4: an abstract machine of symbolic values, each step proved sound.
-/
import Derived.Test.YtijddijloelacaaGreatNetOf1
import Derived.Test.YtijddijloelacaaGreatAm3
import Derived.Deep.Slices
set_option linter.unusedSimpArgs false
set_option linter.unusedSectionVars false
set_option linter.unusedVariables false
namespace Go.Proofs.YtijddijloelacaaGreat.Am
variable [Inhabited cF]
open Go.RowKit (Below)
open Go.Proofs Go.Shelf Go.Sort Go.Lib
def qQ:A->Prop
 | .int _ _=>True
 | .sb _=>True
 | _=>False
def Lp:A->Value
 | .int k n=>.int k n
 | .sb b=>.bool b
 | _=>undef
theorem z8{a:A}(h:qQ a):(Lp a).oneCell'=true:=by cases a<;>first|rfl|exact absurd h id
theorem EU{im:Nat->Prop}{w:World}{a:A}(h:qQ a):aA im w a (Lp a):=by
 cases a<;>first|exact .int _ _|exact .sb _|exact absurd h id
theorem Lq{im:Nat->Prop}{w:World}{a:A}{v:Value}(h:qQ a)(r:aA im w a v):v=Lp a:=by
 cases r<;>first|rfl|exact absurd h id
section
variable {P:Program} {ρ : Go.Shelf.Ren} {G:aK} {α : Type} [Inhabited α]
def cR(e:α->List A)(l:List α):Nat->List A:=fun i=>e (l.getD i default)
def bK(e:α->List A)(x:α):List Value:=(e x).map Lp
theorem aM.yo(dS:¬(default:cF).ns)(L:SlLaysF0.n6 P ρ)(k:Nat)(k0:0<k)(aE:∀w,(isAgg (ρ.t 24)).run P w=.ok true w)(zE:∀w,(Go.sizeOf (ρ.t 24)).run P w=.ok k w)
  (e:α->List A) (Cm:∀x,∀a∈e x,qQ a) (hk:∀x,(e x).length=k) (cf:α->α->Int) (hO:SWO (ltOf cf)) (g:FuncId) (sK:List A) (mw:sK.any (cY 4)=false)
  (hc:∀x y,aa P G g ([.agg (e x),.agg (e y)]++sK) (.int .i64 (cf x y)))
  (hfn : ∃ fn cd, P.funcs[ρ.f 6]? = some fn ∧ fn.body = some cd ∧ (fn.name == "runtime.NumGoroutine") = false) (ty : TypeId) (l : List α) (hl : l.length ≤ 1000000) (hne : 0 < l.length) :
  aM P G (ρ.f 6) [.own 1,.fn g sK] [.ghost [.own 1,.aj,.aj],.row ty k l.length (cR e l)] (.tup []) [.ghost [.own 1,.aj,.aj],.row ty k l.length (cR e (fQ cf l))]:=by
 refine⟨hfn,?_⟩;intro im w vs gs ids hG hs;have xT:vs.length=2:=by have:=hs.len;simpa using this
 obtain⟨v0,v1,rfl⟩:∃v0 v1,vs=[v0,v1]:=by
  match vs,xT with
  | [a,b],_=>exact⟨a,b,rfl⟩
 have r0:Rel ids _ w (.own 1) v0:=hs.cc 0 (by simp) (by simp);have r1:Rel ids _ w (.fn g sK) v1:=hs.cc 1 (by simp) (by simp);have qv:ids.length=2:=by have:=hs.aU;simpa using this
 have Cn:=hs.bP 1 (by simp) (by omega);simp only[List.getElem_cons_succ,List.getElem_cons_zero] at Cn
 obtain⟨p,cap,cD,Co,Lr,rfl⟩:∃p cap,ids[1]?=some (.lv p)/\(p.n<=cap/\cap<=maxLen)/\cap*p.sz=p.k/\v0=.slice (some ⟨p.aq,0,none⟩) p.n cap:=by
  rcases hs.gC r0 (by simp) with⟨h1,_⟩|h
  ·rw[List.getElem?_eq_getElem (by omega)] at h1;rw[Option.some.inj h1] at Cn;have:l.length=0:=Cn;omega
  ·exact h
 have zY:ids[1]'(by omega)=.lv p:=by rw[List.getElem?_eq_getElem (by omega)] at cD;exact Option.some.inj cD
 rw[zY] at Cn;obtain⟨g1,g2,cur,g3,g4,g5,g6,g7⟩:=Cn;obtain⟨us,rfl,Pq,T'⟩:=r1.ig;rw[g2];have SC:=hs.au p (List.mem_of_getElem? cD) p.aq (.inl rfl);have Xm:iw ids p.aq:=⟨p,List.mem_of_getElem? cD,.inl rfl⟩;have GN:∀x,(bK e x).length=k:=fun x=>by simp[bK,hk]
 have xv:∀x,∀v∈bK e x,v.oneCell'=true:=fun x v hv=>by
  simp only[bK,List.mem_map] at hv;obtain⟨n,hn,rfl⟩:=hv;exact z8 (Cm x n hn)
 have Aa:∀t,t<l.length*k->cur[t]?=some ((bK e (l.getD (t/k) default)).getD (t%k) undef):=by
  intro t ht;obtain⟨q1,q2,q3⟩:=j9 ht rfl rfl;have aH:t<cur.size:=by omega
  have GO:(cR e l (t/k)).length=k:=g6 _ q1;have:=(g7 (t/k) (t%k) q1 (by rw[GO];exact q2) (by rw[q3];exact aH)).1;simp only[q3] at this;have ZW:t%k<(e (l.getD (t/k) default)).length:=by rw[hk];exact q2
  have e1:(cR e l (t/k))[t%k]'(by rw[GO];exact q2)=(e (l.getD (t/k) default))[t%k]:=rfl;rw[e1] at this;have hv:cur[t]=Lp ((e (l.getD (t/k) default))[t%k]):=Lq (Cm _ _ (List.getElem_mem ZW)) this;rw[Array.getElem?_eq_getElem aH,hv];have Ls:t%k<(bK e (l.getD (t/k) default)).length:=by rw[GN];exact q2
  rw[List.getD_eq_getElem?_getD (l:=bK e (l.getD (t/k) default)),List.getElem?_eq_getElem Ls,Option.getD_some];simp only[bK,List.getElem_map]
 have gT:∀i,l.toArray[i]! = l.getD i default:=fun i=>by
  rw[List.getD_eq_getElem?_getD];simp[Array.getElem!_eq_getD,Array.getD_eq_getD_getElem?]
 have hH:HoldsK (bK e) k w p.aq 0 l.toArray:=by
  intro j hj;rw[size_flatK] at hj;have hj:j<l.length*k:=by simpa using hj
  constructor
  ·rw[Nat.zero_add,cell_of_row w p.aq j cur ty (0,0) g3,Aa j hj,id,get_flatK _ _ _ _ (by simpa using hj),gT];obtain⟨q1,q2,q3⟩:=j9 hj rfl rfl;have:j%k<(bK e (l.getD (j/k) default)).length:=by rw[GN];exact q2
   rw[List.getD_eq_getElem?_getD (l:=bK e (l.getD (j/k) default)),List.getElem?_eq_getElem this,Option.getD_some,getElem!_pos (bK e (l.getD (j/k) default)) _ this]
  ·unfold World.frozen?;simp only[g3];simp
 have XO:=hG.1
 have v8:∀(m:Nat) (dk:Array α) (os:Array Obj) (b:Nat),b<w.heap.size->b≠p.aq->(sortWorldK (bK e) k w p.aq 0 m dk os).heap[b]?=w.heap[b]?:=by
  intro m dk os b hb XP;unfold sortWorldK;rw[heap_grow_old _ _ (by show b<(putRowK (bK e) k (Go.Sort.ahead w m) p.aq 0 dk).heap.size;rw[size_putRowK];exact hb)];show((Go.Sort.ahead w m).heap.modify p.aq _)[b]?=_;rw[Array.getElem?_modify,if_neg (fun h=>XP h.symm)];rfl
 have Ua:CmpLays P g us.toArray (bK e) k cf p.aq 0 l.toArray.size w:=by
  intro m os dk hdk x y;have cj:=size_sortWorldK_c (bK e) k w p.aq 0 m dk os;have:=(hc x y).2 (av ⟨w,im,iw ids,gs⟩ ids w) (sortWorldK (bK e) k w p.aq 0 m dk os) ([.agg (bK e x).toArray,.agg (bK e y).toArray]++us) (fun b hb=>Nat.lt_of_lt_of_le (cU hs hb) cj) ?_ (by simp[Pq]) ?_
  ·refine bD (by simpa using this) ?_;rintro e' w' ⟨v,rfl,hv,hb⟩;cases hv;exact⟨rfl,GP dS hb⟩
  ·refine G.st w _ XO cj (fun b hb=>v8 m dk os b (Nat.lt_of_lt_of_le hb (G.lt _ XO)) ?_);intro e';have:=hG.2 p.aq Xm;omega
  ·have Lu:∀(x:α) (bL:Nat->Prop) (W:World),aA bL W (.agg (e x)) (.agg (bK e x).toArray):=by
    intro x bL W;refine .agg _ _ (by simp[bK]) (fun v hv=>xv x v hv) (fun j h h'=>?_);simp only[bK,List.getElem_map];exact EU (Cm x _ (List.getElem_mem _))
   intro j h h';rcases j with _|_|j
   ·exact Lu x _ _
   ·exact Lu y _ _
   ·have hj:j<sK.length:=by simpa using h
    have:=T' j hj (by omega)
    have bm:cY 4 sK[j]=false:=by
     have:=List.any_eq_false.1 mw _ (List.getElem_mem hj);simpa using this
    have:=cS (ids:=ids) 4 _ _ bm this;refine(this.mono (fun _ h=>h) (fun b hb=>v8 m dk os b (cU hs hb) ?_));intro e';subst e';rcases hb with hb|⟨_,_,hb⟩
    ·exact hs.rX hb SC.1
    ·exact hb p (List.mem_of_getElem? cD) (.inl rfl)
 have eg:∀args w,(callFunc g args).run P w=.ok (.enter g args) w:=by
  intro args w;obtain ⟨fn,cd,h1,h2,h3⟩:=(hc default default).1;have h4 : ¬ fn.name = "runtime.NumGoroutine" := by simpa using h3
  simp[callFunc,h1,h2,h4]
 have Cp:=AnyQ.slices_SortFunc_eq L k aE zE (bK e) GN xv cf hO g us.toArray p.aq 0 cap l.toArray w eg Ua hH SC.2 (by simp;omega);refine bD (by simpa using Cp) ?_;rintro e' w' ⟨rfl,n,os,jT⟩;refine⟨.tuple #[],ids,rfl,?_⟩
 have gS:(pdq (ltOf cf) l.toArray 0 l.toArray.size (Go.Lib.bitLen l.toArray.size) true true).size=l.length:=by
  have:=iY cf hO l;unfold fQ at this;simpa using this
 obtain⟨d',gD⟩:∃d',d'=pdq (ltOf cf) l.toArray 0 l.toArray.size (Go.Lib.bitLen l.toArray.size) true true:=⟨_,rfl⟩
 have Ub:∀i,(fQ cf l).getD i default=d'[i]!:=by
  intro i;unfold fQ;rw[<-gD,List.getD_eq_getElem?_getD];simp[Array.getElem!_eq_getD,Array.getD_eq_getD_getElem?]
 have jT:w'=sortWorldK (bK e) k w p.aq 0 n d' os:=by rw[jT,gD];simp
 rw[<-gD] at gS;have cj:w.heap.size<=w'.heap.size:=by rw[jT];exact size_sortWorldK_c (bK e) k w p.aq 0 n d' os
 have BN:∀b,b<w.heap.size->b≠p.aq->w'.heap[b]?=w.heap[b]?:=fun b h1 h2=>by rw[jT];exact v8 n d' os b h1 h2
 have Cq:w'.heap[p.aq]?=some (.cells (putCells id 0 (flatK (bK e) k d') cur) ty (0,0)):=by
  rw[jT];unfold sortWorldK;rw[heap_grow_old _ _ (by show p.aq<(putRowK (bK e) k (Go.Sort.ahead w n) p.aq 0 d').heap.size;rw[size_putRowK];exact SC.2)];show((Go.Sort.ahead w n).heap.modify p.aq _)[p.aq]?=_;rw[Array.getElem?_modify,if_pos rfl];show Option.map _ (w.heap[p.aq]?)=_;rw[g3];rfl
 have gk:∀b,b<w.heap.size->(∀(b':Nat) (q:Id),ids[b']?=some (.lv q)->¬q.has b)->w'.heap[b]?=w.heap[b]?:=fun b h1 h2=>BN b h1 (fun e=>h2 1 p cD (.inl e))
 have bm:∀q,eU.lv q∈ids->∀x,q.has x->x<w'.heap.size/\(w.heap.size<=x\/∃(b:Nat) (p:Id),ids[b]?=some (.lv p)/\p.has x):=by
  intro q hq x hx;obtain⟨i,hi⟩:=List.getElem?_of_mem hq;exact⟨Nat.lt_of_lt_of_le (hs.au q hq x hx).2 cj,.inr ⟨i,q,hi,hx⟩⟩
 have Uc:fL w.drawn w'.drawn:=.of (by rw[jT];exact Nat.le_add_right _ _);obtain⟨ez,dH⟩:=hs.de (w':=w') (ab:=ids) cj gk bm
 have ll:aJ ⟨w,im,iw ids,gs⟩ [.aj,.aj] [.ghost [.own 1,.aj,.aj],.row ty k l.length (cR e (fQ cf l))] ⟨[.slice (some ⟨p.aq,0,none⟩) p.n cap,.func (.func g) #[] us.toArray].toArray,[]⟩ w' ids:=by
  refine hs.nH (Bu:=Uc) (by rw[jT];rfl) (by rw[jT];rfl) (by rw[jT];rfl) cj gk bm (fun _ h=>h) hs.al rfl (by simpa using qv) ?_ ?_
  ·intro i h h';rcases i with _|_|i
   ·exact .aL (.aj _)
   ·exact .aL (.aj _)
   ·simp at h;omega
  ·intro b h h';rcases b with _|_|b
   ·have IW:=hs.bP 0 (by simp) (by omega);refine IW.mono ez dH (fun _ _ h _=>h) ?_;intro q hq x hx;rw[hq] at IW;exact IW.elim
   ·simp only[List.getElem_cons_succ,List.getElem_cons_zero,zY];refine⟨g1,g2,_,Cq,by simp[putCells,g4],g5,fun i _=>by simp[cR,hk],?_⟩;intro i j hi hj cH;have EV:j<k:=by simpa[cR,hk] using hj
    have aH:i*k+j<l.length*k:=by
     have:=Nat.mul_le_mul_right k (show i+1<=l.length from hi);rw[Nat.add_mul] at this;omega
    have XS:(flatK (bK e) k d').size=l.length*k:=by rw[size_flatK,gS]
    have hv:(putCells id 0 (flatK (bK e) k d') cur)[i*k+j]=Lp ((e ((fQ cf l).getD i default))[j]'(by rw[hk];exact EV)):=by
     simp only[putCells,Array.getElem_mapIdx,XS];rw[if_pos ⟨Nat.zero_le _,by omega⟩,Nat.sub_zero,id,get_flatK _ _ _ _ (by rw[gS];exact aH)];have e1:(i*k+j)/k=i:=by rw[Nat.mul_comm,Nat.mul_add_div k0,Nat.div_eq_of_lt EV];simp
     have e2:(i*k+j)%k=j:=by rw[Nat.mul_comm,Nat.mul_add_mod,Nat.mod_eq_of_lt EV]
     rw[e1,e2,<-Ub];have:j<(bK e ((fQ cf l).getD i default)).length:=by rw[GN];exact EV
     rw[getElem!_pos (bK e ((fQ cf l).getD i default)) j this];simp only[bK,List.getElem_map]
    rw[hv];refine⟨?_,z8 (Cm _ _ (List.getElem_mem _))⟩;exact EU (Cm _ _ (List.getElem_mem _))
   ·simp at h;omega
 refine⟨rfl,rfl,?_,ll.aU,ll.bP,ll.al,ll.au,ll.frame,ll.fh,ll.cV⟩;intro i h h';rcases i with _|i
 ·exact .aL (.tup [] [] rfl (fun _ h=>by simp at h))
 ·simp at h
end
end Go.Proofs.YtijddijloelacaaGreat.Am
namespace Go.Proofs.YtijddijloelacaaGreat.Am
variable [Inhabited cF]
open Go.RowKit (Below)
section
variable {c:Ctx} {s:List A} {m:List ar} {a:Act} {w w':World} {ids ab:dV} {P:Program} {im bL:Nat->Prop} {tt:TT} {G:aK}
theorem aJ.SD(hs:aJ c s m a w ids)(b:Nat)(x:ar)(hx:∀(h:b<ids.length),bq ids (av c ids w) w x ids[b]):aJ c s (m.set b x) a w ids where
 defers:=hs.defers
 len:=hs.len
 cc:=hs.cc
 aU:=by rw[List.length_set];exact hs.aU
 bP:=by
  intro i h h';rw[List.length_set] at h;rw[List.getElem_set];split
  ·rename_i e;subst e;exact hx h'
  ·exact hs.bP i h h'
 al:=hs.al
 au:=hs.au
 frame:=hs.frame
 fh:=hs.fh
 cV:=hs.cV
/-- A cell of a box that holds a nil slice holds a row of ours that has no place yet. -/
theorem uH{Q:Exit->List A->List ar->Prop}{code:Code}(b j:Nat)(ty:TypeId)(sz:Nat){uE:TypeId}{cs:List A}(hb:m[b]?=some (.box uE cs))(hj:cs[j]?=some .aC)
  (h:dP m.length fun n=>fl (cs.set j (.own n)) fun dz=>r8 m b (.box uE dz) fun m1=>nc m1 (.row ty sz 0 fun _=>[]) fun _ m'=>WA P G code Q s m'):WA P G code Q s m:=by
 rw[aX,cI,fM,gj] at h;unfold WA at h ⊢;intro c a w ids hG hs
 have mE:b<m.length:=by
  rcases Nat.lt_or_ge b m.length with h'|h'
  ·exact h'
  ·rw[List.getElem?_eq_none h'] at hb;cases hb
 have Ev:=hs.grow (Bw.refl _ w) [.row ty sz 0 fun _=>[]] [.bg] rfl (fun i h1 h2=>by
   have:i=0:=by simp at h1;omega
   subst this;exact rfl) (fun p h=>by simp at h) (fun vs h=>by simp at h) (fun i j p q x h1=>by
   cases i with
   | zero=>simp at h1
   | succ i=>simp at h1)
 have ll:=Ev.SD b (.box uE (cs.set j (.own m.length))) (by
  intro fg;have hB:=Ev.bP b (by simp;omega) fg
  have e:(m++[ar.row ty sz 0 fun _=>[]])[b]'(by simp;omega)=.box uE cs:=by
   rw[List.getElem_append_left mE];rw[List.getElem?_eq_getElem mE] at hb;exact Option.some.inj hb
  rw[e] at hB;cases hp:(ids++[eU.bg])[b] with
  | dead=>rw[hp] at hB;exact hB
  | aw=>rw[hp] at hB;exact hB
  | bg=>rw[hp] at hB;exact hB
  | cV vs=>rw[hp] at hB;exact hB
  | lv p =>
   rw[hp] at hB;obtain⟨vs,g1,g2,g3,g4⟩:=hB;refine⟨vs,g1,g2,by rw[List.length_set];exact g3,fun k hk iu=>?_⟩;rw[List.length_set] at hk;have g5:=g4 k hk iu;rw[List.getElem_set];split
   ·rename_i ejk;subst ejk
    have ec:cs[j]=.aC:=by
     rw[List.getElem?_eq_getElem hk] at hj;exact Option.some.inj hj
    rw[ec] at g5;refine⟨?_,g5.2⟩;rw[g5.1.dO];exact .gQ _ (by rw[<-hs.aU];simp)
   ·exact g5)
 have e3:(m++[ar.row ty sz 0 fun _=>[]]).set b (.box uE (cs.set j (.own m.length)))=(m.set b (.box uE (cs.set j (.own m.length))))++[ar.row ty sz 0 fun _=>[]]:=by
  rw[List.set_append_left _ _ mE]
 rw[e3] at ll;exact h c a w _ hG ll
end
section
variable {c:Ctx} {s:List A} {m:List ar} {a:Act} {w w':World} {ids ab:dV} {P:Program} {im bL:Nat->Prop} {tt:TT} {G:aK}
theorem Qb{l:List Nat}{b j:Nat}(h:fP l 0 b=some j):l[j]?=some b:=by
 have:=(gK l 0 b j h).2;simpa using this
theorem Ud(π:List Nat)(ids:dV):tr (cq (fP π 0)) ids (π.map fun b=>ids.getD b .dead):=by
 have key:∀b b' p,fP π 0 b=some b'->ids[b]?=some p->(π.map fun b=>ids.getD b .dead)[b']?=some p:=by
  intro b b' p h1 h2;rw[List.getElem?_map,Qb h1,Option.map_some,List.getD_eq_getElem?_getD,h2];rfl
 exact⟨fun b b' p h1 h2=>⟨p,key b b' _ h1 h2,rfl⟩,fun b b' p h1 h2 _=>⟨p,key b b' _ h1 h2,iN p⟩,fun b b' p h1 h2=>⟨p,key b b' _ h1 h2,rfl⟩,fun b b' h1 h2=>key b b' _ h1 h2,fun b b' h1 h2=>key b b' _ h1 h2⟩
theorem Ab{π:List Nat}{ids:dV}{p:eU}(hp:p≠.dead)(h:p∈π.map fun b=>ids.getD b .dead):p∈ids:=by
 obtain⟨b,_,e⟩:=List.mem_map.1 h;rw[List.getD_eq_getElem?_getD] at e;cases hb:ids[b]? with
 | none=>rw[hb] at e;exact absurd e.symm hp
 | some q=>rw[hb] at e;simp at e;subst e;exact List.mem_of_getElem? hb
theorem aJ.ren(hs:aJ c s m a w ids)(π:List Nat)(hn:π.Nodup):
  aJ c (s.map (jz (cq (fP π 0)) 4)) (π.map fun b=>iP (cq (fP π 0)) 4 (m.getD b .dead)) a w (π.map fun b=>ids.getD b .dead):=by
 have hi:∀b,av c ids w b->av c (π.map fun b=>ids.getD b .dead) w b:=by
  intro b h;rcases h with h|⟨h1,h2,h3⟩
  ·exact .inl h
  ·exact .inr ⟨h1,h2,fun p hp=>h3 p (Ab (by simp) hp)⟩
 have ht:=Ud π ids
 have gE:∀(j:Nat) (p:Id),(π.map fun b=>ids.getD b .dead)[j]?=some (.lv p)->∃b,π[j]?=some b/\ids[b]?=some (.lv p):=by
  intro j p h;rw[List.getElem?_map] at h;cases hj:π[j]? with
  | none=>rw[hj] at h;cases h
  | some b =>
   rw[hj,Option.map_some,List.getD_eq_getElem?_getD] at h;cases hb:ids[b]? with
   | none=>rw[hb] at h;simp at h
   | some q=>rw[hb] at h;simp at h;subst h;exact⟨b,rfl,hb⟩
 refine⟨hs.defers,by simp[hs.len],?_,by simp,?_,?_,?_,hs.frame,hs.fh,?_⟩
 ·intro i h h';rw[List.getElem_map];exact eF hi (fun _ _=>rfl) ht 4 _ _ (hs.cc i (by simpa using h) h')
 ·intro j h h';rw[List.getElem_map,List.getElem_map];have hj:j<π.length:=by simpa using h
  by_cases hb:π[j]<m.length
  ·have fN:π[j]<ids.length:=by rw[hs.aU];exact hb
   rw[List.getD_eq_getElem?_getD,List.getElem?_eq_getElem hb,List.getD_eq_getElem?_getD,List.getElem?_eq_getElem fN];exact lJ hi (fun _ _=>rfl) ht 4 (fun _ _ _ _=>rfl) (hs.bP _ hb fN)
  ·rw[List.getD_eq_getElem?_getD,List.getElem?_eq_none (by omega),List.getD_eq_getElem?_getD,List.getElem?_eq_none (by rw[hs.aU];omega)];exact rfl
 ·intro j j' p q x h1 h2 h3 h4;obtain⟨b,k1,k2⟩:=gE j p h1;obtain⟨b',k3,k4⟩:=gE j' q h2;have e:=hs.al b b' p q x k2 k4 h3 h4;subst e;have hj:j<π.length:=(List.getElem?_eq_some_iff.1 k1).1;exact(List.getElem?_inj hj hn).1 (k1.trans k3.symm)
 ·intro p hp x hx;exact hs.au p (Ab (by simp) hp) x hx
 ·intro vs hv;exact hs.cV vs (Ab (by simp) hv)
/-- Blocks are named anew: block j is now what was block π[j]; the others are forgotten. -/
theorem Ue{Q:Exit->List A->List ar->Prop}{code:Code}(π:List Nat)(hn:pP π=true)
  (h:fd.sf 4 (s.map (jz (cq (fP π 0)) 4)) fun s'=>sj (π.map fun b=>iP (cq (fP π 0)) 4 (m.getD b .dead)) fun m'=>WA P G code Q s' m'):WA P G code Q s m:=by
 rw[cX,eK] at h;unfold WA at h ⊢;intro c a w ids hG hs;exact h c a w _ hG (hs.ren π (jL hn))
/-- .. ahead of region id, where k blocks stand. -/
theorem eO{Q:Exit->List A->List ar->Prop}{id:Nat}{l:Array Oper}{d:Bool}(k:Nat)(π:List Nat)(_hk:Nat.beq m.length k=true)(hn:pP π=true)
  (h:fd.sf 4 (s.map (jz (cq (fP π 0)) 4)) fun s'=>sj (π.map fun b=>iP (cq (fP π 0)) 4 (m.getD b .dead)) fun m'=>WA P G (.region id l d) Q s' m'):WA P G (.region id l d) Q s m:=Ue π hn h
end
section
variable {c:Ctx} {s:List A} {m:List ar} {a:Act} {w w':World} {ids ab:dV} {P:Program} {im bL:Nat->Prop} {tt:TT} {G:aK}
variable {code:Code} {Q:Exit->List A->List ar->Prop}
variable {ty:TypeId} {agg:Bool} {sh:List KS} {n hi:Nat} {cs:List A} {kI:Nat->Nat} {has:Nat->List KC->Bool} {val:Nat->List KC->A}
/-- A row with some content. -/
theorem Lv(b:Nat){sz:Nat}{Φ:(Nat->List A)->Prop}(hb:m.getD b .dead=.bW ty sz n Φ)(h:∀row,Φ row->r8 m b (.row ty sz n row) fun m'=>WA P G code Q s m'):WA P G code Q s m:=by
 unfold WA;intro c a w ids hG hs;obtain⟨mE,hm⟩:=getD_some (by simp) hb;have fg:b<ids.length:=by rw[hs.aU];exact mE
 have hB:=hs.bP b mE fg;rw[hm] at hB
 have fin:∀row,Φ row->bq ids (av c ids w) w (.row ty sz n row) ids[b]->code.wp P (post c Q) a w:=by
  intro row hr J4;have h:=h row hr;rw[fM] at h;unfold WA at h;exact h c a w ids hG (hs.SD b _ fun _=>J4)
 cases hp:ids[b] with
 | dead=>rw[hp] at hB;exact hB.elim
 | aw=>rw[hp] at hB;exact hB.elim
 | cV vs=>rw[hp] at hB;exact hB.elim
 | bg =>
  rw[hp] at hB;obtain⟨h0,row,hr⟩:=hB;exact fin row hr (by rw[hp];exact h0)
 | lv p =>
  rw[hp] at hB;obtain⟨row,hr,hB⟩:=hB;exact fin row hr (by rw[hp];exact hB)
end
section
variable {c:Ctx} {s:List A} {m:List ar} {a:Act} {w w':World} {ids ab:dV} {P:Program} {im bL:Nat->Prop} {tt:TT} {G:aK}
variable {next:Act->World->Prop} {Q:Exit->Act->World->Prop} {o:Oper}
/-- The first operations of a region; what follows is told apart. -/
theorem qR(aN:bM P tt){ops:List Oper}{QA:List A->List ar->Prop}(hG:G.ok c)(tail:List Oper)(hQ:∀s m a w ids,QA s m->aJ c s m a w ids->wpList P ops.toArray Q tail a w):
  ∀(rest:List Oper) (s:List A) (m:List ar) (a:Act) (w:World) (ids:dV),aJ c s m a w ids->nM P G tt ops rest s m QA->wpList P ops.toArray Q (rest++tail) a w
 | [],s,m,a,w,ids,hs,h=>hQ s m a w ids h hs
 | o::rest,s,m,a,w,ids,hs,h=>by
  have exec:∀s,aJ c s m a w ids->(x8 P G tt o s m fun s1 v m'=>sE s1 o.dst v fun s'=>nM P G tt ops rest s' m' QA)->∀K:Act->World->Prop,(∀a w,wpList P ops.toArray Q (rest++tail) a w->K a w)->o.wp P a w K Q:=by
   intro s hs h K hK;refine tA aN hG hs h ?_;intro s1 v m' a' w' ab hk bY;rw[oM] at hk;exact hK _ _ (qR aN hG tail hQ rest _ _ _ _ _ bY hk)
  have skip:∀s,aJ c s m a w ids->(sE s o.dst (.tup []) fun s'=>nM P G tt ops rest s' m QA)->∀K:Act->World->Prop,(∀a w,wpList P ops.toArray Q (rest++tail) a w->K a w)->K (a.put o.dst undef) w:=by
   intro s hs h K hK;rw[oM] at h;exact hK _ _ (qR aN hG tail hQ rest _ _ _ _ _ (hs.bA o.dst (.aL (.tup [] [] rfl (fun _ h=>by simp at h)))) h)
  unfold nM at h;refine wpList_step fun K hK=>?_;split at h
  ·rename_i hg;have:Region.wanted o (yielded ops.toArray a.tmps)=true:=by unfold Region.wanted;rw[hg]
   rw[if_pos this];exact exec s hs h K hK
  ·rename_i j want hg;have hw:Region.wanted o (yielded ops.toArray a.tmps)=(yielded ops.toArray a.tmps j==some want):=by unfold Region.wanted;rw[hg]
   rw[hw];unfold EB at h;split at h
   ·exact h.elim
   ·rename_i d hd;have pU:=hs.ev (.tmp d);simp only[ev,Act.eval] at pU;split at h
    ·rename_i b hb;rw[hb] at pU;rw[ke hd pU.eC];split at h
     ·exact exec s hs h K hK
     ·exact exec s hs h K hK
     ·exact skip s hs h K hK
     ·exact skip s hs h K hK
    ·rename_i b hb;rw[hb] at pU;have Xz:=pU.jw;rw[ke hd Xz]
     have pQ:∀b',b=b'->aJ c (s.set d (.bool b')) m a w ids:=by
      intro b' e;subst e;exact hs.zF d (by rw[Xz];exact .aL (.bool _))
     rw[ij,ij,ij,ij] at h;split at h
     ·cases b
      ·exact skip _ (pQ false rfl) (h.2 rfl) K hK
      ·exact exec _ (pQ true rfl) (h.1 rfl) K hK
     ·cases b
      ·exact exec _ (pQ false rfl) (h.1 rfl) K hK
      ·exact skip _ (pQ true rfl) (h.2 rfl) K hK
    ·rename_i vs hb;rw[hb] at pU;split at h
     ·obtain⟨us,hu,Bb,_⟩:=pU.kK;have J2:us=[]:=by simpa using Bb
      subst J2
      have hy:yielded ops.toArray a.tmps j=none:=by
       unfold yielded;have h1:(ops.toArray[j]?).bind (·.dst)=some d:=by simpa[nL] using hd
       rw[h1];rcases Nat.lt_or_ge d a.tmps.size with h|h
       ·have h2:a.tmps[d]?=some (.tuple #[]):=by simpa[Array.getD_eq_getD_getElem?,h] using hu
        simp[h2]
       ·simp[h]
      rw[hy];exact skip s hs h K hK
     ·exact h.elim
    ·exact h.elim
end
section
variable {s:List A} {m:List ar} {P:Program} {tt:TT} {G:aK} {Q:Exit->List A->List ar->Prop}
end
end Go.Proofs.YtijddijloelacaaGreat.Am
namespace Go.Proofs.YtijddijloelacaaGreat.Am
variable [Inhabited cF]
section
variable {P:Program} {G:aK} {s:List A} {m:List ar}
/-- Blocks frozen ahead of a region, where k blocks stand. -/
theorem Ac{Q:Exit->List A->List ar->Prop}{id:Nat}{l:Array Oper}{d:Bool}(k:Nat)(bs:List Nat)(_hk:Nat.beq m.length k=true)
  (h:oK bs s m fun s' m'=>WA P G (.region id l d) Q s' m'):WA P G (.region id l d) Q s m:=by
 unfold WA;intro c a w ids hG hs;obtain⟨s',m',ab,h',bY⟩:=gl bs hs h;unfold WA at h';exact h' c a w ab hG bY
variable {ty:TypeId} {agg:Bool} {sh:List KS} {n hi:Nat} {cs:List A} {kI:Nat->Nat} {has:Nat->List KC->Bool} {val:Nat->List KC->A}
end
end Go.Proofs.YtijddijloelacaaGreat.Am
namespace Go.Proofs.YtijddijloelacaaGreat.Am
variable [Inhabited cF]
open Go.RowKit Go.ChangeShapes
/-- Each value of a type, read by the claim's reader, is one of ours. -/
def iB(P:Program)(t:TypeId){α:Type}(f:α->List A)(ok:α->Prop):Prop :=
 ∀(H:Type) (enc:TypeId×Value->H) (w:World) (im:Nat->Prop) (base:Nat) (sp:Nat->Bool) (held:Bool) (fuel:Nat) (cs:List Value) (d:DataW H) (ps:List MemPlace),
  DataW.trod enc P w base sp held fuel t cs=some (d,ps)->(∀p∈ps,im p.block) ->
  ∃x:α,ok x/\cs.length=(f x).length/\(∀v∈cs,hU v)/\∀j (h:j<(f x).length) (h':j<cs.length),aA im w (f x)[j] cs[j]

section
variable {P:Program} {t:TypeId}
theorem IX{k:IntKind}(ht:P.underlying t=some (.int k)):iB P t (fun n:Int=>[.int k n]) (fun n=>k.min<=n/\n<=k.max):=by
 intro H enc w im base sp held fuel cs d ps h pk;obtain⟨n,rfl,_,hw⟩:=DataW.trod_int ht h;refine⟨n,by simpa[Lit.wf] using hw,rfl,fun v hv=>?_,fun j h h'=>?_⟩
 ·simp at hv;subst hv;rfl
 ·have:j=0:=by simp at h;omega
  subst this;exact .int k n
theorem IY(ht:P.underlying t=some (.int .i64)):iB P t (fun n:Int=>[.int .i64 n]) (fun n=>-9223372036854775808<=n/\n<=9223372036854775807):=by
 intro H enc w im base sp held fuel cs d ps h pk;obtain⟨x,h1,h2⟩:=IX ht H enc w im base sp held fuel cs d ps h pk;refine⟨x,?_,h2⟩;have e1:IntKind.i64.min = -9223372036854775808:=rfl;have e2:IntKind.i64.max=9223372036854775807:=rfl;omega
theorem EW(ht:P.underlying t=some .bool):iB P t (fun b:Bool=>[.sb b]) (fun _=>True):=by
 intro H enc w im base sp held fuel cs d ps h pk;obtain⟨b,rfl,_⟩:=DataW.trod_bool ht h;refine⟨b,trivial,rfl,fun v hv=>?_,fun j h h'=>?_⟩
 ·simp at hv;subst hv;rfl
 ·have:j=0:=by simp at h;omega
  subst this;exact .sb b
/-- Fields, one behind the other: type, place, size. -/
def Ad(P:Program)(o:Nat)(L:List (TypeId×Nat×Nat)){α:Type}(g:α->List A)(ok:α->Prop):Prop :=
 ∀(H:Type) (enc:TypeId×Value->H) (w:World) (im:Nat->Prop) (base:Nat) (sp:Nat->Bool) (held:Bool) (n:Nat) (cs:List Value) (xs:List (DataW H×List MemPlace)),xs.length=L.length->(∀x∈xs,∀p∈x.2,im p.block) ->
   (∀(i:Nat) q,L[i]?=some q->DataW.trod enc P w base sp held n q.1 ((cs.drop q.2.1).take q.2.2)=xs[i]?)->o+(L.map fun q=>q.2.2).sum=cs.length ->
   ∃x:α,ok x/\(g x).length=cs.length-o/\(∀v∈cs.drop o,hU v)/\∀j (h:j<(g x).length) (h':o+j<cs.length),aA im w (g x)[j] cs[o+j]
theorem wa{o:Nat}:Ad P o [] (fun _:Unit=>[]) (fun _=>True):=by
 intro H enc w im base sp held n cs xs _ _ _ Uf;simp at Uf;exact⟨(),trivial,by simp;omega,by rw[List.drop_of_length_le (by omega)];simp,fun j h=>absurd h (Nat.not_lt_zero _)⟩
theorem gM{o k:Nat}{L:List (TypeId×Nat×Nat)}{α β:Type}{g1:α->List A}{g2:β->List A}{ok:α->Prop}{XT:β->Prop}(h:iB P t g1 ok)
      (hs:Ad P (o+k) L g2 XT):Ad P o ((t,o,k)::L) (fun x:α×β=>g1 x.1++g2 x.2) (fun x=>ok x.1/\XT x.2):=by
 intro H enc w im base sp held n cs xs hl pk hx Uf
 match xs,hl with
 | x::xs,hl =>
  have h0:=hx 0 _ rfl;simp only[List.getElem?_cons_zero] at h0;simp only[List.map_cons,List.sum_cons] at Uf;obtain⟨a,a1,a2,a3,a4⟩:=h H enc w im base sp held n _ x.1 x.2 h0 (pk x (by simp));obtain⟨b,b1,b2,b3,b4⟩:=hs H enc w im base sp held n cs xs (by simpa using hl) (fun y hy=>pk y (by simp[hy])) (fun i f' hf=>by simpa using hx (i+1) f' (by simpa using hf)) (by omega);rw[List.length_take,List.length_drop] at a2;have XU:(g1 a).length=k:=by omega
  refine⟨(a,b),⟨a1,b1⟩,by simp[XU,b2];omega,?_,?_⟩
  ·intro v hv;rw[<-List.take_append_drop k (cs.drop o)] at hv;rcases List.mem_append.1 hv with hv|hv
   ·exact a3 v hv
   ·rw[List.drop_drop] at hv;exact b3 v hv
  ·intro j h1 h2;by_cases hj:j<k
   ·have:=a4 j (by omega) (by rw[List.length_take,List.length_drop];omega);simp only[List.getElem_append_left (show j<(g1 a).length by omega)];rw[List.getElem_take,List.getElem_drop] at this;exact this
   ·have:=b4 (j-k) (by simp[XU] at h1;omega) (by omega);simp only[List.getElem_append_right (show(g1 a).length<=j by omega)];have e:o+k+(j-k)=o+j:=by omega
    simp only[XU,e] at this ⊢;exact this
def fieldsOf(P:Program)(t:TypeId):Option (List (TypeId×Nat×Nat)) :=
 match P.underlying t with
 | some (.struct fs)=>some (fs.toList.map fun f=>(f.type,f.offset,P.cellsOf f.type))
 | _=>none
theorem qS{L:List (TypeId×Nat×Nat)}{α:Type}{g:α->List A}{ok:α->Prop}(ht:fieldsOf P t=some L)(cj:(L.map fun q=>q.2.2).sum=P.cellsOf t)(h:Ad P 0 L g ok):iB P t g ok:=by
 intro H enc w im base sp held fuel cs d ps hd pk;unfold fieldsOf at ht;split at ht
 ·rename_i fs hu;cases ht;obtain⟨xs,n,_,e,hl,xr,hx⟩:=DataW.trod_struct hu hd;cases e
  obtain⟨x,h1,h2,h3,h4⟩:=h H enc w im base sp held n cs xs (by simpa using xr) (fun x hx p hp=>pk p (List.mem_flatMap.2 ⟨x,hx,hp⟩)) (fun i q hf=>by
   rw[List.getElem?_map] at hf;rcases PK:fs.toList[i]? with _|f
   ·rw[PK] at hf;cases hf
   ·rw[PK] at hf;cases hf;exact hx i f (by simpa using PK)) (by omega)
  exact⟨x,h1,by omega,by simpa using h3,fun j a b=>by simpa using h4 j a (by omega)⟩
 ·cases ht
/-- The same, in other words. -/
theorem iB.to{α β:Type}{g:α->List A}{ok:α->Prop}{g':β->List A}{XT:β->Prop}(h:iB P t g ok)(f:α->β)(hg:∀x,g x=g' (f x))(zj:∀x,ok x->XT (f x)):iB P t g' XT:=by
 intro H enc w im base sp held fuel cs d ps hd pk;obtain⟨x,h1,h2⟩:=h H enc w im base sp held fuel cs d ps hd pk;rw[hg] at h2;exact⟨f x,zj x h1,h2⟩
theorem nP{e:TypeId}{α:Type}[Inhabited α]{g:α->List A}{ok:α->Prop}{sz:Nat}(ht:P.underlying t=some (.slice e))(h:iB P e g ok)(cj:P.cellsOf e=sz)(Ug:0<sz):
  iB P t (fun l:List α=>[.sl l.length sz fun i=>g (l.getD i default)]) (fun l=>l.length<=maxLen/\∀x∈l,ok x):=by
 intro H enc w im base sp held fuel cs d ps hd pk;rcases Deep.open_slice ht hd with⟨rfl,_⟩|⟨a,len,cap,m,n,D,Pl,rfl,hb,hl,Tv,hm,he,hx⟩
 ·refine⟨[],⟨Nat.zero_le _,fun _ h=>by cases h⟩,rfl,fun v hv=>?_,fun j h h'=>?_⟩
  ·simp at hv;subst hv;rfl
  ·have:j=0:=by simp at h;omega
   subst this;exact .uu _ _
 ·cases he;have hlm:len<=m:=by rw[hm];split<;>omega
  have key:∀i,i<len->∃x:α,ok x/\(g x).length=sz/\(∀j,j<sz->∃v,w.cell? (a.add (i*sz+j))=some v/\hU v/\∀(h:j<(g x).length),aA im w (g x)[j] v):=by
   intro i hi;obtain⟨dz,h1,h2⟩:=hx i (by omega);obtain⟨x,x1,x2,x3,x4⟩:=h H enc w im base sp held n dz _ _ h2 (fun p hp=>pk p (List.mem_append_right _ (List.mem_flatMap.2 ⟨i,by simp;omega,hp⟩)));obtain⟨_,c1,c2⟩:=World.cells?_some h1;rw[cj] at c1 c2;refine⟨x,x1,by omega,fun j hj=>⟨dz[j]'(by omega),?_,x3 _ (List.getElem_mem _),fun h=>x4 j h (by omega)⟩⟩;have:=c2 j hj;rw[Deep.add_add] at this;rw[this,List.getElem?_eq_getElem]
  obtain⟨X,hX⟩:=Deep.choose_lt key;refine⟨(List.range len).map X,⟨by simp;omega,?_⟩,rfl,fun v hv=>by simp at hv;subst hv;rfl,?_⟩
  ·intro x hx;simp only[List.mem_map,List.mem_range] at hx;obtain⟨i,hi,rfl⟩:=hx;exact(hX i hi).1
  ·intro j h h';have:j=0:=by simp at h;omega
   subst this;show aA im w (.sl ((List.range len).map X).length sz fun i=>g (((List.range len).map X).getD i default)) (.slice (some a) len cap);have e1:((List.range len).map X).length=len:=by simp
   rw[e1]
   have e2:∀i,i<len->((List.range len).map X).getD i default=X i:=by
    intro i hi;simp[List.getD_eq_getElem?_getD,hi]
   rcases Nat.eq_zero_or_pos len with h0|h0
   ·subst h0;exact .sle _ _ _ _
   ·have XV:a.spot=none:=by
     obtain⟨v,hv,_⟩:=(hX 0 h0).2.2 0 Ug;rw[Nat.zero_mul,Nat.add_zero] at hv;unfold Addr.add at hv;rw[if_pos rfl] at hv;unfold World.cell? at hv;split at hv
     ·split at hv
      ·cases hv
      ·rename_i h;simpa using h
     ·cases hv
    obtain⟨aq,off,spot⟩:=a;simp only at XV;subst XV
    have hV:∀i,i<len->∃f:Nat->Value,∀j,j<sz->w.cell? ⟨aq,off+i*sz+j,none⟩=some (f j)/\hU (f j)/\∀(h:j<(g (X i)).length),aA im w (g (X i))[j] (f j):=by
     intro i hi;obtain⟨f,hf⟩:=Deep.choose_lt (hX i hi).2.2;refine⟨f,fun j hj=>?_⟩;have:=hf j hj;rw[show Addr.add ⟨aq,off,none⟩ (i*sz+j)=⟨aq,off+i*sz+j,none⟩ from by unfold Addr.add;split<;>simp_all<;>omega] at this;exact this
    obtain⟨V,hV⟩:=Deep.choose_lt hV;refine .sl len sz _ aq off cap V (pk _ (List.mem_append_left _ (List.mem_map.2 ⟨0,?_,rfl⟩))) hl ?_ ?_ ?_ ?_
    ·rw[List.mem_range,cj];exact Nat.mul_pos (by omega) Ug
    ·intro i hi;rw[e2 i hi];exact(hX i hi).2.1
    ·intro i j hi hj;exact(hV i hi j hj).1
    ·intro i j hi hj;exact(hV i hi j hj).2.1
    ·intro i j hi hj;simp only[e2 i hi] at hj ⊢;exact(hV i hi j (by rw[<-(hX i hi).2.1];exact hj)).2.2 hj
/-- An argument that is cells. -/
theorem iB.cell{α:Type}{g:α->A}{ok:α->Prop}(h:iB P t (fun x=>[g x]) ok){H:Type}{enc:TypeId×Value->H}{w:World}{im:Nat->Prop}{base:Nat}{sp:Nat->Bool}{held:Bool}{v:Value}{d:DataW H}{ps:List MemPlace}
  (hd:DataW.Trod enc P w base sp held t v d ps) (hv:∀cs,v≠.agg cs) (pk:∀p∈ps,im p.block):∃x,ok x/\aA im w (g x) v:=by
 obtain⟨fuel,hd⟩:=hd;obtain⟨x,h1,h2,h3,h4⟩:=h H enc w im base sp held fuel _ d ps hd pk
 have hc:v.cells = #[v]:=by
  cases v<;>first|rfl|exact absurd rfl (hv _)|skip
 refine⟨x,h1,?_⟩;have:=h4 0 (by simp) (by rw[hc];simp);simpa[hc] using this
theorem Cr{r:Reach}{w:World}{base:Nat}{v:Value}(xC:Value.okWide P w r base t v)(ha:(match P.underlying t with|some (.int _)=>true|some .bool=>true|some .string=>true|some (.slice _)=>true|_=>false)=true):∀cs,v≠.agg cs:=by
 rintro cs rfl;unfold Value.okWide at xC;split at xC
 ·rename_i fs h;rw[h] at ha;cases ha
 ·rename_i n e h;rw[h] at ha;cases ha
 ·unfold Cell.okWide at xC;split at xC<;>first|(rename_i h1 h2;cases h2;done)|skip
  unfold Cell.ok at xC;split at xC<;>first|(rename_i h1 h2;cases h2;done)|exact xC.elim
end
end Go.Proofs.YtijddijloelacaaGreat.Am

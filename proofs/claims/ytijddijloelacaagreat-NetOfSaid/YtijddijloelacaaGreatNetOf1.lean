/-
  The walks and plain laws, part 1.
-/
import Derived.Test.YtijddijloelacaaGreatAm3
import Derived.Shelf.SlSortCmp.WholeK
set_option linter.unusedSimpArgs false
set_option linter.unusedSectionVars false
set_option linter.unusedVariables false
namespace Go.Proofs.YtijddijloelacaaGreat.Am
variable [Inhabited cF]
open Go.RowKit (Below)
open Go.Proofs Go.Shelf Go.Sort Go.Lib
section
variable {α : Type} [Inhabited α]
/-- The sorted row (the library's own order of equals). -/
def fQ(cf:α->α->Int)(l:List α):List α:=(pdq (ltOf cf) l.toArray 0 l.toArray.size (Go.Lib.bitLen l.toArray.size) true true).toList
theorem du(cf:α->α->Int)(hO:SWO (ltOf cf))(l:List α):(fQ cf l).Perm l/\∀i j,i<j->j<l.length->ltOf cf ((fQ cf l).getD j default) ((fQ cf l).getD i default)=false:=by
 obtain⟨⟨h1,h2,h3⟩,h4⟩:=pdq_sorts (ltOf cf) hO l.toArray 0 l.toArray.size (Go.Lib.bitLen l.toArray.size) true true (Nat.zero_le _) (Nat.le_refl _) (Or.inl rfl);constructor
 ·have e1:∀d:Array α,(d.extract 0 d.size).toList=d.toList:=fun d=>by simp
  rw[e1] at h3;have:∀d:Array α,d.size=l.toArray.size->d.extract 0 l.toArray.size=d:=fun d h=>by rw[<-h];simp
  rw[this _ h1] at h3;exact h3
 ·intro i j lB hj;have:=h4 i j (Nat.zero_le _) lB (by simpa using hj)
  have g:∀t,(fQ cf l).getD t default=(pdq (ltOf cf) l.toArray 0 l.toArray.size (Go.Lib.bitLen l.toArray.size) true true)[t]!:=by
   intro t;unfold fQ;rw[List.getD_eq_getElem?_getD];simp[Array.getElem!_eq_getD,Array.getD_eq_getD_getElem?]
  rw[g,g];exact this
theorem iY(cf:α->α->Int)(hO:SWO (ltOf cf))(l:List α):(fQ cf l).length=l.length:=(du cf hO l).1.length_eq
def bW(e:α->List Int)(l:List α):Nat->List A:=fun i=>(e (l.getD i default)).map fun n=>.int .i64 n
def gp(e:α->List Int)(x:α):List Value:=(e x).map fun n=>.int .i64 n
end

theorem GP(dS:¬(default:cF).ns){w w':World}(h:Bw w.heap.size w w'):∃q os',w'=grow (w.drewN q) os':=by
 refine⟨w'.drawn-w.drawn,w'.heap.extract w.heap.size w'.heap.size,?_⟩;obtain⟨heap,tape,drawn,os,output⟩:=w;obtain⟨GR,tape',drawn',os',ZX⟩:=w';obtain⟨h1,h2,h3,h4,h5,h6⟩:=h;simp only at h1 h2 h3 h4 h5 h6;have h6:=h6.resolve_left dS;subst h1;subst h2;subst h3
 have e:GR=heap++GR.extract heap.size GR.size:=by
  apply Array.ext_getElem?;intro k;rw[Array.getElem?_append];split
  ·rename_i hk;exact h5 k hk
  ·rename_i hk;rw[Array.getElem?_extract];by_cases nu:k<GR.size
   ·rw[if_pos (by omega)];congr 1;omega
   ·rw[Array.getElem?_eq_none (by omega)];split
    ·rw[Array.getElem?_eq_none (by omega)]
    ·rfl
 simp only[grow,World.drewN,World.mk.injEq,and_true,true_and];exact⟨e,by omega⟩

section
variable {P:Program} {ρ : Go.Shelf.Ren} {G:aK} {α : Type} [Inhabited α]

theorem aM.qT(dS:¬(default:cF).ns)(L:SlLaysF0.n6 P ρ)(k:Nat)(k0:0<k)(aE:∀w,(isAgg (ρ.t 24)).run P w=.ok true w)(zE:∀w,(Go.sizeOf (ρ.t 24)).run P w=.ok k w)
  (e:α->List Int) (hk:∀x,(e x).length=k) (cf:α->α->Int) (hO:SWO (ltOf cf)) (g:FuncId) (sK:List A) (mw:sK.any (cY 4)=false)
  (hc:∀x y,aa P G g ([.agg ((e x).map fun n=>.int .i64 n),.agg ((e y).map fun n=>.int .i64 n)]++sK) (.int .i64 (cf x y)))
  (hfn : ∃ fn cd, P.funcs[ρ.f 6]? = some fn ∧ fn.body = some cd ∧ (fn.name == "runtime.NumGoroutine") = false) (ty : TypeId) (l : List α) (hl : l.length ≤ 1000000) (hne : 0 < l.length) :
  aM P G (ρ.f 6) [.own 1,.fn g sK] [.ghost [.own 1,.aj,.aj],.row ty k l.length (bW e l)] (.tup []) [.ghost [.own 1,.aj,.aj],.row ty k l.length (bW e (fQ cf l))]:=by
 refine⟨hfn,?_⟩;intro im w vs gs ids hG hs;have xT:vs.length=2:=by have:=hs.len;simpa using this
 obtain⟨v0,v1,rfl⟩:∃v0 v1,vs=[v0,v1]:=by
  match vs,xT with
  | [a,b],_=>exact⟨a,b,rfl⟩
 have r0:Rel ids _ w (.own 1) v0:=hs.cc 0 (by simp) (by simp);have r1:Rel ids _ w (.fn g sK) v1:=hs.cc 1 (by simp) (by simp);have qv:ids.length=2:=by have:=hs.aU;simpa using this
 have Cn:=hs.bP 1 (by simp) (by omega);simp only[List.getElem_cons_succ,List.getElem_cons_zero] at Cn
 obtain⟨p,cap,cD,Co,Lr,rfl⟩:∃p cap,ids[1]?=some (.lv p)/\(p.n<=cap/\cap<=maxLen)/\cap*p.sz=p.k/\v0=.slice (some ⟨p.aq,0,none⟩) p.n cap:=by
  rcases hs.gC r0 (by simp) with⟨h1,_⟩|h
  ·rw[List.getElem?_eq_getElem (by omega)] at h1;rw[Option.some.inj h1] at Cn;have:l.length=0:=Cn;omega
  ·exact h
 have zY:ids[1]'(by omega)=.lv p:=by rw[List.getElem?_eq_getElem (by omega)] at cD;exact Option.some.inj cD
 rw[zY] at Cn;obtain⟨g1,g2,cur,g3,g4,g5,g6,g7⟩:=Cn;obtain⟨us,rfl,Pq,T'⟩:=r1.ig;rw[g2];have SC:=hs.au p (List.mem_of_getElem? cD) p.aq (.inl rfl);have Xm:iw ids p.aq:=⟨p,List.mem_of_getElem? cD,.inl rfl⟩;have GN:∀x,(gp e x).length=k:=fun x=>by simp[gp,hk]
 have xv:∀x,∀v∈gp e x,v.oneCell'=true:=fun x v hv=>by
  simp only[gp,List.mem_map] at hv;obtain⟨n,_,rfl⟩:=hv;rfl
 have Aa:∀t,t<l.length*k->cur[t]?=some ((gp e (l.getD (t/k) default)).getD (t%k) undef):=by
  intro t ht;obtain⟨q1,q2,q3⟩:=j9 ht rfl rfl;have aH:t<cur.size:=by omega
  have GO:(bW e l (t/k)).length=k:=g6 _ q1;have:=(g7 (t/k) (t%k) q1 (by rw[GO];exact q2) (by rw[q3];exact aH)).1;simp only[q3] at this;have ZW:t%k<(e (l.getD (t/k) default)).length:=by rw[hk];exact q2
  have e1:(bW e l (t/k))[t%k]'(by rw[GO];exact q2)=.int .i64 ((e (l.getD (t/k) default))[t%k]):=by simp only[bW,List.getElem_map]
  rw[e1] at this
  have hv:cur[t]=.int .i64 ((e (l.getD (t/k) default))[t%k]):=by
   generalize cur[t]=vv at this;cases this;rfl
  rw[Array.getElem?_eq_getElem aH,hv];have Ls:t%k<(gp e (l.getD (t/k) default)).length:=by rw[GN];exact q2
  rw[List.getD_eq_getElem?_getD (l:=gp e (l.getD (t/k) default)),List.getElem?_eq_getElem Ls,Option.getD_some];simp only[gp,List.getElem_map]
 have gT:∀i,l.toArray[i]! = l.getD i default:=fun i=>by
  rw[List.getD_eq_getElem?_getD];simp[Array.getElem!_eq_getD,Array.getD_eq_getD_getElem?]
 have hH:HoldsK (gp e) k w p.aq 0 l.toArray:=by
  intro j hj;rw[size_flatK] at hj;have hj:j<l.length*k:=by simpa using hj
  constructor
  ·rw[Nat.zero_add,cell_of_row w p.aq j cur ty (0,0) g3,Aa j hj,id,get_flatK _ _ _ _ (by simpa using hj),gT];obtain⟨q1,q2,q3⟩:=j9 hj rfl rfl;have:j%k<(gp e (l.getD (j/k) default)).length:=by rw[GN];exact q2
   rw[List.getD_eq_getElem?_getD (l:=gp e (l.getD (j/k) default)),List.getElem?_eq_getElem this,Option.getD_some,getElem!_pos (gp e (l.getD (j/k) default)) _ this]
  ·unfold World.frozen?;simp only[g3];simp
 have XO:=hG.1
 have v8:∀(m:Nat) (dk:Array α) (os:Array Obj) (b:Nat),b<w.heap.size->b≠p.aq->(sortWorldK (gp e) k w p.aq 0 m dk os).heap[b]?=w.heap[b]?:=by
  intro m dk os b hb XP;unfold sortWorldK;rw[heap_grow_old _ _ (by show b<(putRowK (gp e) k (Go.Sort.ahead w m) p.aq 0 dk).heap.size;rw[size_putRowK];exact hb)];show((Go.Sort.ahead w m).heap.modify p.aq _)[b]?=_;rw[Array.getElem?_modify,if_neg (fun h=>XP h.symm)];rfl
 have Ua:CmpLays P g us.toArray (gp e) k cf p.aq 0 l.toArray.size w:=by
  intro m os dk hdk x y;have cj:=size_sortWorldK_c (gp e) k w p.aq 0 m dk os;have:=(hc x y).2 (av ⟨w,im,iw ids,gs⟩ ids w) (sortWorldK (gp e) k w p.aq 0 m dk os) ([.agg (gp e x).toArray,.agg (gp e y).toArray]++us) (fun b hb=>Nat.lt_of_lt_of_le (cU hs hb) cj) ?_ (by simp[Pq]) ?_
  ·refine bD (by simpa using this) ?_;rintro e' w' ⟨v,rfl,hv,hb⟩;cases hv;exact⟨rfl,GP dS hb⟩
  ·refine G.st w _ XO cj (fun b hb=>v8 m dk os b (Nat.lt_of_lt_of_le hb (G.lt _ XO)) ?_);intro e';have:=hG.2 p.aq Xm;omega
  ·have Lu:∀(x:α) (bL:Nat->Prop) (W:World),aA bL W (.agg ((e x).map fun n=>.int .i64 n)) (.agg (gp e x).toArray):=by
    intro x bL W;refine .agg _ _ (by simp[gp]) (fun v hv=>xv x v hv) (fun j h h'=>?_);simp only[gp,List.getElem_map];exact .int _ _
   intro j h h';rcases j with _|_|j
   ·exact Lu x _ _
   ·exact Lu y _ _
   ·have hj:j<sK.length:=by simpa using h
    have:=T' j hj (by omega)
    have bm:cY 4 sK[j]=false:=by
     have:=List.any_eq_false.1 mw _ (List.getElem_mem hj);simpa using this
    have:=cS (ids:=ids) 4 _ _ bm this;refine(this.mono (fun _ h=>h) (fun b hb=>v8 m dk os b (cU hs hb) ?_));intro e';subst e';rcases hb with hb|⟨_,_,hb⟩
    ·exact hs.rX hb SC.1
    ·exact hb p (List.mem_of_getElem? cD) (.inl rfl)
 have eg:∀args w,(callFunc g args).run P w=.ok (.enter g args) w:=by
  intro args w;obtain ⟨fn,cd,h1,h2,h3⟩:=(hc default default).1;have h4 : ¬ fn.name = "runtime.NumGoroutine" := by simpa using h3
  simp[callFunc,h1,h2,h4]
 have Cp:=AnyQ.slices_SortFunc_eq L k aE zE (gp e) GN xv cf hO g us.toArray p.aq 0 cap l.toArray w eg Ua hH SC.2 (by simp;omega);refine bD (by simpa using Cp) ?_;rintro e' w' ⟨rfl,n,os,jT⟩;refine⟨.tuple #[],ids,rfl,?_⟩
 have gS:(pdq (ltOf cf) l.toArray 0 l.toArray.size (Go.Lib.bitLen l.toArray.size) true true).size=l.length:=by
  have:=iY cf hO l;unfold fQ at this;simpa using this
 obtain⟨d',gD⟩:∃d',d'=pdq (ltOf cf) l.toArray 0 l.toArray.size (Go.Lib.bitLen l.toArray.size) true true:=⟨_,rfl⟩
 have Ub:∀i,(fQ cf l).getD i default=d'[i]!:=by
  intro i;unfold fQ;rw[<-gD,List.getD_eq_getElem?_getD];simp[Array.getElem!_eq_getD,Array.getD_eq_getD_getElem?]
 have jT:w'=sortWorldK (gp e) k w p.aq 0 n d' os:=by rw[jT,gD];simp
 rw[<-gD] at gS;have cj:w.heap.size<=w'.heap.size:=by rw[jT];exact size_sortWorldK_c (gp e) k w p.aq 0 n d' os
 have BN:∀b,b<w.heap.size->b≠p.aq->w'.heap[b]?=w.heap[b]?:=fun b h1 h2=>by rw[jT];exact v8 n d' os b h1 h2
 have Cq:w'.heap[p.aq]?=some (.cells (putCells id 0 (flatK (gp e) k d') cur) ty (0,0)):=by
  rw[jT];unfold sortWorldK;rw[heap_grow_old _ _ (by show p.aq<(putRowK (gp e) k (Go.Sort.ahead w n) p.aq 0 d').heap.size;rw[size_putRowK];exact SC.2)];show((Go.Sort.ahead w n).heap.modify p.aq _)[p.aq]?=_;rw[Array.getElem?_modify,if_pos rfl];show Option.map _ (w.heap[p.aq]?)=_;rw[g3];rfl
 have gk:∀b,b<w.heap.size->(∀(b':Nat) (q:Id),ids[b']?=some (.lv q)->¬q.has b)->w'.heap[b]?=w.heap[b]?:=fun b h1 h2=>BN b h1 (fun e=>h2 1 p cD (.inl e))
 have bm:∀q,eU.lv q∈ids->∀x,q.has x->x<w'.heap.size/\(w.heap.size<=x\/∃(b:Nat) (p:Id),ids[b]?=some (.lv p)/\p.has x):=by
  intro q hq x hx;obtain⟨i,hi⟩:=List.getElem?_of_mem hq;exact⟨Nat.lt_of_lt_of_le (hs.au q hq x hx).2 cj,.inr ⟨i,q,hi,hx⟩⟩
 have Uc:fL w.drawn w'.drawn:=.of (by rw[jT];exact Nat.le_add_right _ _);obtain⟨ez,dH⟩:=hs.de (w':=w') (ab:=ids) cj gk bm
 have ll:aJ ⟨w,im,iw ids,gs⟩ [.aj,.aj] [.ghost [.own 1,.aj,.aj],.row ty k l.length (bW e (fQ cf l))] ⟨[.slice (some ⟨p.aq,0,none⟩) p.n cap,.func (.func g) #[] us.toArray].toArray,[]⟩ w' ids:=by
  refine hs.nH (Bu:=Uc) (by rw[jT];rfl) (by rw[jT];rfl) (by rw[jT];rfl) cj gk bm (fun _ h=>h) hs.al rfl (by simpa using qv) ?_ ?_
  ·intro i h h';rcases i with _|_|i
   ·exact .aL (.aj _)
   ·exact .aL (.aj _)
   ·simp at h;omega
  ·intro b h h';rcases b with _|_|b
   ·have IW:=hs.bP 0 (by simp) (by omega);refine IW.mono ez dH (fun _ _ h _=>h) ?_;intro q hq x hx;rw[hq] at IW;exact IW.elim
   ·simp only[List.getElem_cons_succ,List.getElem_cons_zero,zY];refine⟨g1,g2,_,Cq,by simp[putCells,g4],g5,fun i _=>by simp[bW,hk],?_⟩;intro i j hi hj cH;have EV:j<k:=by simpa[bW,hk] using hj
    have aH:i*k+j<l.length*k:=by
     have:=Nat.mul_le_mul_right k (show i+1<=l.length from hi);rw[Nat.add_mul] at this;omega
    have XS:(flatK (gp e) k d').size=l.length*k:=by rw[size_flatK,gS]
    have hv:(putCells id 0 (flatK (gp e) k d') cur)[i*k+j]=.int .i64 ((e ((fQ cf l).getD i default))[j]'(by rw[hk];exact EV)):=by
     simp only[putCells,Array.getElem_mapIdx,XS];rw[if_pos ⟨Nat.zero_le _,by omega⟩,Nat.sub_zero,id,get_flatK _ _ _ _ (by rw[gS];exact aH)];have e1:(i*k+j)/k=i:=by rw[Nat.mul_comm,Nat.mul_add_div k0,Nat.div_eq_of_lt EV];simp
     have e2:(i*k+j)%k=j:=by rw[Nat.mul_comm,Nat.mul_add_mod,Nat.mod_eq_of_lt EV]
     rw[e1,e2,<-Ub];have:j<(gp e ((fQ cf l).getD i default)).length:=by rw[GN];exact EV
     rw[getElem!_pos (gp e ((fQ cf l).getD i default)) j this];simp only[gp,List.getElem_map]
    rw[hv];refine⟨?_,rfl⟩;simp only[bW,List.getElem_map];exact .int _ _
   ·simp at h;omega
 refine⟨rfl,rfl,?_,ll.aU,ll.bP,ll.al,ll.au,ll.frame,ll.fh,ll.cV⟩;intro i h h';rcases i with _|i
 ·exact .aL (.tup [] [] rfl (fun _ h=>by simp at h))
 ·simp at h
end
end Go.Proofs.YtijddijloelacaaGreat.Am

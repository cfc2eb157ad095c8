/-
  The walks and plain laws, part 1.
-/
import Derived.Test.YtijddijloelacaaGreatNetPiecesm3
import Derived.Shelf.SlSortCmp.WholeK
set_option linter.unusedSimpArgs false
set_option linter.unusedSectionVars false
set_option linter.unusedVariables false
namespace Go.Proofs.YtijddijloelacaaGreat.Am
variable [Inhabited cc]
open Go.RowKit (Below)
open Go.Proofs Go.Shelf Go.Sort Go.Lib
section
variable {α : Type} [Inhabited α]
/-- The sorted row (the library's own order of equals). -/
def eL(cf:α->α->Int)(l:List α):List α:=(pdq (ltOf cf) l.toArray 0 l.toArray.size (Go.Lib.bitLen l.toArray.size) true true).toList
theorem cY(cf:α->α->Int)(hO:SWO (ltOf cf))(l:List α):(eL cf l).Perm l/\∀i j,i<j->j<l.length->ltOf cf ((eL cf l).getD j default) ((eL cf l).getD i default)=false:=by
 obtain⟨⟨h1,h2,h3⟩,h4⟩:=pdq_sorts (ltOf cf) hO l.toArray 0 l.toArray.size (Go.Lib.bitLen l.toArray.size) true true (Nat.zero_le _) (Nat.le_refl _) (Or.inl rfl);constructor
 ·have e1:∀d:Array α,(d.extract 0 d.size).toList=d.toList:=fun d=>by simp
  rw[e1] at h3;have:∀d:Array α,d.size=l.toArray.size->d.extract 0 l.toArray.size=d:=fun d h=>by rw[<-h];simp
  rw[this _ h1] at h3;exact h3
 ·intro i j kK hj;have:=h4 i j (Nat.zero_le _) kK (by simpa using hj)
  have g:∀t,(eL cf l).getD t default=(pdq (ltOf cf) l.toArray 0 l.toArray.size (Go.Lib.bitLen l.toArray.size) true true)[t]!:=by
   intro t;unfold eL;rw[List.getD_eq_getElem?_getD];simp[Array.getElem!_eq_getD,Array.getD_eq_getD_getElem?]
  rw[g,g];exact this
theorem gW(cf:α->α->Int)(hO:SWO (ltOf cf))(l:List α):(eL cf l).length=l.length:=(cY cf hO l).1.length_eq
def bF(e:α->List Int)(l:List α):Nat->List A:=fun i=>(e (l.getD i default)).map fun n=>.int .i64 n
def fu(e:α->List Int)(x:α):List Value:=(e x).map fun n=>.int .i64 n
end

theorem DA(dA:¬(default:cc).ns){w w':World}(h:Bw w.heap.size w w'):∃q Yz,w'=grow (w.drewN q) Yz:=by
 refine⟨w'.drawn-w.drawn,w'.heap.extract w.heap.size w'.heap.size,?_⟩;obtain⟨heap,tape,drawn,os,output⟩:=w;obtain⟨DB,YA,Wm,Yz,Vm⟩:=w';obtain⟨h1,h2,h3,h4,h5,h6⟩:=h;simp only at h1 h2 h3 h4 h5 h6;have h6:=h6.resolve_left dA;subst h1;subst h2;subst h3
 have e:DB=heap++DB.extract heap.size DB.size:=by
  apply Array.ext_getElem?;intro k;rw[Array.getElem?_append];split
  ·rename_i hk;exact h5 k hk
  ·rename_i hk;rw[Array.getElem?_extract];by_cases ot:k<DB.size
   ·rw[if_pos (by omega)];congr 1;omega
   ·rw[Array.getElem?_eq_none (by omega)];split
    ·rw[Array.getElem?_eq_none (by omega)]
    ·rfl
 simp only[grow,World.drewN,World.mk.injEq,and_true,true_and];exact⟨e,by omega⟩

section
variable {P:Program} {ρ : Go.Shelf.Ren} {G:aG} {α : Type} [Inhabited α]

theorem aM.oA(dA:¬(default:cc).ns)(L:SlLaysF0.n6 P ρ)(k:Nat)(k0:0<k)(aE:∀w,(isAgg (ρ.t 24)).run P w=.ok true w)(zE:∀w,(Go.sizeOf (ρ.t 24)).run P w=.ok k w)
  (e:α->List Int) (hk:∀x,(e x).length=k) (cf:α->α->Int) (hO:SWO (ltOf cf)) (g:FuncId) (pI:List A) (kQ:pI.any (cL 4)=false)
  (hc:∀x y,aa P G g ([.agg ((e x).map fun n=>.int .i64 n),.agg ((e y).map fun n=>.int .i64 n)]++pI) (.int .i64 (cf x y)))
  (hfn : ∃ fn cd, P.funcs[ρ.f 6]? = some fn ∧ fn.body = some cd ∧ (fn.name == "runtime.NumGoroutine") = false) (ty : TypeId) (l : List α) (hl : l.length ≤ 1000000) (hne : 0 < l.length) :
  aM P G (ρ.f 6) [.own 1,.fn g pI] [.ghost [.own 1,.af,.af],.row ty k l.length (bF e l)] (.tup []) [.ghost [.own 1,.af,.af],.row ty k l.length (bF e (eL cf l))]:=by
 refine⟨hfn,?_⟩;intro im w vs gs ids hG hs;have vw:vs.length=2:=by have:=hs.len;simpa using this
 obtain⟨v0,v1,rfl⟩:∃v0 v1,vs=[v0,v1]:=by
  match vs,vw with
  | [a,b],_=>exact⟨a,b,rfl⟩
 have r0:Rel ids _ w (.own 1) v0:=hs.bI 0 (by simp) (by simp);have r1:Rel ids _ w (.fn g pI) v1:=hs.bI 1 (by simp) (by simp);have wM:ids.length=2:=by have:=hs.aL;simpa using this
 have yG:=hs.bC 1 (by simp) (by omega);simp only[List.getElem_cons_succ,List.getElem_cons_zero] at yG
 obtain⟨p,cap,bZ,yH,Hs,rfl⟩:∃p cap,ids[1]?=some (.lv p)/\(p.n<=cap/\cap<=maxLen)/\cap*p.sz=p.k/\v0=.slice (some ⟨p.ao,0,none⟩) p.n cap:=by
  rcases hs.fL r0 (by simp) with⟨h1,_⟩|h
  ·rw[List.getElem?_eq_getElem (by omega)] at h1;rw[Option.some.inj h1] at yG;have:l.length=0:=yG;omega
  ·exact h
 have wN:ids[1]'(by omega)=.lv p:=by rw[List.getElem?_eq_getElem (by omega)] at bZ;exact Option.some.inj bZ
 rw[wN] at yG;obtain⟨g1,g2,cur,g3,g4,g5,g6,g7⟩:=yG;obtain⟨us,rfl,LP,PE⟩:=r1.gi;rw[g2];have He:=hs.ar p (List.mem_of_getElem? bZ) p.ao (.inl rfl);have Ta:gj ids p.ao:=⟨p,List.mem_of_getElem? bZ,.inl rfl⟩;have DD:∀x,(fu e x).length=k:=fun x=>by simp[fu,hk]
 have yI:∀x,∀v∈fu e x,v.oneCell'=true:=fun x v hv=>by
  simp only[fu,List.mem_map] at hv;obtain⟨n,_,rfl⟩:=hv;rfl
 have wO:∀t,t<l.length*k->cur[t]?=some ((fu e (l.getD (t/k) default)).getD (t%k) undef):=by
  intro t ht;obtain⟨q1,q2,q3⟩:=ja ht rfl rfl;have aD:t<cur.size:=by omega
  have Ht:(bF e l (t/k)).length=k:=g6 _ q1;have:=(g7 (t/k) (t%k) q1 (by rw[Ht];exact q2) (by rw[q3];exact aD)).1;simp only[q3] at this;have Vn:t%k<(e (l.getD (t/k) default)).length:=by rw[hk];exact q2
  have e1:(bF e l (t/k))[t%k]'(by rw[Ht];exact q2)=.int .i64 ((e (l.getD (t/k) default))[t%k]):=by simp only[bF,List.getElem_map]
  rw[e1] at this
  have hv:cur[t]=.int .i64 ((e (l.getD (t/k) default))[t%k]):=by
   generalize cur[t]=vv at this;cases this;rfl
  rw[Array.getElem?_eq_getElem aD,hv];have Hu:t%k<(fu e (l.getD (t/k) default)).length:=by rw[DD];exact q2
  rw[List.getD_eq_getElem?_getD (l:=fu e (l.getD (t/k) default)),List.getElem?_eq_getElem Hu,Option.getD_some];simp only[fu,List.getElem_map]
 have rK:∀i,l.toArray[i]! = l.getD i default:=fun i=>by
  rw[List.getD_eq_getElem?_getD];simp[Array.getElem!_eq_getD,Array.getD_eq_getD_getElem?]
 have hH:HoldsK (fu e) k w p.ao 0 l.toArray:=by
  intro j hj;rw[size_flatK] at hj;have hj:j<l.length*k:=by simpa using hj
  constructor
  ·rw[Nat.zero_add,cell_of_row w p.ao j cur ty (0,0) g3,wO j hj,id,get_flatK _ _ _ _ (by simpa using hj),rK];obtain⟨q1,q2,q3⟩:=ja hj rfl rfl;have:j%k<(fu e (l.getD (j/k) default)).length:=by rw[DD];exact q2
   rw[List.getD_eq_getElem?_getD (l:=fu e (l.getD (j/k) default)),List.getElem?_eq_getElem this,Option.getD_some,getElem!_pos (fu e (l.getD (j/k) default)) _ this]
  ·unfold World.frozen?;simp only[g3];simp
 have Tb:=hG.1
 have sY:∀(m:Nat) (dk:Array α) (os:Array Obj) (b:Nat),b<w.heap.size->b≠p.ao->(sortWorldK (fu e) k w p.ao 0 m dk os).heap[b]?=w.heap[b]?:=by
  intro m dk os b hb Tc;unfold sortWorldK;rw[heap_grow_old _ _ (by show b<(putRowK (fu e) k (Go.Sort.ahead w m) p.ao 0 dk).heap.size;rw[size_putRowK];exact hb)];show((Go.Sort.ahead w m).heap.modify p.ao _)[b]?=_;rw[Array.getElem?_modify,if_neg (fun h=>Tc h.symm)];rfl
 have PF:CmpLays P g us.toArray (fu e) k cf p.ao 0 l.toArray.size w:=by
  intro m os dk ZK x y;have bL:=size_sortWorldK_c (fu e) k w p.ao 0 m dk os;have:=(hc x y).2 (au ⟨w,im,gj ids,gs⟩ ids w) (sortWorldK (fu e) k w p.ao 0 m dk os) ([.agg (fu e x).toArray,.agg (fu e y).toArray]++us) (fun b hb=>Nat.lt_of_lt_of_le (cB hs hb) bL) ?_ (by simp[LP]) ?_
  ·refine bl (by simpa using this) ?_;rintro e' w' ⟨v,rfl,hv,hb⟩;cases hv;exact⟨rfl,DA dA hb⟩
  ·refine G.st w _ Tb bL (fun b hb=>sY m dk os b (Nat.lt_of_lt_of_le hb (G.lt _ Tb)) ?_);intro e';have:=hG.2 p.ao Ta;omega
  ·have Hv:∀(x:α) (bo:Nat->Prop) (W:World),aw bo W (.agg ((e x).map fun n=>.int .i64 n)) (.agg (fu e x).toArray):=by
    intro x bo W;refine .agg _ _ (by simp[fu]) (fun v hv=>yI x v hv) (fun j h h'=>?_);simp only[fu,List.getElem_map];exact .int _ _
   intro j h h';rcases j with _|_|j
   ·exact Hv x _ _
   ·exact Hv y _ _
   ·have hj:j<pI.length:=by simpa using h
    have:=PE j hj (by omega)
    have aU:cL 4 pI[j]=false:=by
     have:=List.any_eq_false.1 kQ _ (List.getElem_mem hj);simpa using this
    have:=cz (ids:=ids) 4 _ _ aU this;refine(this.mono (fun _ h=>h) (fun b hb=>sY m dk os b (cB hs hb) ?_));intro e';subst e';rcases hb with hb|⟨_,_,hb⟩
    ·exact hs.pJ hb He.1
    ·exact hb p (List.mem_of_getElem? bZ) (.inl rfl)
 have eg:∀args w,(callFunc g args).run P w=.ok (.enter g args) w:=by
  intro args w;obtain ⟨fn,cd,h1,h2,h3⟩:=(hc default default).1;have h4 : ¬ fn.name = "runtime.NumGoroutine" := by simpa using h3
  simp[callFunc,h1,h2,h4]
 have yJ:=AnyQ.slices_SortFunc_eq L k aE zE (fu e) DD yI cf hO g us.toArray p.ao 0 cap l.toArray w eg PF hH He.2 (by simp;omega);refine bl (by simpa using yJ) ?_;rintro e' w' ⟨rfl,n,os,iW⟩;refine⟨.tuple #[],ids,rfl,?_⟩
 have gk:(pdq (ltOf cf) l.toArray 0 l.toArray.size (Go.Lib.bitLen l.toArray.size) true true).size=l.length:=by
  have:=gW cf hO l;unfold eL at this;simpa using this
 obtain⟨d',fM⟩:∃d',d'=pdq (ltOf cf) l.toArray 0 l.toArray.size (Go.Lib.bitLen l.toArray.size) true true:=⟨_,rfl⟩
 have PG:∀i,(eL cf l).getD i default=d'[i]!:=by
  intro i;unfold eL;rw[<-fM,List.getD_eq_getElem?_getD];simp[Array.getElem!_eq_getD,Array.getD_eq_getD_getElem?]
 have iW:w'=sortWorldK (fu e) k w p.ao 0 n d' os:=by rw[iW,fM];simp
 rw[<-fM] at gk;have bL:w.heap.size<=w'.heap.size:=by rw[iW];exact size_sortWorldK_c (fu e) k w p.ao 0 n d' os
 have yK:∀b,b<w.heap.size->b≠p.ao->w'.heap[b]?=w.heap[b]?:=fun b h1 h2=>by rw[iW];exact sY n d' os b h1 h2
 have yL:w'.heap[p.ao]?=some (.cells (putCells id 0 (flatK (fu e) k d') cur) ty (0,0)):=by
  rw[iW];unfold sortWorldK;rw[heap_grow_old _ _ (by show p.ao<(putRowK (fu e) k (Go.Sort.ahead w n) p.ao 0 d').heap.size;rw[size_putRowK];exact He.2)];show((Go.Sort.ahead w n).heap.modify p.ao _)[p.ao]?=_;rw[Array.getElem?_modify,if_pos rfl];show Option.map _ (w.heap[p.ao]?)=_;rw[g3];rfl
 have fI:∀b,b<w.heap.size->(∀(b':Nat) (q:Id),ids[b']?=some (.lv q)->¬q.has b)->w'.heap[b]?=w.heap[b]?:=fun b h1 h2=>yK b h1 (fun e=>h2 1 p bZ (.inl e))
 have aU:∀q,dT.lv q∈ids->∀x,q.has x->x<w'.heap.size/\(w.heap.size<=x\/∃(b:Nat) (p:Id),ids[b]?=some (.lv p)/\p.has x):=by
  intro q hq x hx;obtain⟨i,hi⟩:=List.getElem?_of_mem hq;exact⟨Nat.lt_of_lt_of_le (hs.ar q hq x hx).2 bL,.inr ⟨i,q,hi,hx⟩⟩
 have PH:eM w.drawn w'.drawn:=.of (by rw[iW];exact Nat.le_add_right _ _);obtain⟨dJ,dB⟩:=hs.cP (w':=w') (ab:=ids) bL fI aU
 have kL:aF ⟨w,im,gj ids,gs⟩ [.af,.af] [.ghost [.own 1,.af,.af],.row ty k l.length (bF e (eL cf l))] ⟨[.slice (some ⟨p.ao,0,none⟩) p.n cap,.func (.func g) #[] us.toArray].toArray,[]⟩ w' ids:=by
  refine hs.lU (yM:=PH) (by rw[iW];rfl) (by rw[iW];rfl) (by rw[iW];rfl) bL fI aU (fun _ h=>h) hs.aj rfl (by simpa using wM) ?_ ?_
  ·intro i h h';rcases i with _|_|i
   ·exact .aI (.af _)
   ·exact .aI (.af _)
   ·simp at h;omega
  ·intro b h h';rcases b with _|_|b
   ·have Fx:=hs.bC 0 (by simp) (by omega);refine Fx.mono dJ dB (fun _ _ h _=>h) ?_;intro q hq x hx;rw[hq] at Fx;exact Fx.elim
   ·simp only[List.getElem_cons_succ,List.getElem_cons_zero,wN];refine⟨g1,g2,_,yL,by simp[putCells,g4],g5,fun i _=>by simp[bF,hk],?_⟩;intro i j hi hj cj;have DE:j<k:=by simpa[bF,hk] using hj
    have aD:i*k+j<l.length*k:=by
     have:=Nat.mul_le_mul_right k (show i+1<=l.length from hi);rw[Nat.add_mul] at this;omega
    have Td:(flatK (fu e) k d').size=l.length*k:=by rw[size_flatK,gk]
    have hv:(putCells id 0 (flatK (fu e) k d') cur)[i*k+j]=.int .i64 ((e ((eL cf l).getD i default))[j]'(by rw[hk];exact DE)):=by
     simp only[putCells,Array.getElem_mapIdx,Td];rw[if_pos ⟨Nat.zero_le _,by omega⟩,Nat.sub_zero,id,get_flatK _ _ _ _ (by rw[gk];exact aD)];have e1:(i*k+j)/k=i:=by rw[Nat.mul_comm,Nat.mul_add_div k0,Nat.div_eq_of_lt DE];simp
     have e2:(i*k+j)%k=j:=by rw[Nat.mul_comm,Nat.mul_add_mod,Nat.mod_eq_of_lt DE]
     rw[e1,e2,<-PG];have:j<(fu e ((eL cf l).getD i default)).length:=by rw[DD];exact DE
     rw[getElem!_pos (fu e ((eL cf l).getD i default)) j this];simp only[fu,List.getElem_map]
    rw[hv];refine⟨?_,rfl⟩;simp only[bF,List.getElem_map];exact .int _ _
   ·simp at h;omega
 refine⟨rfl,rfl,?_,kL.aL,kL.bC,kL.aj,kL.ar,kL.frame,kL.dZ,kL.cE⟩;intro i h h';rcases i with _|i
 ·exact .aI (.tup [] [] rfl (fun _ h=>by simp at h))
 ·simp at h
end
end Go.Proofs.YtijddijloelacaaGreat.Am

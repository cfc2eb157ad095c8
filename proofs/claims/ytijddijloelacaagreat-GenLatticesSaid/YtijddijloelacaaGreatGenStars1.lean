/-
  The walks and plain laws, part 1.
-/
import Derived.Test.YtijddijloelacaaGreatGenStarsm3
import Derived.Shelf.SlSortCmp.WholeK
set_option linter.unusedSimpArgs false
set_option linter.unusedSectionVars false
set_option linter.unusedVariables false
namespace Go.Proofs.YtijddijloelacaaGreat.Am
variable [Inhabited bY]
open Go.RowKit (Below)
open Go.Proofs Go.Shelf Go.Sort Go.Lib
section
variable {α : Type} [Inhabited α]
/-- The sorted row (the library's own order of equals). -/
def ee(cf:α->α->Int)(l:List α):List α:=(pdq (ltOf cf) l.toArray 0 l.toArray.size (Go.Lib.bitLen l.toArray.size) true true).toList
theorem cP(cf:α->α->Int)(hO:SWO (ltOf cf))(l:List α):(ee cf l).Perm l/\∀i j,i<j->j<l.length->ltOf cf ((ee cf l).getD j default) ((ee cf l).getD i default)=false:=by
 obtain⟨⟨h1,h2,h3⟩,h4⟩:=pdq_sorts (ltOf cf) hO l.toArray 0 l.toArray.size (Go.Lib.bitLen l.toArray.size) true true (Nat.zero_le _) (Nat.le_refl _) (Or.inl rfl);constructor
 ·have e1:∀d:Array α,(d.extract 0 d.size).toList=d.toList:=fun d=>by simp
  rw[e1] at h3;have:∀d:Array α,d.size=l.toArray.size->d.extract 0 l.toArray.size=d:=fun d h=>by rw[<-h];simp
  rw[this _ h1] at h3;exact h3
 ·intro i j kU hj;have:=h4 i j (Nat.zero_le _) kU (by simpa using hj)
  have g:∀t,(ee cf l).getD t default=(pdq (ltOf cf) l.toArray 0 l.toArray.size (Go.Lib.bitLen l.toArray.size) true true)[t]!:=by
   intro t;unfold ee;rw[List.getD_eq_getElem?_getD];simp[Array.getElem!_eq_getD,Array.getD_eq_getD_getElem?]
  rw[g,g];exact this
theorem gF(cf:α->α->Int)(hO:SWO (ltOf cf))(l:List α):(ee cf l).length=l.length:=(cP cf hO l).1.length_eq
def bC(e:α->List Int)(l:List α):Nat->List A:=fun i=>(e (l.getD i default)).map fun n=>.int .i64 n
def eN(e:α->List Int)(x:α):List Value:=(e x).map fun n=>.int .i64 n
end

theorem Cc(dn:¬(default:bY).ns){w w':World}(h:Bw w.heap.size w w'):∃q VK,w'=grow (w.drewN q) VK:=by
 refine⟨w'.drawn-w.drawn,w'.heap.extract w.heap.size w'.heap.size,?_⟩;obtain⟨heap,tape,drawn,os,output⟩:=w;obtain⟨Cd,VL,TZ,VK,Te⟩:=w';obtain⟨h1,h2,h3,h4,h5,h6⟩:=h;simp only at h1 h2 h3 h4 h5 h6;have h6:=h6.resolve_left dn;subst h1;subst h2;subst h3
 have e:Cd=heap++Cd.extract heap.size Cd.size:=by
  apply Array.ext_getElem?;intro k;rw[Array.getElem?_append];split
  ·rename_i hk;exact h5 k hk
  ·rename_i hk;rw[Array.getElem?_extract];by_cases nz:k<Cd.size
   ·rw[if_pos (by omega)];congr 1;omega
   ·rw[Array.getElem?_eq_none (by omega)];split
    ·rw[Array.getElem?_eq_none (by omega)]
    ·rfl
 simp only[grow,World.drewN,World.mk.injEq,and_true,true_and];exact⟨e,by omega⟩

section
variable {P:Program} {ρ : Go.Shelf.Ren} {G:aG} {α : Type} [Inhabited α]

theorem aL.nD(dn:¬(default:bY).ns)(L:SlLaysF0.n6 P ρ)(k:Nat)(k0:0<k)(aE:∀w,(isAgg (ρ.t 24)).run P w=.ok true w)(zE:∀w,(Go.sizeOf (ρ.t 24)).run P w=.ok k w)
  (e:α->List Int) (hk:∀x,(e x).length=k) (cf:α->α->Int) (hO:SWO (ltOf cf)) (g:FuncId) (oL:List A) (ke:oL.any (cE 4)=false)
  (hc:∀x y,aa P G g ([.agg ((e x).map fun n=>.int .i64 n),.agg ((e y).map fun n=>.int .i64 n)]++oL) (.int .i64 (cf x y)))
  (hfn : ∃ fn cd, P.funcs[ρ.f 6]? = some fn ∧ fn.body = some cd ∧ (fn.name == "runtime.NumGoroutine") = false) (ty : TypeId) (l : List α) (hl : l.length ≤ 1000000) (hne : 0 < l.length) :
  aL P G (ρ.f 6) [.own 1,.fn g oL] [.ghost [.own 1,.ae,.ae],.row ty k l.length (bC e l)] (.tup []) [.ghost [.own 1,.ae,.ae],.row ty k l.length (bC e (ee cf l))]:=by
 refine⟨hfn,?_⟩;intro im w vs gs ids hG hs;have uC:vs.length=2:=by have:=hs.len;simpa using this
 obtain⟨v0,v1,rfl⟩:∃v0 v1,vs=[v0,v1]:=by
  match vs,uC with
  | [a,b],_=>exact⟨a,b,rfl⟩
 have r0:Rel ids _ w (.own 1) v0:=hs.bE 0 (by simp) (by simp);have r1:Rel ids _ w (.fn g oL) v1:=hs.bE 1 (by simp) (by simp);have vB:ids.length=2:=by have:=hs.aK;simpa using this
 have xA:=hs.bu 1 (by simp) (by omega);simp only[List.getElem_cons_succ,List.getElem_cons_zero] at xA
 obtain⟨p,cap,bQ,xB,FW,rfl⟩:∃p cap,ids[1]?=some (.lv p)/\(p.n<=cap/\cap<=maxLen)/\cap*p.sz=p.k/\v0=.slice (some ⟨p.ao,0,none⟩) p.n cap:=by
  rcases hs.fk r0 (by simp) with⟨h1,_⟩|h
  ·rw[List.getElem?_eq_getElem (by omega)] at h1;rw[Option.some.inj h1] at xA;have:l.length=0:=xA;omega
  ·exact h
 have vC:ids[1]'(by omega)=.lv p:=by rw[List.getElem?_eq_getElem (by omega)] at bQ;exact Option.some.inj bQ
 rw[vC] at xA;obtain⟨g1,g2,cur,g3,g4,g5,g6,g7⟩:=xA;obtain⟨us,rfl,Kk,NC⟩:=r1.fM;rw[g2];have MM:=hs.ar p (List.mem_of_getElem? bQ) p.ao (.inl rfl);have QM:fN ids p.ao:=⟨p,List.mem_of_getElem? bQ,.inl rfl⟩;have Ce:∀x,(eN e x).length=k:=fun x=>by simp[eN,hk]
 have xC:∀x,∀v∈eN e x,v.oneCell'=true:=fun x v hv=>by
  simp only[eN,List.mem_map] at hv;obtain⟨n,_,rfl⟩:=hv;rfl
 have vD:∀t,t<l.length*k->cur[t]?=some ((eN e (l.getD (t/k) default)).getD (t%k) undef):=by
  intro t ht;obtain⟨q1,q2,q3⟩:=iE ht rfl rfl;have aI:t<cur.size:=by omega
  have FX:(bC e l (t/k)).length=k:=g6 _ q1;have:=(g7 (t/k) (t%k) q1 (by rw[FX];exact q2) (by rw[q3];exact aI)).1;simp only[q3] at this;have Tf:t%k<(e (l.getD (t/k) default)).length:=by rw[hk];exact q2
  have e1:(bC e l (t/k))[t%k]'(by rw[FX];exact q2)=.int .i64 ((e (l.getD (t/k) default))[t%k]):=by simp only[bC,List.getElem_map]
  rw[e1] at this
  have hv:cur[t]=.int .i64 ((e (l.getD (t/k) default))[t%k]):=by
   generalize cur[t]=vv at this;cases this;rfl
  rw[Array.getElem?_eq_getElem aI,hv];have FY:t%k<(eN e (l.getD (t/k) default)).length:=by rw[Ce];exact q2
  rw[List.getD_eq_getElem?_getD (l:=eN e (l.getD (t/k) default)),List.getElem?_eq_getElem FY,Option.getD_some];simp only[eN,List.getElem_map]
 have qB:∀i,l.toArray[i]! = l.getD i default:=fun i=>by
  rw[List.getD_eq_getElem?_getD];simp[Array.getElem!_eq_getD,Array.getD_eq_getD_getElem?]
 have hH:HoldsK (eN e) k w p.ao 0 l.toArray:=by
  intro j hj;rw[size_flatK] at hj;have hj:j<l.length*k:=by simpa using hj
  constructor
  ·rw[Nat.zero_add,cell_of_row w p.ao j cur ty (0,0) g3,vD j hj,id,get_flatK _ _ _ _ (by simpa using hj),qB];obtain⟨q1,q2,q3⟩:=iE hj rfl rfl;have:j%k<(eN e (l.getD (j/k) default)).length:=by rw[Ce];exact q2
   rw[List.getD_eq_getElem?_getD (l:=eN e (l.getD (j/k) default)),List.getElem?_eq_getElem this,Option.getD_some,getElem!_pos (eN e (l.getD (j/k) default)) _ this]
  ·unfold World.frozen?;simp only[g3];simp
 have QN:=hG.1
 have rG:∀(m:Nat) (dk:Array α) (os:Array Obj) (b:Nat),b<w.heap.size->b≠p.ao->(sortWorldK (eN e) k w p.ao 0 m dk os).heap[b]?=w.heap[b]?:=by
  intro m dk os b hb QO;unfold sortWorldK;rw[heap_grow_old _ _ (by show b<(putRowK (eN e) k (Go.Sort.ahead w m) p.ao 0 dk).heap.size;rw[size_putRowK];exact hb)];show((Go.Sort.ahead w m).heap.modify p.ao _)[b]?=_;rw[Array.getElem?_modify,if_neg (fun h=>QO h.symm)];rfl
 have ND:CmpLays P g us.toArray (eN e) k cf p.ao 0 l.toArray.size w:=by
  intro m os dk Xb x y;have bM:=size_sortWorldK_c (eN e) k w p.ao 0 m dk os;have:=(hc x y).2 (au ⟨w,im,fN ids,gs⟩ ids w) (sortWorldK (eN e) k w p.ao 0 m dk os) ([.agg (eN e x).toArray,.agg (eN e y).toArray]++us) (fun b hb=>Nat.lt_of_lt_of_le (cw hs hb) bM) ?_ (by simp[Kk]) ?_
  ·refine bg (by simpa using this) ?_;rintro e' w' ⟨v,rfl,hv,hb⟩;cases hv;exact⟨rfl,Cc dn hb⟩
  ·refine G.st w _ QN bM (fun b hb=>rG m dk os b (Nat.lt_of_lt_of_le hb (G.lt _ QN)) ?_);intro e';have:=hG.2 p.ao QM;omega
  ·have FZ:∀(x:α) (bl:Nat->Prop) (W:World),aw bl W (.agg ((e x).map fun n=>.int .i64 n)) (.agg (eN e x).toArray):=by
    intro x bl W;refine .agg _ _ (by simp[eN]) (fun v hv=>xC x v hv) (fun j h h'=>?_);simp only[eN,List.getElem_map];exact .int _ _
   intro j h h';rcases j with _|_|j
   ·exact FZ x _ _
   ·exact FZ y _ _
   ·have hj:j<oL.length:=by simpa using h
    have:=NC j hj (by omega)
    have aU:cE 4 oL[j]=false:=by
     have:=List.any_eq_false.1 ke _ (List.getElem_mem hj);simpa using this
    have:=cm (ids:=ids) 4 _ _ aU this;refine(this.mono (fun _ h=>h) (fun b hb=>rG m dk os b (cw hs hb) ?_));intro e';subst e';rcases hb with hb|⟨_,_,hb⟩
    ·exact hs.oM hb MM.1
    ·exact hb p (List.mem_of_getElem? bQ) (.inl rfl)
 have eg:∀args w,(callFunc g args).run P w=.ok (.enter g args) w:=by
  intro args w;obtain ⟨fn,cd,h1,h2,h3⟩:=(hc default default).1;have h4 : ¬ fn.name = "runtime.NumGoroutine" := by simpa using h3
  simp[callFunc,h1,h2,h4]
 have xD:=AnyQ.slices_SortFunc_eq L k aE zE (eN e) Ce xC cf hO g us.toArray p.ao 0 cap l.toArray w eg ND hH MM.2 (by simp;omega);refine bg (by simpa using xD) ?_;rintro e' w' ⟨rfl,n,os,iA⟩;refine⟨.tuple #[],ids,rfl,?_⟩
 have gZ:(pdq (ltOf cf) l.toArray 0 l.toArray.size (Go.Lib.bitLen l.toArray.size) true true).size=l.length:=by
  have:=gF cf hO l;unfold ee at this;simpa using this
 obtain⟨d',fp⟩:∃d',d'=pdq (ltOf cf) l.toArray 0 l.toArray.size (Go.Lib.bitLen l.toArray.size) true true:=⟨_,rfl⟩
 have NF:∀i,(ee cf l).getD i default=d'[i]!:=by
  intro i;unfold ee;rw[<-fp,List.getD_eq_getElem?_getD];simp[Array.getElem!_eq_getD,Array.getD_eq_getD_getElem?]
 have iA:w'=sortWorldK (eN e) k w p.ao 0 n d' os:=by rw[iA,fp];simp
 rw[<-fp] at gZ;have bM:w.heap.size<=w'.heap.size:=by rw[iA];exact size_sortWorldK_c (eN e) k w p.ao 0 n d' os
 have xE:∀b,b<w.heap.size->b≠p.ao->w'.heap[b]?=w.heap[b]?:=fun b h1 h2=>by rw[iA];exact rG n d' os b h1 h2
 have xF:w'.heap[p.ao]?=some (.cells (putCells id 0 (flatK (eN e) k d') cur) ty (0,0)):=by
  rw[iA];unfold sortWorldK;rw[heap_grow_old _ _ (by show p.ao<(putRowK (eN e) k (Go.Sort.ahead w n) p.ao 0 d').heap.size;rw[size_putRowK];exact MM.2)];show((Go.Sort.ahead w n).heap.modify p.ao _)[p.ao]?=_;rw[Array.getElem?_modify,if_pos rfl];show Option.map _ (w.heap[p.ao]?)=_;rw[g3];rfl
 have eU:∀b,b<w.heap.size->(∀(b':Nat) (q:Id),ids[b']?=some (.lv q)->¬q.has b)->w'.heap[b]?=w.heap[b]?:=fun b h1 h2=>xE b h1 (fun e=>h2 1 p bQ (.inl e))
 have aU:∀q,dH.lv q∈ids->∀x,q.has x->x<w'.heap.size/\(w.heap.size<=x\/∃(b:Nat) (p:Id),ids[b]?=some (.lv p)/\p.has x):=by
  intro q hq x hx;obtain⟨i,hi⟩:=List.getElem?_of_mem hq;exact⟨Nat.lt_of_lt_of_le (hs.ar q hq x hx).2 bM,.inr ⟨i,q,hi,hx⟩⟩
 have NG:en w.drawn w'.drawn:=.of (by rw[iA];exact Nat.le_add_right _ _);obtain⟨dt,dI⟩:=hs.cI (w':=w') (ab:=ids) bM eU aU
 have j7:aF ⟨w,im,fN ids,gs⟩ [.ae,.ae] [.ghost [.own 1,.ae,.ae],.row ty k l.length (bC e (ee cf l))] ⟨[.slice (some ⟨p.ao,0,none⟩) p.n cap,.func (.func g) #[] us.toArray].toArray,[]⟩ w' ids:=by
  refine hs.ln (xG:=NG) (by rw[iA];rfl) (by rw[iA];rfl) (by rw[iA];rfl) bM eU aU (fun _ h=>h) hs.ah rfl (by simpa using vB) ?_ ?_
  ·intro i h h';rcases i with _|_|i
   ·exact .aH (.ae _)
   ·exact .aH (.ae _)
   ·simp at h;omega
  ·intro b h h';rcases b with _|_|b
   ·have D4:=hs.bu 0 (by simp) (by omega);refine D4.mono dt dI (fun _ _ h _=>h) ?_;intro q hq x hx;rw[hq] at D4;exact D4.elim
   ·simp only[List.getElem_cons_succ,List.getElem_cons_zero,vC];refine⟨g1,g2,_,xF,by simp[putCells,g4],g5,fun i _=>by simp[bC,hk],?_⟩;intro i j hi hj bW;have Cf:j<k:=by simpa[bC,hk] using hj
    have aI:i*k+j<l.length*k:=by
     have:=Nat.mul_le_mul_right k (show i+1<=l.length from hi);rw[Nat.add_mul] at this;omega
    have QP:(flatK (eN e) k d').size=l.length*k:=by rw[size_flatK,gZ]
    have hv:(putCells id 0 (flatK (eN e) k d') cur)[i*k+j]=.int .i64 ((e ((ee cf l).getD i default))[j]'(by rw[hk];exact Cf)):=by
     simp only[putCells,Array.getElem_mapIdx,QP];rw[if_pos ⟨Nat.zero_le _,by omega⟩,Nat.sub_zero,id,get_flatK _ _ _ _ (by rw[gZ];exact aI)];have e1:(i*k+j)/k=i:=by rw[Nat.mul_comm,Nat.mul_add_div k0,Nat.div_eq_of_lt Cf];simp
     have e2:(i*k+j)%k=j:=by rw[Nat.mul_comm,Nat.mul_add_mod,Nat.mod_eq_of_lt Cf]
     rw[e1,e2,<-NF];have:j<(eN e ((ee cf l).getD i default)).length:=by rw[Ce];exact Cf
     rw[getElem!_pos (eN e ((ee cf l).getD i default)) j this];simp only[eN,List.getElem_map]
    rw[hv];refine⟨?_,rfl⟩;simp only[bC,List.getElem_map];exact .int _ _
   ·simp at h;omega
 refine⟨rfl,rfl,?_,j7.aK,j7.bu,j7.ah,j7.ar,j7.frame,j7.dL,j7.cz⟩;intro i h h';rcases i with _|i
 ·exact .aH (.tup [] [] rfl (fun _ h=>by simp at h))
 ·simp at h
end
end Go.Proofs.YtijddijloelacaaGreat.Am

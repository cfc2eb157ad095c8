/-
  The walks and plain laws, part 4.
-/
import Derived.Test.YtijddijloelacaaGreatGenStars3
import Derived.Test.YtijddijloelacaaGreatGenStarsm4
import Derived.Test.YtijddijloelacaaGreatGenStars2
import Derived.Test.YtijddijloelacaaGreatProg
import Derived.Ground.SlsfProg
import Derived.Shelf.SlSortCmp.WholeK
import Derived.Lib.SlicesCompact
import Derived.Test.YtijddijloelacaaGreatGenStarsm3
set_option linter.unusedSimpArgs false
set_option linter.unusedSectionVars false
set_option linter.unusedVariables false
set_option maxRecDepth 100000
set_option maxHeartbeats 4000000
namespace Go.Proofs.YtijddijloelacaaGreat.Am
variable [Inhabited bY]
open Go.RowKit (Below)
open Go.Proofs Go.Shelf Go.Sort Go.Lib
section
variable {P:Program} {ρ : Go.Shelf.Ren} {G:aG} {α : Type} [Inhabited α] [DecidableEq α]
/-- What is left of a list if of equal neighbours one stays. -/
def cY(l:List α):List α:=compactUpTo l.toArray l.length
theorem Ho(l:List α):(cY l).length<=l.length:=by
 unfold cY compactUpTo;rw[List.length_map];exact Nat.le_trans (List.length_filter_le _ _) (by simp)
theorem aL.yn(L:CR P ρ)(k:Nat)(k0:0<k)(aE:∀w,(isAgg (ρ.t 23)).run P w=.ok true w)(zE:∀w,(Go.sizeOf (ρ.t 23)).run P w=.ok k w)
  (e:α->List A) (xR:∀x,∀a∈e x,nR a) (hk:∀x,(e x).length=k)
  (RB:∀(x y:α) (w:World),Sem.run P (binOp .eql (ρ.t 23) (.agg (bj e x).toArray) (.agg (bj e y).toArray)) w=.ok (.bool (decide (x=y))) w)
  (RC:∀(x y:α) (w:World),Sem.run P (binOp .neq (ρ.t 23) (.agg (bj e x).toArray) (.agg (bj e y).toArray)) w=.ok (.bool (!decide (x=y))) w)
  (RD:∀(op:BinOp) (a b:Operand) (x y:α) (w:World),Sem.run P (eqGuard op (ρ.t 23) a b (.agg (bj e x).toArray) (.agg (bj e y).toArray)) w=.ok () w)
  (zr:α) (zv:Value) (v23:∀w,(zeroValue (ρ.t 23)).run P w=.ok zv w) (hz:∀n,(Builtin.zeroCells zv.cells n).toList=(List.replicate n zr).flatMap (bj e))
  (hfn : ∃ fn cd, P.funcs[ρ.f 43]? = some fn ∧ fn.body = some cd ∧ (fn.name == "runtime.NumGoroutine") = false) (ty : TypeId) (l : List α) (hl : l.length ≤ 1000000) (hne : 0 < l.length) :
  aL P G (ρ.f 43) [.own 1] [.ghost [.own 1,.ae],.row ty k l.length (cJ e l)] (.own 1) [.ghost [.ae,.ae],.row ty k (cY l).length (cJ e (cY l))]:=by
 refine⟨hfn,?_⟩;intro im w vs gs ids hG hs;have uC:vs.length=1:=by have:=hs.len;simpa using this
 obtain⟨v0,rfl⟩:∃v0,vs=[v0]:=by
  match vs,uC with
  | [a],_=>exact⟨a,rfl⟩
 have r0:Rel ids _ w (.own 1) v0:=hs.bE 0 (by simp) (by simp);have vB:ids.length=2:=by have:=hs.aK;simpa using this
 have xA:=hs.bu 1 (by simp) (by omega);simp only[List.getElem_cons_succ,List.getElem_cons_zero] at xA
 obtain⟨p,cap,bQ,xB,FW,rfl⟩:∃p cap,ids[1]?=some (.lv p)/\(p.n<=cap/\cap<=maxLen)/\cap*p.sz=p.k/\v0=.slice (some ⟨p.ao,0,none⟩) p.n cap:=by
  rcases hs.fk r0 (by simp) with⟨h1,_⟩|h
  ·rw[List.getElem?_eq_getElem (by omega)] at h1;rw[Option.some.inj h1] at xA;have:l.length=0:=xA;omega
  ·exact h
 have vC:ids[1]'(by omega)=.lv p:=by rw[List.getElem?_eq_getElem (by omega)] at bQ;exact Option.some.inj bQ
 rw[vC] at xA;obtain⟨g1,g2,cur,g3,g4,g5,g6,g7⟩:=xA;rw[g2];have MM:=hs.ar p (List.mem_of_getElem? bQ) p.ao (.inl rfl);have Ce:∀x,(bj e x).length=k:=fun x=>by simp[bj,hk]
 have xC:∀x,∀v∈bj e x,v.oneCell'=true:=fun x v hv=>by
  simp only[bj,List.mem_map] at hv;obtain⟨n,hn,rfl⟩:=hv;exact vX (xR x n hn)
 have vD:∀t,t<l.length*k->cur[t]?=some ((bj e (l.getD (t/k) default)).getD (t%k) undef):=by
  intro t ht;obtain⟨q1,q2,q3⟩:=iE ht rfl rfl;have aI:t<cur.size:=by omega
  have FX:(cJ e l (t/k)).length=k:=g6 _ q1;have:=(g7 (t/k) (t%k) q1 (by rw[FX];exact q2) (by rw[q3];exact aI)).1;simp only[q3] at this;have Tf:t%k<(e (l.getD (t/k) default)).length:=by rw[hk];exact q2
  have e1:(cJ e l (t/k))[t%k]'(by rw[FX];exact q2)=(e (l.getD (t/k) default))[t%k]:=rfl;rw[e1] at this;have hv:cur[t]=Hp ((e (l.getD (t/k) default))[t%k]):=Hq (xR _ _ (List.getElem_mem Tf)) this;rw[Array.getElem?_eq_getElem aI,hv];have FY:t%k<(bj e (l.getD (t/k) default)).length:=by rw[Ce];exact q2
  rw[List.getD_eq_getElem?_getD (l:=bj e (l.getD (t/k) default)),List.getElem?_eq_getElem FY,Option.getD_some];simp only[bj,List.getElem_map]
 have qB:∀(m:List α) (i:Nat),m.toArray[i]! = m.getD i default:=fun m i=>by
  rw[List.getD_eq_getElem?_getD];simp[Array.getElem!_eq_getD,Array.getD_eq_getD_getElem?]
 have hH:HoldsK (bj e) k w p.ao 0 l.toArray:=by
  intro j hj;rw[size_flatK] at hj;have hj:j<l.length*k:=by simpa using hj
  constructor
  ·rw[Nat.zero_add,cell_of_row w p.ao j cur ty (0,0) g3,vD j hj,id,get_flatK _ _ _ _ (by simpa using hj),qB];obtain⟨q1,q2,q3⟩:=iE hj rfl rfl;have:j%k<(bj e (l.getD (j/k) default)).length:=by rw[Ce];exact q2
   rw[List.getD_eq_getElem?_getD (l:=bj e (l.getD (j/k) default)),List.getElem?_eq_getElem this,Option.getD_some,getElem!_pos (bj e (l.getD (j/k) default)) _ this]
  ·unfold World.frozen?;simp only[g3];simp
 have xD:=Ex L k k0 aE zE (bj e) Ce xC RB RC RD zr zv v23 hz p.ao 0 cap l.toArray w hH (by simp;omega) (by simpa[g2] using xB.1);refine bg (by simpa using xD) ?_;rintro e' w' ⟨rfl,q,iA⟩;have em:compactUpTo l.toArray l.length=cY l:=rfl;rw[em] at iA ⊢;have NY:=Ho l;obtain⟨dd,fp⟩:∃dd:List α,dd=cY l++List.replicate (l.length-(cY l).length) zr:=⟨_,rfl⟩;have iA:w'=putRowK (bj e) k (Go.Sort.ahead w q) p.ao 0 dd.toArray:=by rw[iA,fp]<;>simp
 have RH:dd.length=l.length:=by rw[fp];simp;omega
 have Qs:∀i,i<(cY l).length->dd.getD i default=(cY l).getD i default:=fun i hi=>by
  rw[fp];simp only[List.getD_eq_getElem?_getD];rw[List.getElem?_append_left hi]
 have bM:w'.heap.size=w.heap.size:=by rw[iA,size_putRowK];rfl
 have xE:∀b,b<w.heap.size->b≠p.ao->w'.heap[b]?=w.heap[b]?:=fun b hb QO=>by
  rw[iA];show((Go.Sort.ahead w q).heap.modify p.ao _)[b]?=_;rw[Array.getElem?_modify,if_neg (fun h=>QO h.symm)];rfl
 obtain⟨cu,Uu⟩:∃cu,cu=putCells id 0 (flatK (bj e) k dd.toArray) cur:=⟨_,rfl⟩
 have xF:w'.heap[p.ao]?=some (.cells cu ty (0,0)):=by
  rw[iA,Uu];show((Go.Sort.ahead w q).heap.modify p.ao _)[p.ao]?=_;rw[Array.getElem?_modify,if_pos rfl];show Option.map _ (w.heap[p.ao]?)=_;rw[g3];rfl
 have OG:cu.size=cur.size:=by rw[Uu];simp[putCells]
 have bH:=hs.rebind (w':=w') 1 (.lv (mkId p.ao cu.size (cY l).length k)) (.row ty k (cY l).length (cJ e (cY l))) 4 (by simp) (by rw[iA];rfl) (by rw[iA];rfl) (by rw[iA];rfl) (by omega)
  (fun b hb hp=>xE b hb (fun e=>hp p bQ (.inl e))) (fun _ h=>by cases h)
  (fun p' h x' hx=>by
   cases h;have:=cg hx;subst this;exact⟨by omega,.inr ⟨p,bQ,.inl rfl⟩⟩)
  (fun _=>by
   refine⟨rfl,rfl,cu,xF,rfl,?_,fun i _=>by simp[cJ,hk],?_⟩
   ·show(cY l).length*k<=cu.size;have:=Nat.mul_le_mul_right k NY;omega
   ·intro i j hi hj bW;have Cf:j<k:=by simpa[cJ,hk] using hj
    have aI:i*k+j<l.length*k:=by
     have:=Nat.mul_le_mul_right k (show i+1<=l.length by omega);rw[Nat.add_mul] at this;omega
    have QP:(flatK (bj e) k dd.toArray).size=l.length*k:=by rw[size_flatK];simp[RH]
    have hv:cu[i*k+j]=Hp ((e ((cY l).getD i default))[j]'(by rw[hk];exact Cf)):=by
     subst Uu;simp only[putCells,Array.getElem_mapIdx,QP];rw[if_pos ⟨Nat.zero_le _,by omega⟩,Nat.sub_zero,id,get_flatK _ _ _ _ (by simpa[RH] using aI)];have e1:(i*k+j)/k=i:=by rw[Nat.mul_comm,Nat.mul_add_div k0,Nat.div_eq_of_lt Cf];simp
     have e2:(i*k+j)%k=j:=by rw[Nat.mul_comm,Nat.mul_add_mod,Nat.mod_eq_of_lt Cf]
     rw[e1,e2,qB,Qs i hi];have:j<(bj e ((cY l).getD i default)).length:=by rw[Ce];exact Cf
     rw[getElem!_pos (bj e ((cY l).getD i default)) j this];simp only[bj,List.getElem_map]
    rw[hv];exact⟨A4 (xR _ _ (List.getElem_mem _)),vX (xR _ _ (List.getElem_mem _))⟩) (.of (by rw[iA];exact Nat.le_add_right _ _))
 refine⟨_,_,rfl,⟨rfl,rfl,?_,bH.aK,bH.bu,bH.ah,bH.ar,bH.frame,bH.dL,bH.cz⟩⟩;intro j h h'
 match j,h with
 | 0,_ =>
  refine .own 1 cap (mkId p.ao cu.size (cY l).length k) ?_ ⟨?_,xB.2⟩ ?_
  ·rw[List.getElem?_set_self (by omega)]
  ·show(cY l).length<=cap;have:=xB.1;omega
  ·show cap*k=cu.size;rw[OG,g4,<-FW,g1]
end
end Go.Proofs.YtijddijloelacaaGreat.Am
namespace Go.Proofs.YtijddijloelacaaGreat
open Go.Proofs.YtijddijloelacaaGreat.Am Go.Sort Go.Proofs
variable [Inhabited bY]
variable {G:aG}
structure RS where
 p:Bool
 q:Bool
 x:Nat
 y:Nat
 w:Nat
 deriving Inhabited,DecidableEq
def Qt(r:RS):A:=.agg (jJ r.p r.q (wW r.x) (wW r.y) (wW r.w))
def g3(r:RS):Nat:=Nat.gcd (Nat.gcd r.x r.y) r.w
def Sm(r:RS):Prop:=r.x<2 ^ 119/\r.y<2 ^ 119/\r.w<18446744073709551616
def gl(r:RS):Prop:=Sm r/\0<r.w/\g3 r=1/\(r.p=true->r.x≠0)/\(r.q=true->r.y≠0)
instance (r:RS):Decidable (gl r):=inferInstanceAs (Decidable ((_/\_/\_)/\_/\_/\_/\_))
theorem Hr:(2:Nat) ^ 120<65536 ^ 32:=by decide
theorem M7:(2:Nat) ^ 119<2 ^ 120:=by decide
theorem Uv:18446744073709551616<2 ^ 120:=by decide
theorem OH{a b:Nat}(ha:a<65536 ^ 32)(hb:b<65536 ^ 32)(r:Bool):((((wW a 0:Nat):Int)==((wW b 0:Nat):Int))&&((((wW a 1:Nat):Int)==((wW b 1:Nat):Int))&&((((wW a 2:Nat):Int)==((wW b 2:Nat):Int))&&((((wW a 3:Nat):Int)==((wW b 3:Nat):Int))&&((((wW a 4:Nat):Int)==((wW b 4:Nat):Int))&&((((wW a 5:Nat):Int)==((wW b 5:Nat):Int))&&((((wW a 6:Nat):Int)==((wW b 6:Nat):Int))&&((((wW a 7:Nat):Int)==((wW b 7:Nat):Int))&&r))))))))=(decide (a=b)&&r):=by
 have h:=Wk ha hb;cases r
 ·simp
 ·rw[Bool.and_true (decide (a=b))];exact h
def Rk(r:RS):Prop:=r.x<65536 ^ 32/\r.y<65536 ^ 32/\r.w<65536 ^ 32
theorem Sm.rk{r:RS}(h:Sm r):Rk r:=⟨Nat.lt_trans (Nat.lt_trans h.1 M7) Hr,Nat.lt_trans (Nat.lt_trans h.2.1 M7) Hr,Nat.lt_trans (Nat.lt_trans h.2.2 Uv) Hr⟩
theorem OI{r s:RS}(hr:Rk r)(hs:Rk s):((r.p==s.p)&&((((wW r.x 0:Nat):Int)==((wW s.x 0:Nat):Int))&&((((wW r.x 1:Nat):Int)==((wW s.x 1:Nat):Int))&&((((wW r.x 2:Nat):Int)==((wW s.x 2:Nat):Int))&&((((wW r.x 3:Nat):Int)==((wW s.x 3:Nat):Int))&&((((wW r.x 4:Nat):Int)==((wW s.x 4:Nat):Int))&&((((wW r.x 5:Nat):Int)==((wW s.x 5:Nat):Int))&&((((wW r.x 6:Nat):Int)==((wW s.x 6:Nat):Int))&&((((wW r.x 7:Nat):Int)==((wW s.x 7:Nat):Int))&&((r.q==s.q)&&((((wW r.y 0:Nat):Int)==((wW s.y 0:Nat):Int))&&((((wW r.y 1:Nat):Int)==((wW s.y 1:Nat):Int))&&((((wW r.y 2:Nat):Int)==((wW s.y 2:Nat):Int))&&((((wW r.y 3:Nat):Int)==((wW s.y 3:Nat):Int))&&((((wW r.y 4:Nat):Int)==((wW s.y 4:Nat):Int))&&((((wW r.y 5:Nat):Int)==((wW s.y 5:Nat):Int))&&((((wW r.y 6:Nat):Int)==((wW s.y 6:Nat):Int))&&((((wW r.y 7:Nat):Int)==((wW s.y 7:Nat):Int))&&((((wW r.w 0:Nat):Int)==((wW s.w 0:Nat):Int))&&((((wW r.w 1:Nat):Int)==((wW s.w 1:Nat):Int))&&((((wW r.w 2:Nat):Int)==((wW s.w 2:Nat):Int))&&((((wW r.w 3:Nat):Int)==((wW s.w 3:Nat):Int))&&((((wW r.w 4:Nat):Int)==((wW s.w 4:Nat):Int))&&((((wW r.w 5:Nat):Int)==((wW s.w 5:Nat):Int))&&((((wW r.w 6:Nat):Int)==((wW s.w 6:Nat):Int))&&((((wW r.w 7:Nat):Int)==((wW s.w 7:Nat):Int))&&true))))))))))))))))))))))))))=decide (r=s):=by
 rw[OH hr.2.2 hs.2.2,OH hr.2.1 hs.2.1,OH hr.1 hs.1];obtain⟨p,q,x,y,w⟩:=r;obtain⟨p',q',x',y',w'⟩:=s;rw[Bool.eq_iff_iff];simp only[Bool.and_eq_true,beq_iff_eq,decide_eq_true_iff,RS.mk.injEq,and_true];constructor
 ·rintro⟨a,b,c,d,e⟩;exact⟨a,c,b,d,e⟩
 ·rintro⟨a,b,c,d,e⟩;exact⟨a,c,b,d,e⟩
abbrev MS:Type:={ r:RS//gl r }
instance:Inhabited MS:=⟨⟨⟨false,false,0,0,1⟩,by decide⟩⟩
theorem MS.rk(x:MS):Rk x.1:=Sm.rk x.2.1
def mL(r:RS):List A:=jJ r.p r.q (wW r.x) (wW r.y) (wW r.w)
theorem RI(r:RS):Qt r=.agg (mL r):=rfl
def Lf(p:Bool)(x:Nat):Int:=if p then -(x:Int) else x
def jq(r:RS):Int:=Lf r.p r.x
def tU(r:RS):Int:=Lf r.q r.y
theorem gH(p:Bool)(x:Nat):(Lf p x).natAbs=x:=by cases p<;>simp[Lf]
theorem ra{p:Bool}{x:Nat}(h:p=true->x≠0):decide (Lf p x<0)=p:=by
 cases p
 ·simp[Lf]
 ·have:=h rfl;simp[Lf];omega
theorem CS{p p':Bool}{x x':Nat}(h:p=true->x≠0)(h':p'=true->x'≠0)(e:Lf p x=Lf p' x'):p=p'/\x=x':=by
 refine⟨?_,?_⟩
 ·rw[<-ra h,<-ra h',e]
 ·rw[<-gH p x,<-gH p' x',e]
def jK(r s:RS):Int:=Hm (jq r) (tU r) r.w (jq s) (tU s) s.w
theorem CT{a b c x y z:Int}(hx:0<x)(hy:0<y)(hz:0<z)(h1:a*y<=b*x)(h2:b*z<=c*y):a*z<=c*x:=by
 have e1:=Int.mul_le_mul_of_nonneg_right h1 (Int.le_of_lt hz);have e2:=Int.mul_le_mul_of_nonneg_right h2 (Int.le_of_lt hx);have k1:a*z*y=a*y*z:=by grind
 have k2:b*x*z=b*z*x:=by grind
 have k3:c*x*y=c*y*x:=by grind
 exact Int.le_of_mul_le_mul_right (a:=y) (by omega) hy
theorem A5{a b c x y z:Int}(hx:0<x)(hy:0<y)(hz:0<z)(h1:a*y<b*x)(h2:b*z<=c*y):a*z<c*x:=by
 have e1:=Int.mul_lt_mul_of_pos_right h1 hz;have e2:=Int.mul_le_mul_of_nonneg_right h2 (Int.le_of_lt hx);have k1:a*z*y=a*y*z:=by grind
 have k2:b*x*z=b*z*x:=by grind
 have k3:c*x*y=c*y*x:=by grind
 exact Int.lt_of_mul_lt_mul_right (a:=y) (by omega) (Int.le_of_lt hy)
theorem Hs{a b c x y z:Int}(hx:0<x)(hy:0<y)(hz:0<z)(h1:a*y<=b*x)(h2:b*z<c*y):a*z<c*x:=by
 have e1:=Int.mul_le_mul_of_nonneg_right h1 (Int.le_of_lt hz);have e2:=Int.mul_lt_mul_of_pos_right h2 hx;have k1:a*z*y=a*y*z:=by grind
 have k2:b*x*z=b*z*x:=by grind
 have k3:c*x*y=c*y*x:=by grind
 exact Int.lt_of_mul_lt_mul_right (a:=y) (by omega) (Int.le_of_lt hy)
theorem uI{a b:Int}:qK a b<0↔a<b:=by unfold qK;split<;>(try split)<;>omega
theorem A6{a b:Int}:qK a b=0↔a=b:=by unfold qK;split<;>(try split)<;>omega
theorem OJ(u v:Int):cx [u,v]<0↔u<0\/u=0/\v<0:=by
 show(if u=0 then (if v=0 then 0 else v) else u)<0↔_;split<;>(try split)<;>omega
theorem Lg(u v:Int):cx [u,v]=0↔u=0/\v=0:=by
 show(if u=0 then (if v=0 then 0 else v) else u)=0↔_;split<;>(try split)<;>omega
theorem vY(r s:RS):jK r s<0↔jq r*s.w<jq s*r.w\/jq r*s.w=jq s*r.w/\tU r*s.w<tU s*r.w:=by
 unfold jK Hm;rw[OJ,uI,uI,A6]
theorem A7(r s:RS):jK r s=0↔jq r*s.w=jq s*r.w/\tU r*s.w=tU s*r.w:=by
 unfold jK Hm;rw[Lg,A6,A6]
theorem sC{r s t:RS}(hr:0<r.w)(hs:0<s.w)(ht:0<t.w)(h1:jK r s<0)(h2:jK s t<0):jK r t<0:=by
 rw[vY] at *;have CU:(0:Int)<r.w:=by omega
 have bH:(0:Int)<s.w:=by omega
 have A2:(0:Int)<t.w:=by omega
 have a1:=fun u v=>A5 (a:=jq r) (b:=jq s) (c:=jq t) CU bH A2 u v;have a2:=fun u v=>Hs (a:=jq r) (b:=jq s) (c:=jq t) CU bH A2 u v;have a3:=fun u v=>CT (a:=jq r) (b:=jq s) (c:=jq t) CU bH A2 u v;have a4:=fun u v=>CT (a:=jq t) (b:=jq s) (c:=jq r) A2 bH CU u v;have b1:=fun u v=>A5 (a:=tU r) (b:=tU s) (c:=tU t) CU bH A2 u v;rcases h1 with h1|⟨h1,XH⟩<;>rcases h2 with h2|⟨h2,Za⟩
 ·exact .inl (a1 h1 (by omega))
 ·exact .inl (a1 h1 (by omega))
 ·exact .inl (a2 (by omega) h2)
 ·have:=a3 (by omega) (by omega);have:=a4 (by omega) (by omega);exact .inr ⟨by omega,b1 XH (by omega)⟩
theorem yo{r s t:RS}(hr:0<r.w)(hs:0<s.w)(ht:0<t.w)(h1:¬jK r s<0)(h2:¬jK s t<0):¬jK r t<0:=by
 rw[vY] at *;have CU:(0:Int)<r.w:=by omega
 have bH:(0:Int)<s.w:=by omega
 have A2:(0:Int)<t.w:=by omega
 have a1:=fun u v=>A5 (a:=jq t) (b:=jq s) (c:=jq r) A2 bH CU u v;have a2:=fun u v=>Hs (a:=jq t) (b:=jq s) (c:=jq r) A2 bH CU u v;have a3:=fun u v=>CT (a:=jq t) (b:=jq s) (c:=jq r) A2 bH CU u v;have b3:=fun u v=>CT (a:=tU t) (b:=tU s) (c:=tU r) A2 bH CU u v;have c1:jq s*r.w<=jq r*s.w:=by omega
 have c2:jq t*s.w<=jq s*t.w:=by omega
 have c3:=a3 c2 c1;rintro(h|⟨h,h'⟩)
 ·omega
 ·have d1:¬jq s*r.w<jq r*s.w:=fun q=>by have:=a2 c2 q;omega
  have d2:¬jq t*s.w<jq s*t.w:=fun q=>by have:=a1 q c1;omega
  have e1:tU s*r.w<=tU r*s.w:=by omega
  have e2:tU t*s.w<=tU s*t.w:=by omega
  have:=b3 e2 e1;omega
theorem nS{x y w x' y' w':Nat}(hg:Nat.gcd (Nat.gcd x y) w=1)(h1:x*w'=x'*w)(h2:y*w'=y'*w):w ∣ w':=by
 have d1:w ∣ x*w':=⟨x',by rw[h1,Nat.mul_comm]⟩;have d2:w ∣ y*w':=⟨y',by rw[h2,Nat.mul_comm]⟩;have d3:w ∣ w*w':=⟨w',rfl⟩;have:=Nat.dvd_gcd (Nat.dvd_gcd d1 d2) d3;rw[Nat.gcd_mul_right,Nat.gcd_mul_right,hg,Nat.one_mul] at this;exact this
/-- Spots that may be, and are alike, are the same. -/
theorem Ey{r s:RS}(hr:gl r)(hs:gl s)(h:jK r s=0):r=s:=by
 rw[A7] at h;obtain⟨_,r1,r2,r3,r4⟩:=hr;obtain⟨_,s1,s2,s3,s4⟩:=hs;obtain⟨p,q,x,y,w⟩:=r;obtain⟨p',q',x',y',w'⟩:=s;obtain⟨h1,h2⟩:=h;unfold g3 at r2 s2;unfold jq at h1;unfold tU at h2;simp only at *
 have k1:x*w'=x'*w:=by
  have:=congrArg Int.natAbs h1;simpa[Int.natAbs_mul,gH] using this
 have k2:y*w'=y'*w:=by
  have:=congrArg Int.natAbs h2;simpa[Int.natAbs_mul,gH] using this
 have e:w=w':=Nat.dvd_antisymm (nS r2 k1 k2) (nS s2 k1.symm k2.symm);subst e;have hw:(w:Int)≠0:=by omega
 have i1:=CS r3 s3 (Int.eq_of_mul_eq_mul_right hw h1);have i2:=CS r4 s4 (Int.eq_of_mul_eq_mul_right hw h2);rw[i1.1,i1.2,i2.1,i2.2]
theorem oT(r:RS):jK r r=0:=(A7 r r).2 ⟨rfl,rfl⟩
def ud(a b:MS):Int:=jK a.1 b.1
theorem A8(a b:MS):ltOf ud a b=true↔jK a.1 b.1<0:=by unfold ltOf ud;simp
theorem A9:SWO (ltOf ud):=by
 have e':∀a b,ltOf ud a b=false↔¬jK a.1 b.1<0:=fun a b=>by rw[<-A8];simp
 refine⟨fun x=>?_,fun x y z h1 h2=>?_,fun x y z h1 h2=>?_⟩
 ·rw[e',oT];omega
 ·rw[A8] at *;exact sC x.2.2.1 y.2.2.1 z.2.2.1 h1 h2
 ·rw[e'] at *;exact yo x.2.2.1 y.2.2.1 z.2.2.1 h1 h2
theorem sD{r:RS}(h:gl r):Qt r=mK (jq r) (tU r) r.w:=by
 unfold Qt mK jq tU;rw[ra h.2.2.2.1,ra h.2.2.2.2,gH,gH]
theorem sE{r:RS}(h:gl r):su (jq r) (tU r) r.w:=by
 obtain⟨⟨h1,h2,h3⟩,h4,h5,_,_⟩:=h;refine⟨?_,by unfold jq;rw[gH];exact h1,by unfold tU;rw[gH];exact h2,h4,h3⟩;unfold gg jq tU;rw[gH,gH];exact h5
theorem OK{r:RS}(h:gl r):aa Tryz.prog G 72 [Qt r] (.sb true):=by
 have:=OD (G:=G) _ _ _ (sE h);rw[sD h];exact this
theorem Ez{r s:RS}(hr:gl r)(hs:gl s):aa Tryz.prog G 146 [Qt r,Qt s] (.int .i64 (jK r s)):=by
 rw[sD hr,sD hs];exact Ew _ _ _ _ _ _ (sE hr) (sE hs)
end Go.Proofs.YtijddijloelacaaGreat
namespace Go.Proofs.YtijddijloelacaaGreat
open Go.Proofs.YtijddijloelacaaGreat.Am Go.Sort Go.Proofs Go.Lib
variable [Inhabited bY]
variable {G:aG}
def fK(l:List RS):A:=.sl l.length 26 fun i=>mL (l.getD i default)
theorem Lh{l:List RS}(h:∀r∈l,gl r){i:Nat}(hi:i<l.length):gl (l.getD i default):=by
 rw[List.getD_eq_getElem?_getD,List.getElem?_eq_getElem hi];exact h _ (List.getElem_mem hi)
theorem OL(r:RS)(hk:gl r):aa Tryz.prog G 143 [.agg (mL r)] (.sb false):=by
 have m:=OK (G:=G) hk;rw[RI] at m;unfold mL jJ at *;generalize wW r.x=X at *;generalize wW r.y=Y at *;generalize wW r.w=W at *;refine aa.aj ak Tryz.func143 rfl rfl _ rfl ?_;(conv=>whnf);repeat' ((first|refine st ?_|(refine⟨fun h=>?_,fun h=>?_⟩<;>try simp only[af] at h)|(refine .inl ?_;(conv=>whnf);refine⟨_,m,?_⟩)|refine wf ?_|refine aA ?_|refine nn ?_|fail)<;>conv=>whnf)
 all_goals first|contradiction|(exfalso;omega)|skip
 all_goals rfl
theorem OM(l:List RS)(hk:∀r∈l,gl r)(hl:l.length<=1000000):aa Tryz.prog G 169 [fK l,.fn 143 []] (.int .i64 (-1)):=by
 refine aa.aj ak Tryz.func169 rfl rfl _ rfl ?_;(conv=>whnf);repeat' ((first|refine st ?_|(refine⟨fun h=>?_,fun h=>?_⟩<;>try simp only[af] at h)|refine wf ?_|refine aA ?_|refine nn ?_|fail)<;>conv=>whnf)
 refine al (fun i:Nat=>i<=l.length) (fun i=>[(8,.int .i64 (i:Int))]) (fun i=>[]) (fun i=>l.length-i) 0 (Nat.zero_le _) ?_ ?_
 ·conv=>whnf
  repeat (first|exact fa|((first|refine fb ?_|(refine And.intro ?_ ?_;rotate_left));conv=>whnf))
 ·intro i hi;have hi:i<=l.length:=hi;rcases Nat.lt_or_ge i l.length with dE|dE
  ·have h1:=OL (G:=G) (l.getD i default) (Lh hk dE);unfold mL at *;(conv=>whnf);repeat' ((first|(exact Bool.noConfusion h)|(exfalso;omega)|refine st ?_|(refine⟨fun h=>?_,fun h=>?_⟩<;>try simp only[af] at h)|(refine .inl ?_;(conv=>whnf);refine⟨_,h1,?_⟩)|refine wf ?_|refine aA ?_|refine nn ?_|fail)<;>conv=>whnf)
   refine⟨i+1,dE,(by show l.length-(i+1)<l.length-i;omega),?_⟩;exact ff
  ·(conv=>whnf);repeat' ((first|(exfalso;omega)|refine st ?_|(refine⟨fun h=>?_,fun h=>?_⟩<;>try simp only[af] at h)|refine wf ?_|refine aA ?_|refine nn ?_|fail)<;>conv=>whnf)
theorem Ht(l:List RS)(hk:∀r∈l,gl r)(hl:l.length<=1000000):aa Tryz.prog G 117 [fK l,.fn 143 []] (.sb false):=by
 have h1:=OM (G:=G) l hk hl;refine aa.aj ak Tryz.func117 rfl rfl _ rfl ?_;(conv=>whnf);repeat' ((first|refine st ?_|(refine⟨fun h=>?_,fun h=>?_⟩<;>try simp only[af] at h)|(refine .inl ?_;(conv=>whnf);refine⟨_,h1,?_⟩)|refine wf ?_|refine aA ?_|refine nn ?_|fail)<;>conv=>whnf)
 all_goals rfl
theorem uJ(dn:(default:bY).ns)(n:Nat)(row:Nat->List A)(hl:∀i,i<n->(row i).length=26)(hn:n<=1000000):
  aL Tryz.prog G 200 [.fn 202 [.bref [.sl n 26 row] 0]] [] (.own 0) [.row 57 26 n row]:=by
 have h:=xQ (G:=G) dn n row hl hn;refine aL.aj ak Tryz.func200 rfl rfl _ rfl ?_;(conv=>whnf);repeat' ((first|refine st ?_|(refine⟨fun h=>?_,fun h=>?_⟩<;>try simp only[af] at h)|((first|refine .inr (.inr (.inr ?_))|refine .inr ?_);(conv=>whnf);refine⟨_,_,h,?_⟩)|refine wf ?_|refine aA ?_|refine nn ?_|fail)<;>conv=>whnf)
 exact .inl fun _ _=>rfl
theorem yp(n:Nat)(row:Nat->List A):
  aa Tryz.prog G 145 [.sl n 26 row] (.fn 202 [.bref [.sl n 26 row] 0]):=by
 refine aa.aj ak Tryz.func145 rfl rfl _ rfl ?_;(conv=>whnf);repeat' ((first|refine st ?_|(refine⟨fun h=>?_,fun h=>?_⟩<;>try simp only[af] at h)|refine wf ?_|refine aA ?_|refine nn ?_|fail)<;>conv=>whnf)
end Go.Proofs.YtijddijloelacaaGreat
namespace Go.Proofs
open Go.Shelf Go.Proofs.YtijddijloelacaaGreat.Am
def Tryz.pV:Go.Shelf.Ren:=⟨fun|43=>147|n=>n,fun|0=>0|3=>3|4=>4|22=>35|23=>57|n=>n,fun|n=>n⟩
theorem Tryz.Li:CR Tryz.prog Tryz.pV:={
 mixed:=by kernel_rfl
 f43:=⟨Tryz.f147.name,by decide,Tryz.func147.trans (congrArg some (by kernel_rfl))⟩
 t0:=Tryz.underlying0
 a0:=Tryz.isAgg0
 z0:=Tryz.sizeOf0
 v0:=Tryz.zeroValue0
 t3:=Tryz.underlying3
 a3:=Tryz.isAgg3
 z3:=Tryz.sizeOf3
 v3:=Tryz.zeroValue3
 t4:=Tryz.underlying4
 a4:=Tryz.isAgg4
 z4:=Tryz.sizeOf4
 v4:=Tryz.zeroValue4
 t22:=Tryz.underlying35
 a22:=Tryz.isAgg35
 z22:=Tryz.sizeOf35
 v22:=Tryz.zeroValue35 }
end Go.Proofs
namespace Go.Proofs.YtijddijloelacaaGreat
open Go.Proofs.YtijddijloelacaaGreat.Am Go.Sort Go.Proofs Go.Lib
variable [Inhabited bY]
variable {G:aG}
def Ba(x:MS):List A:=mL x.1
theorem CV(r:RS):∀a∈mL r,nR a:=by
 simp[mL,jJ,nR]
theorem Uw:Rk ⟨false,false,0,0,0⟩:=⟨by decide,by decide,by decide⟩
abbrev RK:Type:={ r:RS//Rk r }
instance:Inhabited RK:=⟨⟨⟨false,false,0,0,0⟩,Uw⟩⟩
def ue(x:RK):List A:=mL x.1
def RJ:List Nat:=[6,5,5,5,5,5,5,5,5,6,5,5,5,5,5,5,5,5,5,5,5,5,5,5,5,5]
theorem Hu:aW Tryz.prog 6 57=some RJ:=by kernel_rfl
theorem ON(x y:RS)(hx:Rk x)(hy:Rk y):sF RJ ((mL x).map Hp) ((mL y).map Hp) (decide (x=y)):=by
 rw[<-OI hx hy];clear hx hy;obtain⟨p,q,a,b,c⟩:=x;obtain⟨p',q',a',b',c'⟩:=y;unfold mL
 dsimp only
 generalize wW a=a at *;generalize wW b=b at *;generalize wW c=c at *;generalize wW a'=a' at *;generalize wW b'=b' at *;generalize wW c'=c' at *
 exact
  ⟨_,_,.inr (.inl ⟨rfl,_,_,rfl,rfl,rfl⟩),⟨_,_,.inl ⟨rfl,_,_,_,rfl,rfl,rfl⟩,⟨_,_,.inl ⟨rfl,_,_,_,rfl,rfl,rfl⟩,⟨_,_,.inl ⟨rfl,_,_,_,rfl,rfl,rfl⟩,⟨_,_,.inl ⟨rfl,_,_,_,rfl,rfl,rfl⟩,⟨_,_,.inl ⟨rfl,_,_,_,rfl,rfl,rfl⟩,⟨_,_,.inl ⟨rfl,_,_,_,rfl,rfl,rfl⟩,⟨_,_,.inl ⟨rfl,_,_,_,rfl,rfl,rfl⟩,⟨_,_,.inl ⟨rfl,_,_,_,rfl,rfl,rfl⟩,⟨_,_,.inr (.inl ⟨rfl,_,_,rfl,rfl,rfl⟩),⟨_,_,.inl ⟨rfl,_,_,_,rfl,rfl,rfl⟩,⟨_,_,.inl ⟨rfl,_,_,_,rfl,rfl,rfl⟩,⟨_,_,.inl ⟨rfl,_,_,_,rfl,rfl,rfl⟩,⟨_,_,.inl ⟨rfl,_,_,_,rfl,rfl,rfl⟩,⟨_,_,.inl ⟨rfl,_,_,_,rfl,rfl,rfl⟩,⟨_,_,.inl ⟨rfl,_,_,_,rfl,rfl,rfl⟩,⟨_,_,.inl ⟨rfl,_,_,_,rfl,rfl,rfl⟩,⟨_,_,.inl ⟨rfl,_,_,_,rfl,rfl,rfl⟩,⟨_,_,.inl ⟨rfl,_,_,_,rfl,rfl,rfl⟩,⟨_,_,.inl ⟨rfl,_,_,_,rfl,rfl,rfl⟩,⟨_,_,.inl ⟨rfl,_,_,_,rfl,rfl,rfl⟩,⟨_,_,.inl ⟨rfl,_,_,_,rfl,rfl,rfl⟩,⟨_,_,.inl ⟨rfl,_,_,_,rfl,rfl,rfl⟩,⟨_,_,.inl ⟨rfl,_,_,_,rfl,rfl,rfl⟩,⟨_,_,.inl ⟨rfl,_,_,_,rfl,rfl,rfl⟩,⟨_,_,.inl ⟨rfl,_,_,_,rfl,rfl,rfl⟩,rfl,rfl⟩,rfl⟩,rfl⟩,rfl⟩,rfl⟩,rfl⟩,rfl⟩,rfl⟩,rfl⟩,rfl⟩,rfl⟩,rfl⟩,rfl⟩,rfl⟩,rfl⟩,rfl⟩,rfl⟩,rfl⟩,rfl⟩,rfl⟩,rfl⟩,rfl⟩,rfl⟩,rfl⟩,rfl⟩,rfl⟩
theorem OO(x y:RK):sF RJ (bj ue x) (bj ue y) (decide (x=y)):=by
 have e:decide (x=y)=decide (x.1=y.1):=decide_eq_decide.2 Subtype.ext_iff;rw[e];exact ON x.1 y.1 x.2 y.2
theorem Hv(l:List Value):uf Tryz.prog 57 l=.agg l.toArray:=by
 have h:Tryz.prog.underlying 57=_:=Tryz.underlying57;unfold uf;rw[h]
theorem oU(x y:RK)(w:World)(op:BinOp)(X Y:Operand):(eqGuard op 57 X Y (.agg (bj ue x).toArray) (.agg (bj ue y).toArray)).run Tryz.prog w=.ok () w /\
  (binOp .eql 57 (.agg (bj ue x).toArray) (.agg (bj ue y).toArray)).run Tryz.prog w=.ok (.bool (decide (x=y))) w /\
  (binOp .neq 57 (.agg (bj ue x).toArray) (.agg (bj ue y).toArray)).run Tryz.prog w=.ok (.bool (!decide (x=y))) w:=by
 have Lj:6<=Tryz.prog.depth:=by unfold Program.depth Made.depth;omega
 have e2:(Op.equalIn 10000 57 (.agg (bj ue x).toArray) (.agg (bj ue y).toArray)).run Tryz.prog w=.ok (decide (x=y)) w:=by
  have:=fz (P:=Tryz.prog) (w:=w) 6 57 RJ _ _ _ (10000-6) Hu (OO x y);rw[Hv,Hv] at this;exact this
 have hg:Tryz.prog.eqGuardType Tryz.prog.depth 57=false:=by
  have:=eP (P:=Tryz.prog) 6 57 RJ (Tryz.prog.depth-6) Hu
  rwa [show 6+(Tryz.prog.depth-6)=Tryz.prog.depth by omega] at this
 refine⟨?_,?_,?_⟩
 ·unfold eqGuard;cases op<;>simp[hg]
 ·rw[run_eql_struct];simp[e2]
 ·rw[run_neq_struct];simp[e2]
theorem pW(z:Array Value):∀n,(Builtin.zeroCells z n).toList=(List.replicate n z.toList).flatten
 | 0=>by simp[Builtin.zeroCells]
 | n+1=>by
  have ih:=pW z n;rw[List.replicate_succ',List.flatten_append,<-ih];unfold Builtin.zeroCells;simp only[Array.toList_map,Array.toList_range];rw[Nat.add_mul,Nat.one_mul,List.range_add,List.map_append,List.map_map]
  congr 1
  simp only[List.flatten_cons,List.flatten_nil,List.append_nil];apply List.ext_getElem
  ·simp
  ·intro j h1 h2;simp only[List.length_map,List.length_range] at h1;simp only[List.getElem_map,List.getElem_range,Function.comp];rw[Nat.mul_comm,Nat.mul_add_mod,Nat.mod_eq_of_lt h1];simp[getElem!_pos z j h1]
theorem Lk:bj ue ⟨⟨false,false,0,0,0⟩,Uw⟩=[.bool false,.int .u64 0,.int .u64 0,.int .u64 0,.int .u64 0,.int .u64 0,.int .u64 0,.int .u64 0,.int .u64 0,.bool false,.int .u64 0,.int .u64 0,.int .u64 0,.int .u64 0,.int .u64 0,.int .u64 0,.int .u64 0,.int .u64 0,.int .u64 0,.int .u64 0,.int .u64 0,.int .u64 0,.int .u64 0,.int .u64 0,.int .u64 0,.int .u64 0]:=by
 show(mL ⟨false,false,0,0,0⟩).map Hp=_;have h:∀k,wW 0 k=0:=La;unfold mL jJ;simp only[h];rfl
theorem yq(l:List RK)(hl:l.length<=1000000)(h0:0<l.length):
  aL Tryz.prog G 147 [.own 1] [.ghost [.own 1,.ae],.row 57 26 l.length (cJ ue l)] (.own 1) [.ghost [.ae,.ae],.row 57 26 (cY l).length (cJ ue (cY l))] :=
 aL.yn (ρ:=Tryz.pV) Tryz.Li 26 (by omega) (fun w=>by kernel_rfl) (fun w=>by kernel_rfl) ue (fun x=>CV x.1) (fun _=>rfl)
  (fun x y w=>(oU x y w .eql default default).2.1) (fun x y w=>(oU x y w .eql default default).2.2) (fun op a b x y w=>(oU x y w op a b).1)
  ⟨⟨false,false,0,0,0⟩,Uw⟩ _ Tryz.zeroValue57 (fun n=>by rw[pW,List.flatMap_def,List.map_replicate,Lk];rfl)
  ⟨_,_,Tryz.func147,rfl,rfl⟩ 57 l hl h0
def lH(x:MS):RK:=⟨x.1,x.rk⟩
theorem Hw{x y:MS}(h:lH x=lH y):x=y:=Subtype.ext (show x.1=y.1 from congrArg (fun z:RK=>z.1) h)
theorem nT(l:List MS):∀m,m<=l.length->compactUpTo (l.map lH).toArray m=(compactUpTo l.toArray m).map lH
 | 0,_=>by simp[compactUpTo]
 | m+1,h=>by
  rw[compactUpTo_succ,compactUpTo_succ,List.map_append,nT l m (by omega)]
  congr 1
  have g:∀i,i<l.length->(l.map lH).toArray[i]! = lH (l.toArray[i]!):=fun i hi=>by
   rw[getElem!_pos _ _ (by simpa using hi),getElem!_pos _ _ (by simpa using hi)];simp
  have hk:keeps (l.map lH).toArray m=keeps l.toArray m:=by
   unfold keeps;rw[decide_eq_decide,g m (by omega),g (m-1) (by omega)];constructor
   ·rintro(h|h)
    ·exact .inl h
    ·exact .inr fun e=>h (congrArg lH e)
   ·rintro(h|h)
    ·exact .inl h
    ·exact .inr fun e=>h (Hw e)
  rw[hk];split
  ·rw[g m (by omega)];rfl
  ·rfl
theorem yr(l:List MS)(i:Nat)(h:i<l.length):cJ ue (l.map lH) i=cJ Ba l i:=by
 unfold cJ ue Ba lH;simp[List.getD_eq_getElem?_getD,h]
theorem Hx(l:List MS):cY (l.map lH)=(cY l).map lH:=by
 unfold cY;rw[List.length_map,nT l l.length (Nat.le_refl _)]
theorem yt(l:List MS)(hl:l.length<=1000000)(h0:0<l.length):
  aL Tryz.prog G 147 [.own 1] [.ghost [.own 1,.ae],.row 57 26 l.length (cJ Ba l)] (.own 1) [.ghost [.ae,.ae],.row 57 26 (cY l).length (cJ ue ((cY l).map lH))]:=by
 have h2:=yq (G:=G) (l.map lH) (by simpa using hl) (by simpa using h0);rw[Hx] at h2;have e1:=yr l;have e2:=yr (cY l);rw[List.length_map,List.length_map] at h2;refine aL.fit h2 rfl ?_;show fL _;(conv=>whnf)
 repeat (first|exact fa|((first|refine fb ?_|(refine And.intro ?_ ?_;rotate_left));conv=>whnf))
 all_goals first|exact Or.inl fun i hi=>(e1 i hi).symm
end Go.Proofs.YtijddijloelacaaGreat
/-
  DERIVED: THE SHELF's CONTRACTS AT THIS DUMP, IN PLAIN WORDS (tools/lay-plain.mjs out of 'TrySortShelf.lean', which tools/lay-shelf.mjs wrote): THE SAME DECLARATIONS UNDER THE SAME NAMES: 'import', 'namespace', 'open', 'def', 'theorem' AND NOTHING ELSE: no command of the shelf's: FOR A HAND-IN. Each laying: the table of numbers ('.._ren') and one theorem, a field a fact of the dump's own or the kernel's comparison; each contract: ONE APPLICATION.
-/
namespace Go.Proofs
open Go.Shelf
def Tryz.mM:Go.Shelf.Ren:=⟨fun|6=>201|15=>152|14=>267|28=>215|29=>216|20=>302|21=>303|22=>304|23=>305|24=>306|25=>307|26=>308|27=>309|46=>322|47=>270|48=>271|49=>323|50=>324|57=>335|n=>n,fun|22=>35|24=>57|25=>136|3=>3|39=>176|0=>0|53=>267|55=>51|4=>4|46=>261|45=>260|50=>68|5=>5|9=>9|66=>301|70=>305|76=>327|77=>242|n=>n,fun|n=>n⟩
theorem Tryz.EA:Go.Proofs.SlLaysF0.n6 Tryz.prog Tryz.mM:={
 mixed:=by kernel_rfl
 f6:=⟨Tryz.f201.name,by decide,Tryz.func201.trans (congrArg some (by kernel_rfl))⟩
 f14:=⟨Tryz.f267.name,by decide,Tryz.func267.trans (congrArg some (by kernel_rfl))⟩
 f15:=Tryz.func152.trans (congrArg some (by kernel_rfl))
 f20:=⟨Tryz.f302.name,by decide,Tryz.func302.trans (congrArg some (by kernel_rfl))⟩
 f21:=⟨Tryz.f303.name,by decide,Tryz.func303.trans (congrArg some (by kernel_rfl))⟩
 f22:=⟨Tryz.f304.name,by decide,Tryz.func304.trans (congrArg some (by kernel_rfl))⟩
 f23:=⟨Tryz.f305.name,by decide,Tryz.func305.trans (congrArg some (by kernel_rfl))⟩
 f24:=⟨Tryz.f306.name,by decide,Tryz.func306.trans (congrArg some (by kernel_rfl))⟩
 f25:=⟨Tryz.f307.name,by decide,Tryz.func307.trans (congrArg some (by kernel_rfl))⟩
 f26:=⟨Tryz.f308.name,by decide,Tryz.func308.trans (congrArg some (by kernel_rfl))⟩
 f27:=⟨Tryz.f309.name,by decide,Tryz.func309.trans (congrArg some (by kernel_rfl))⟩
 f28:=Tryz.func215.trans (congrArg some (by kernel_rfl))
 f29:=Tryz.func216.trans (congrArg some (by kernel_rfl))
 f46:=⟨Tryz.f322.name,by decide,Tryz.func322.trans (congrArg some (by kernel_rfl))⟩
 f47:=Tryz.func270.trans (congrArg some (by kernel_rfl))
 f48:=Tryz.func271.trans (congrArg some (by kernel_rfl))
 f49:=⟨Tryz.f323.name,by decide,Tryz.func323.trans (congrArg some (by kernel_rfl))⟩
 f50:=⟨Tryz.f324.name,by decide,Tryz.func324.trans (congrArg some (by kernel_rfl))⟩
 f57:=⟨Tryz.f335.name,by decide,Tryz.func335.trans (congrArg some (by kernel_rfl))⟩
 t0:=Tryz.underlying0
 a0:=Tryz.isAgg0
 z0:=Tryz.sizeOf0
 v0:=Tryz.zeroValue0
 t3:=Tryz.underlying3
 a3:=Tryz.isAgg3
 z3:=Tryz.sizeOf3
 v3:=Tryz.zeroValue3
 t4:=Tryz.underlying4
 a4:=Tryz.isAgg4
 z4:=Tryz.sizeOf4
 v4:=Tryz.zeroValue4
 t5:=Tryz.underlying5
 a5:=Tryz.isAgg5
 z5:=Tryz.sizeOf5
 v5:=Tryz.zeroValue5
 t9:=Tryz.underlying9
 a9:=Tryz.isAgg9
 z9:=Tryz.sizeOf9
 v9:=Tryz.zeroValue9
 t22:=Tryz.underlying35
 a22:=Tryz.isAgg35
 z22:=Tryz.sizeOf35
 v22:=Tryz.zeroValue35
 t25:=Tryz.underlying136
 a25:=Tryz.isAgg136
 z25:=Tryz.sizeOf136
 v25:=Tryz.zeroValue136
 t39:=Tryz.underlying176
 a39:=Tryz.isAgg176
 z39:=Tryz.sizeOf176
 v39:=Tryz.zeroValue176
 t45:=Tryz.underlying260
 a45:=Tryz.isAgg260
 z45:=Tryz.sizeOf260
 v45:=Tryz.zeroValue260
 t46:=Tryz.underlying261
 a46:=Tryz.isAgg261
 z46:=Tryz.sizeOf261
 v46:=Tryz.zeroValue261
 t50:=Tryz.underlying68
 a50:=Tryz.isAgg68
 z50:=Tryz.sizeOf68
 v50:=Tryz.zeroValue68
 t53:=Tryz.underlying267
 a53:=Tryz.isAgg267
 z53:=Tryz.sizeOf267
 v53:=Tryz.zeroValue267
 t55:=Tryz.underlying51
 a55:=Tryz.isAgg51
 z55:=Tryz.sizeOf51
 v55:=Tryz.zeroValue51
 t66:=Tryz.underlying301
 a66:=Tryz.isAgg301
 z66:=Tryz.sizeOf301
 v66:=Tryz.zeroValue301
 t70:=Tryz.underlying305
 a70:=Tryz.isAgg305
 z70:=Tryz.sizeOf305
 v70:=Tryz.zeroValue305
 t76:=Tryz.underlying327
 a76:=Tryz.isAgg327
 z76:=Tryz.sizeOf327
 v76:=Tryz.zeroValue327
 t77:=Tryz.underlying242
 a77:=Tryz.isAgg242
 z77:=Tryz.sizeOf242
 v77:=Tryz.zeroValue242 }
end Go.Proofs
namespace Go.Proofs.YtijddijloelacaaGreat
open Go.Proofs.YtijddijloelacaaGreat.Am Go.Sort Go.Proofs Go.Lib
variable [Inhabited bY]
variable {G:aG}
theorem Hy(l:List MS)(hl:l.length<=1000000)(h0:0<l.length):
  @aL FE Tryz.prog G 201 [.own 1,.fn 146 []] [.ghost [.own 1,.ae,.ae],.row 57 26 l.length (cJ Ba l)] (.tup []) [.ghost [.own 1,.ae,.ae],.row 57 26 l.length (cJ Ba (ee ud l))] :=
 @aL.uK FE Tryz.prog Tryz.mM G MS _ (fun h=>h) Tryz.EA 26 (by omega) (fun w=>by kernel_rfl) (fun w=>by kernel_rfl) Ba (fun x=>CV x.1) (fun _=>rfl) ud A9 146 [] rfl
  (fun x y=>@Ez FE G x.1 y.1 x.2 y.2) ⟨_,_,Tryz.func201,rfl,rfl⟩ 57 l hl h0
theorem Hz(dn:(default:bY).ns)(l:List MS)(hl:l.length<=1000000)(h0:0<l.length):
  aL Tryz.prog G 201 [.own 1,.fn 146 []] [.ghost [.own 1,.ae,.ae],.row 57 26 l.length (cJ Ba l)] (.tup []) [.ghost [.own 1,.ae,.ae],.row 57 26 l.length (cJ Ba (ee ud l))] :=
 pX dn (Hy l hl h0)
theorem EB(dn:(default:bY).ns)(row:Nat->List A):
  aa Tryz.prog G 144 [.fn 202 [.bref [.sl 0 26 row] 0],.fn 146 []] (.sl 0 26 row):=by
 have h1:=uJ (G:=G) dn 0 row (fun i h=>absurd h (Nat.not_lt_zero i)) (by omega);have h2:=GF (G:=G) row;refine aa.aj ak Tryz.func144 rfl rfl _ rfl ?_;(conv=>whnf);repeat' ((first|refine st ?_|(refine⟨fun h=>?_,fun h=>?_⟩<;>try simp only[af] at h)|(refine .inr (.inr (.inl ?_));(conv=>whnf);refine⟨_,h2,?_⟩)|((first|refine .inr (.inr (.inr ?_))|refine .inr ?_);(conv=>whnf);refine⟨_,_,h1,?_⟩)|refine wf ?_|refine aA ?_|refine nn ?_|fail)<;>conv=>whnf)
 exact .inl fun _ _=>rfl
theorem EC(dn:(default:bY).ns)(l:List MS)(row:Nat->List A)(hr:∀i,i<l.length->row i=cJ Ba l i)(hl:l.length<=1000000)(h0:0<l.length):
  aL Tryz.prog G 144 [.fn 202 [.bref [.sl l.length 26 row] 0],.fn 146 []] [] (.own 0) [.row 57 26 l.length (cJ Ba (ee ud l))]:=by
 have h1:=uJ (G:=G) dn l.length row (fun i h=>by rw[hr i h];rfl) hl;have h2:=Hz (G:=G) dn l hl h0;generalize cJ Ba (ee ud l)=r2 at *;generalize cJ Ba l=r1 at *
 have h3:aL Tryz.prog G 201 [.own 1,.fn 146 []] [.ghost [.own 1,.ae,.ae],.row 57 26 l.length row] (.tup []) [.ghost [.own 1,.ae,.ae],.row 57 26 l.length r2]:=by
  refine aL.fit h2 rfl ?_;show fL _;(conv=>whnf)
  repeat (first|exact fa|((first|refine fb ?_|(refine And.intro ?_ ?_;rotate_left));conv=>whnf))
  all_goals first|exact Or.inl hr
 refine aL.aj ak Tryz.func144 rfl rfl _ rfl ?_;(conv=>whnf);repeat' ((first|refine st ?_|(refine⟨fun h=>?_,fun h=>?_⟩<;>try simp only[af] at h)|(refine .inr (.inl ?_);(conv=>whnf);refine⟨_,_,h3,?_⟩)|((first|refine .inr (.inr (.inr ?_))|refine .inr ?_);(conv=>whnf);refine⟨_,_,h1,?_⟩)|refine wf ?_|refine aA ?_|refine nn ?_|fail)<;>conv=>whnf)
 exact .inl fun _ _=>rfl
/-- The spots that may be, as a list of such. -/
def fU(l:List RS)(h:∀r∈l,gl r):List MS:=l.pmap Subtype.mk h
theorem yu(l:List RS)(h:∀r∈l,gl r):(fU l h).length=l.length:=by simp[fU]
theorem HA(l:List RS)(h:∀r∈l,gl r)(i:Nat)(hi:i<l.length):cJ Ba (fU l h) i=mL (l.getD i default):=by
 unfold cJ Ba fU;simp[List.getD_eq_getElem?_getD,hi]
def CW(l:List RS)(h:∀r∈l,gl r):List MS:=cY (ee ud (fU l h))
theorem Ll(dn:(default:bY).ns)(l:List RS)(hl:l.length<=1000000)(h:∀r∈l,gl r)(h0:0<l.length):
  aa Tryz.prog G 96 [fK l] (.tup [.sl (CW l h).length 26 (cJ ue ((CW l h).map lH)),.int .i64 0]):=by
 have h1:=Ht (G:=G) l h hl;have hlen:=yu l h;have dC:=HA l h;have Aj:=gF ud A9 (fU l h);have h2:=yp (G:=G) l.length (fun i=>mL (l.getD i default));have h3:=EC (G:=G) dn (fU l h) (fun i=>mL (l.getD i default)) (fun i q=>(dC i (by omega)).symm) (by omega) (by omega);have h4:=yt (G:=G) (ee ud (fU l h)) (by omega) (by omega);rw[hlen] at h3;rw[Aj,hlen] at h4;unfold CW;unfold fK at *;generalize cJ ue ((cY (ee ud (fU l h))).map lH)=r3 at *;generalize (cY (ee ud (fU l h))).length=n3 at *;generalize cJ Ba (ee ud (fU l h))=r2 at *;clear dC;refine aa.aj ak Tryz.func96 rfl rfl _ rfl ?_;(conv=>whnf);repeat' ((first|refine st ?_|(refine⟨fun h=>?_,fun h=>?_⟩<;>try simp only[af] at h)|(refine .inl ?_;(conv=>whnf);(first|refine⟨_,h1,?_⟩|refine⟨_,h2,?_⟩))|(refine .inr (.inl ?_);(conv=>whnf);refine⟨_,_,h4,?_⟩)|((first|refine .inr (.inr (.inr ?_))|refine .inr ?_);(conv=>whnf);refine⟨_,_,h3,?_⟩)|refine wf ?_|refine aA ?_|refine nn ?_|fail)<;>conv=>whnf)
 all_goals first|contradiction|skip
 all_goals first|exact⟨.inl fun _ _=>rfl,rfl⟩|exact⟨.inl fun _ _=>rfl,rfl,trivial⟩
theorem HB(dn:(default:bY).ns):
  aa Tryz.prog G 96 [fK []] (.tup [fK [],.int .i64 0]):=by
 have h1:=Ht (G:=G) [] (fun r q=>absurd q (by simp)) (by simp);have h2:=yp (G:=G) 0 (fun i=>mL (([]:List RS).getD i default));have h3:=EB (G:=G) dn (fun i=>mL (([]:List RS).getD i default));have h4:=Eg (G:=G) (fun i=>mL (([]:List RS).getD i default));unfold fK at *;refine aa.aj ak Tryz.func96 rfl rfl _ rfl ?_;(conv=>whnf);repeat' ((first|refine st ?_|(refine⟨fun h=>?_,fun h=>?_⟩<;>try simp only[af] at h)|(refine .inl ?_;(conv=>whnf);(first|refine⟨_,h1,?_⟩|refine⟨_,h2,?_⟩|refine⟨_,h3,?_⟩|refine⟨_,h4,?_⟩))|refine wf ?_|refine aA ?_|refine nn ?_|fail)<;>conv=>whnf)
 all_goals first|contradiction|skip
 all_goals first|exact⟨.inl fun _ _=>rfl,rfl⟩|exact⟨.inl fun _ _=>rfl,rfl,trivial⟩
end Go.Proofs.YtijddijloelacaaGreat
namespace Go.Proofs.YtijddijloelacaaGreat
open Go.Proofs.YtijddijloelacaaGreat.Am Go.Sort Go.Proofs
variable [Inhabited bY]
variable {G:aG}
end Go.Proofs.YtijddijloelacaaGreat
namespace Go.Proofs.YtijddijloelacaaGreat.Am
open Go.Lib
section
variable {α : Type} [Inhabited α] [DecidableEq α] {R : α -> α -> Prop}
/-- What is sorted, each once. -/
theorem lI(L:List α)(ht:∀x y z,R x y->R y z->R x z)(hs:∀i j,i<j->j<L.length->¬R (L.getD j default) (L.getD i default))(hi:∀x∈L,∀y∈L,¬R x y->¬R y x->x=y):
  ∀m,m<=L.length->(compactUpTo L.toArray m).Pairwise R/\∀x,x∈compactUpTo L.toArray m↔∃i,i<m/\L.getD i default=x:=by
 have qB:∀i:Nat,L.toArray[i]! = L.getD i default:=fun i=>by
  rw[List.getD_eq_getElem?_getD];simp[Array.getElem!_eq_getD,Array.getD_eq_getD_getElem?]
 have jn:∀i,i<L.length->L.getD i default∈L:=fun i h=>by
  rw[List.getD_eq_getElem?_getD,List.getElem?_eq_getElem h];exact List.getElem_mem _
 intro m
 induction m with
 | zero=>intro _;exact⟨by simp[compactUpTo],fun x=>by simp[compactUpTo]⟩
 | succ m ih =>
  intro hm;obtain⟨h1,h2⟩:=ih (by omega);rw[compactUpTo_succ];by_cases hk:keeps L.toArray m
  ·rw[if_pos hk,qB];refine⟨List.pairwise_append.2 ⟨h1,by simp,fun x hx y hy=>?_⟩,fun x=>?_⟩
   ·obtain⟨i,uc,rfl⟩:=(h2 x).1 hx;rw[List.mem_singleton.1 hy];refine Classical.byContradiction fun hn=>?_;have e:=hi _ (jn i (by omega)) _ (jn m (by omega)) hn (hs i m uc (by omega));have XI:m≠0:=by omega
    have gn:L.getD m default≠L.getD (m-1) default:=by
     unfold keeps at hk;rw[qB,qB] at hk;simpa[XI] using hk
    refine gn ?_;refine hi _ (jn m (by omega)) _ (jn (m-1) (by omega)) (hs (m-1) m (by omega) (by omega)) ?_;intro hr;rcases Nat.lt_or_ge i (m-1) with h|h
    ·rw[<-e] at hr;exact hs i (m-1) h (by omega) hr
    ·have:i=m-1:=by omega
     subst this;exact hn hr
   ·rw[List.mem_append,h2,List.mem_singleton];constructor
    ·rintro(⟨i,h,e⟩|h)
     ·exact⟨i,by omega,e⟩
     ·exact⟨m,by omega,h.symm⟩
    ·rintro⟨i,h,e⟩;rcases Nat.lt_or_ge i m with h'|h'
     ·exact .inl ⟨i,h',e⟩
     ·have:i=m:=by omega
      subst this;exact .inr e.symm
  ·rw[if_neg hk,List.append_nil]
   have gn:m≠0/\L.getD m default=L.getD (m-1) default:=by
    unfold keeps at hk;rw[qB,qB] at hk;simpa using hk
   refine⟨h1,fun x=>?_⟩;rw[h2];constructor
   ·rintro⟨i,h,e⟩;exact⟨i,by omega,e⟩
   ·rintro⟨i,h,e⟩;rcases Nat.lt_or_ge i m with h'|h'
    ·exact⟨i,h',e⟩
    ·have:i=m:=by omega
     subst this;exact⟨i-1,by omega,by rw[<-gn.2];exact e⟩
theorem oV(hr:∀x,¬R x x)(ha:∀x y,R x y->R y x->False):∀(l m:List α),l.Pairwise R->m.Pairwise R->(∀x,x∈l↔x∈m)->l=m
 | [],[],_,_,_=>rfl
 | [],b::m,_,_,h=>by have:=(h b).2 (List.mem_cons_self ..);cases this
 | a::l,[],_,_,h=>by have:=(h a).1 (List.mem_cons_self ..);cases this
 | a::l,b::m,h1,h2,h=>by
  have g1:=List.pairwise_cons.1 h1;have g2:=List.pairwise_cons.1 h2;have Rg:∀p q,R p q->p≠q:=fun p q h e=>by subst e;exact hr _ h
  have e:a=b:=by
   rcases List.mem_cons.1 ((h a).1 (List.mem_cons_self ..)) with e|Qr
   ·exact e
   ·rcases List.mem_cons.1 ((h b).2 (List.mem_cons_self ..)) with e|hb
    ·exact e.symm
    ·exact(ha _ _ (g2.1 a Qr) (g1.1 b hb)).elim
  subst e;rw[oV hr ha l m g1.2 g2.2 fun x=>?_];constructor
  ·intro hx;rcases List.mem_cons.1 ((h x).1 (List.mem_cons_of_mem _ hx)) with e|h'
   ·exact absurd e.symm (Rg _ _ (g1.1 x hx))
   ·exact h'
  ·intro hx;rcases List.mem_cons.1 ((h x).2 (List.mem_cons_of_mem _ hx)) with e|h'
   ·exact absurd e.symm (Rg _ _ (g2.1 x hx))
   ·exact h'
variable [DecidableRel R]
/-- How far what is put in goes, of the first k. -/
def yv(R:α->α->Prop)[DecidableRel R](l:List α)(c:α):Nat->Nat
 | 0=>0
 | k+1=>if R (l.getD k default) c then k+1 else yv R l c k
theorem oW(l:List α)(c:α):∀k,yv R l c k<=k
 | 0=>Nat.le_refl _
 | k+1=>by
  have:=oW l c k;unfold yv;split<;>omega
theorem HC(l:List α)(c:α):∀k i,yv R l c k<=i->i<k->¬R (l.getD i default) c
 | 0,i,_,h=>by omega
 | k+1,i,h,hi=>by
  unfold yv at h;split at h
  ·omega
  ·rcases Nat.lt_or_ge i k with h'|h'
   ·exact HC l c k i h h'
   ·have:i=k:=by omega
    subst this;assumption
theorem HD(l:List α)(c:α):∀k,0<yv R l c k->R (l.getD (yv R l c k-1) default) c
 | 0,h=>by simp[yv] at h
 | k+1,h=>by
  unfold yv at h ⊢;split
  ·simpa using by assumption
  ·rename_i hn;rw[if_neg hn] at h;exact HD l c k h
def nU(R:α->α->Prop)[DecidableRel R](l:List α)(c:α):List α:=if c∈l then l else l.take (yv R l c l.length)++c::l.drop (yv R l c l.length)
theorem sG(ht:∀x y z,R x y->R y z->R x z)(l:List α)(c:α)(hl:l.Pairwise R)(hi:∀x∈l,¬R x c->¬R c x->x=c):
  (nU R l c).Pairwise R/\∀x,x∈nU R l c↔x=c\/x∈l:=by
 unfold nU;by_cases hc:c∈l
 ·rw[if_pos hc];refine⟨hl,fun x=>⟨.inr,?_⟩⟩;rintro(rfl|h)
  ·exact hc
  ·exact h
 ·rw[if_neg hc];have hle:=oW (R:=R) l c l.length;have HE:=HC (R:=R) l c l.length;have gp:=HD (R:=R) l c l.length;generalize yv R l c l.length=a at *;have hp:=List.pairwise_iff_getElem.1 hl;have gd:∀i (h:i<l.length),l.getD i default=l[i]:=fun i h=>by rw[List.getD_eq_getElem?_getD,List.getElem?_eq_getElem h];rfl
  have Ux:∀x∈l.take a,R x c:=fun x hx=>by
   obtain⟨i,h,rfl⟩:=List.getElem_of_mem hx;rw[List.length_take] at h;rw[List.getElem_take];have h3:=gp (by omega);rw[gd (a-1) (by omega)] at h3;rcases Nat.lt_or_ge i (a-1) with h4|h4
   ·exact ht _ _ _ (hp i (a-1) (by omega) (by omega) h4) h3
   ·have:i=a-1:=by omega
    subst this;exact h3
  have RL:∀x∈l.drop a,R c x:=fun x hx=>by
   obtain⟨i,h,rfl⟩:=List.getElem_of_mem hx;rw[List.length_drop] at h;rw[List.getElem_drop];have h3:=HE (a+i) (by omega) (by omega);rw[gd (a+i) (by omega)] at h3;refine Classical.byContradiction fun hn=>?_;have e:=hi _ (List.getElem_mem (by omega:a+i<l.length)) h3 hn;exact hc (by rw[<-e];exact List.getElem_mem _)
  have HF:l.take a++l.drop a=l:=List.take_append_drop a l;have XJ:(l.take a++l.drop a).Pairwise R:=by rw[HF];exact hl
  obtain⟨p1,p2,p3⟩:=List.pairwise_append.1 XJ;refine⟨List.pairwise_append.2 ⟨p1,List.pairwise_cons.2 ⟨RL,p2⟩,fun x hx y hy=>?_⟩,fun x=>?_⟩
  ·rcases List.mem_cons.1 hy with rfl|hy
   ·exact Ux x hx
   ·exact p3 x hx y hy
  ·rw[List.mem_append,List.mem_cons];have hx:x∈l↔x∈l.take a\/x∈l.drop a:=by rw[<-List.mem_append,HF]
   rw[hx];constructor
   ·rintro(h|h|h)
    ·exact .inr (.inl h)
    ·exact .inl h
    ·exact .inr (.inr h)
   ·rintro(h|h|h)
    ·exact .inr (.inl h)
    ·exact .inl h
    ·exact .inr (.inr h)
end
end Go.Proofs.YtijddijloelacaaGreat.Am
namespace Go.Proofs.YtijddijloelacaaGreat
open Go.Proofs.YtijddijloelacaaGreat.Am Go.Sort Go.Proofs Go.Lib
variable [Inhabited bY]
variable {G:aG}
def vZ(a b:MS):Prop:=jK a.1 b.1<0
instance:DecidableRel vZ:=fun a b=>inferInstanceAs (Decidable (jK a.1 b.1 < 0))
def OP(c:MS)(L:List MS):Bool:=L.any fun x=>decide (jK x.1 c.1=0)
def v7(L:List MS)(c:MS):List MS:=if OP c L=true then L else L.take (yv vZ L c L.length)++c::L.drop (yv vZ L c L.length)
theorem HG(L:List MS)(c:MS):(v7 L c).length<=L.length+1:=by
 unfold v7;split
 ·omega
 ·have:=oW (R:=vZ) L c L.length;simp;omega
def cZ(l:List MS):List MS:=l.foldl v7 []
theorem yw(l:List MS)(i:Nat)(h:i<l.length):cZ (l.take (i+1))=v7 (cZ (l.take i)) (l.getD i default):=by
 unfold cZ;rw[List.take_add_one,List.foldl_append,List.getElem?_eq_getElem h,List.getD_eq_getElem?_getD,List.getElem?_eq_getElem h];rfl
theorem sH(l:List MS):∀k,k<=l.length->(cZ (l.take k)).length<=k
 | 0,_=>by simp[cZ]
 | k+1,h=>by
  rw[yw l k (by omega)];exact Nat.le_trans (HG _ _) (by have:=sH l k (by omega);omega)
end Go.Proofs.YtijddijloelacaaGreat
namespace Go.Proofs.YtijddijloelacaaGreat
open Go.Proofs.YtijddijloelacaaGreat.Am Go.Sort Go.Proofs Go.Lib
variable [Inhabited bY]
theorem oX(x y z:MS)(h1:vZ x y)(h2:vZ y z):vZ x z:=sC x.2.2.1 y.2.2.1 z.2.2.1 h1 h2
theorem v8(x:MS):¬vZ x x:=by unfold vZ;rw[oT];omega
theorem Lm(x y:MS)(h1:vZ x y)(h2:vZ y x):False:=v8 x (oX x y x h1 h2)
theorem HI{x y:MS}(h:jK x.1 y.1=0):x=y:=Subtype.ext (Ey x.2 y.2 h)
theorem M8{x y:MS}(h1:¬vZ x y)(h2:¬vZ y x):x=y:=by
 unfold vZ at *;rw[vY] at h1 h2;exact HI ((A7 _ _).2 ⟨by omega,by omega⟩)
theorem CX(c:MS)(L:List MS):OP c L=true↔c∈L:=by
 unfold OP;rw[List.any_eq_true];constructor
 ·rintro⟨x,h1,h2⟩;rw[<-HI (of_decide_eq_true h2)];exact h1
 ·intro h;exact⟨c,h,decide_eq_true (oT _)⟩
theorem Ln(L:List MS)(c:MS):v7 L c=nU vZ L c:=by
 unfold v7 nU;by_cases h:c∈L
 ·rw[if_pos ((CX c L).2 h),if_pos h]
 ·rw[if_neg (fun q=>h ((CX c L).1 q)),if_neg h]
theorem gI:∀(M L:List MS),L.Pairwise vZ->(M.foldl v7 L).Pairwise vZ/\(∀x,x∈M.foldl v7 L↔x∈L\/x∈M)
 | [],L,h=>⟨h,fun x=>by simp⟩
 | c::M,L,h=>by
  obtain⟨p1,p2⟩:=sG oX L c h (fun x _=>M8);rw[<-Ln] at p1 p2;obtain⟨q1,q2⟩:=gI M (v7 L c) p1;refine⟨q1,fun x=>?_⟩;rw[List.foldl_cons,q2,p2,List.mem_cons];constructor
  ·rintro((h|h)|h)
   ·exact .inr (.inl h)
   ·exact .inl h
   ·exact .inr (.inr h)
  ·rintro(h|h|h)
   ·exact .inl (.inr h)
   ·exact .inl (.inl h)
   ·exact .inr h
theorem yx(L:List MS):(cY (ee ud L)).Pairwise vZ/\∀x,x∈cY (ee ud L)↔x∈L:=by
 obtain⟨hp,hs⟩:=cP ud A9 L;have hlen:=hp.length_eq
 obtain⟨c1,c2⟩:=lI (R:=vZ) (ee ud L) oX (fun i j kU hj hr=>by
  have:=hs i j kU (by omega);rw[(A8 _ _).2 hr] at this;exact Bool.noConfusion this) (fun x _ y _=>M8) (ee ud L).length (Nat.le_refl _)
 refine⟨c1,fun x=>?_⟩;show x∈compactUpTo _ _↔_;rw[c2,<-hp.mem_iff];constructor
 ·rintro⟨i,hi,rfl⟩;rw[List.getD_eq_getElem?_getD,List.getElem?_eq_getElem hi];exact List.getElem_mem _
 ·intro hx;obtain⟨i,hi,e⟩:=List.getElem_of_mem hx;exact⟨i,hi,by rw[List.getD_eq_getElem?_getD,List.getElem?_eq_getElem hi];exact e⟩
/-- The program's list is the document's. -/
theorem Bb(L:List MS):cY (ee ud L)=cZ L:=by
 obtain⟨a1,a2⟩:=yx L;obtain⟨b1,b2⟩:=gI L [] List.Pairwise.nil;refine oV v8 Lm _ _ a1 b1 fun x=>?_;rw[a2,show(x∈cZ L↔x∈L) from by unfold cZ;rw[b2];simp]
end Go.Proofs.YtijddijloelacaaGreat
namespace Go.Proofs.YtijddijloelacaaGreat
open Go.Proofs.YtijddijloelacaaGreat.Am Go.Sort Go.Proofs Go.Lib
variable [Inhabited bY]
variable {G:aG}
def lk(L:List MS):List RS:=L.map (·.1)
theorem HJ(L:List MS):cJ ue (L.map lH)=fun i=>mL ((lk L).getD i default):=by
 funext i
 unfold cJ ue lk
 congr 1
 rw[List.getD_eq_getElem?_getD,List.getD_eq_getElem?_getD,List.getElem?_map,List.getElem?_map];cases L[i]?<;>rfl
theorem OQ(dn:(default:bY).ns)(l:List RS)(hl:l.length<=10000)(h:∀r∈l,gl r):
  aa Tryz.prog G 96 [fK l] (.tup [fK (lk (cZ (fU l h))),.int .i64 0]):=by
 by_cases h0:l=[]
 ·subst h0;exact HB dn
 ·have k:=Ll (G:=G) dn l (by omega) h (List.length_pos_iff.2 h0);rw[HJ] at k;unfold CW at k;rw[Bb] at k;have e:(cZ (fU l h)).length=(lk (cZ (fU l h))).length:=by simp[lk]
  rw[e] at k;exact k
end Go.Proofs.YtijddijloelacaaGreat
namespace Go.Proofs.YtijddijloelacaaGreat
open Go.Proofs.YtijddijloelacaaGreat.Am
variable [Inhabited bY]
variable {G:aG}
def ug(n d:Int):Prop:=n<0\/d<1\/d<n
instance (n d:Int):Decidable (ug n d):=inferInstanceAs (Decidable (_\/_))
def gP(n d:Int):Nat:=Nat.gcd n.toNat d.toNat
def c9(n d:Int):Int:=if ug n d then 0 else ((n.toNat/gP n d:Nat):Int)
def cq(n d:Int):Int:=if ug n d then 1 else ((d.toNat/gP n d:Nat):Int)
theorem oY(n d:Int)(hd:d<=9223372036854775807):0<=c9 n d/\c9 n d<=cq n d/\1<=cq n d/\cq n d<=9223372036854775807:=by
 unfold c9 cq;by_cases h:ug n d
 ·rw[if_pos h,if_pos h];decide
 ·rw[if_neg h,if_neg h];unfold ug at h;have hp:0<gP n d:=Nat.gcd_pos_of_pos_right _ (by omega);have h1:n.toNat/gP n d<=d.toNat/gP n d:=Nat.div_le_div_right (by omega);have h2:0<d.toNat/gP n d:=Nat.div_pos (Nat.le_of_dvd (by omega) (Nat.gcd_dvd_right _ _)) hp;have h3:d.toNat/gP n d<=d.toNat:=Nat.div_le_self _ _;generalize n.toNat/gP n d=u at *;generalize d.toNat/gP n d=v at *;omega
theorem OR(N g D:Nat)(h:N<=D)(hD:(D:Int)<=9223372036854775807):IntKind.i64.wrap ((N:Int).tdiv (g:Int))=((N/g:Nat):Int):=by
 have e:(N:Int).tdiv (g:Int)=((N/g:Nat):Int):=rfl;have:=Nat.div_le_self N g;rw[e];generalize N/g=q at *;rw[IntKind.wrap_i64];omega
theorem OS(n d:Int)(hd:d<=9223372036854775807):aa Tryz.prog G 188 [.int .i64 n,.int .i64 d] (.tup [.int .i64 (c9 n d),.int .i64 (cq n d)]):=by
 unfold c9 cq;by_cases hB:ug n d
 ·rw[if_pos hB,if_pos hB];unfold ug at hB;refine aa.aj ak Tryz.func188 rfl rfl _ rfl ?_;(conv=>whnf);repeat' ((first|refine st ?_|(refine⟨fun h=>?_,fun h=>?_⟩<;>try simp only[af] at h)|refine wf ?_|refine aA ?_|refine nn ?_|fail)<;>conv=>whnf)
  all_goals first|contradiction|(exfalso;omega)|skip
 ·rw[if_neg hB,if_neg hB];have h1:0<=n/\1<=d/\n<=d:=by unfold ug at hB;omega
  obtain⟨N,rfl⟩:∃N:Nat,n=N:=⟨n.toNat,by omega⟩;obtain⟨D,rfl⟩:∃D:Nat,d=D:=⟨d.toNat,by omega⟩;unfold gP;rw[Int.toNat_natCast,Int.toNat_natCast];refine aa.aj ak Tryz.func188 rfl rfl _ rfl ?_;(conv=>whnf);repeat' ((first|(exact absurd (show((N:Nat):Int)<0 by assumption) (by omega))|(exact absurd (show((D:Nat):Int)<1 by assumption) (by omega))|(exact absurd (show((D:Nat):Int)<N by assumption) (by omega))|refine st ?_|(refine⟨fun h=>?_,fun h=>?_⟩<;>try simp only[af] at h)|refine wf ?_|refine aA ?_|refine nn ?_|fail)<;>conv=>whnf)
  refine al (fun x:Nat×Nat=>Nat.gcd x.1 x.2=Nat.gcd N D/\0<x.2/\x.1<=D/\x.2<=D) (fun x=>match x with|(a,b)=>[(6,.int .i64 (a:Int)),(7,.int .i64 (b:Int))]) (fun _=>[]) (fun x=>x.1) (N,D) ⟨rfl,by omega,by omega,Nat.le_refl _⟩ ?_ ?_
  ·conv=>whnf
   repeat (first|exact fa|((first|refine fb ?_|(refine And.intro ?_ ?_;rotate_left));conv=>whnf))
  ·rintro⟨a,b⟩ ⟨hg,hb,Wq,lZ⟩;simp only at hg hb Wq lZ;(conv=>whnf);repeat' ((first|refine st ?_|(refine⟨fun h=>?_,fun h=>?_⟩<;>try simp only[af] at h)|refine wf ?_|refine aA ?_|refine nn ?_|fail)<;>conv=>whnf)
   ·have ha:0<a:=by omega
    have hm:=Nat.mod_lt b ha;refine⟨(b%a,a),⟨by show Nat.gcd (b%a) a=_;rw[<-hg,<-Nat.gcd_rec],ha,(by show b%a<=D;omega),Wq⟩,hm,?_⟩;(conv=>whnf)
    repeat (first|exact fa|((first|refine fb ?_|(refine And.intro ?_ ?_;rotate_left));conv=>whnf))
   ·have ha:a=0:=by omega
    subst ha;rw[Nat.gcd_zero_left] at hg;subst hg;repeat' ((first|refine st ?_|(refine⟨fun h=>?_,fun h=>?_⟩<;>try simp only[af] at h)|refine wf ?_|refine aA ?_|refine nn ?_|fail)<;>conv=>whnf)
    refine⟨OR N _ D (by omega) hd,?_⟩;(conv=>whnf)
    first|exact OR D _ D (Nat.le_refl _) hd|exact⟨OR D _ D (Nat.le_refl _) hd,trivial⟩
structure W8 where
 a:Nat
 b:Nat
 c:Nat
 d:Nat
 e:Nat
 f:Nat
 g:Nat
 h:Nat
 deriving Inhabited,DecidableEq
structure Ct where
 n:Int
 d:Int
 p:Bool
 q:Bool
 X:W8
 Y:W8
 W:W8
 deriving Inhabited,DecidableEq
def w8(f:Nat->Nat):W8:=⟨f 0,f 1,f 2,f 3,f 4,f 5,f 6,f 7⟩
def OT(c:Ct):List A:=[.sb c.p,.int .u64 (c.X.a:Nat),.int .u64 (c.X.b:Nat),.int .u64 (c.X.c:Nat),.int .u64 (c.X.d:Nat),.int .u64 (c.X.e:Nat),.int .u64 (c.X.f:Nat),.int .u64 (c.X.g:Nat),.int .u64 (c.X.h:Nat),
 .sb c.q,.int .u64 (c.Y.a:Nat),.int .u64 (c.Y.b:Nat),.int .u64 (c.Y.c:Nat),.int .u64 (c.Y.d:Nat),.int .u64 (c.Y.e:Nat),.int .u64 (c.Y.f:Nat),.int .u64 (c.Y.g:Nat),.int .u64 (c.Y.h:Nat),
 .int .u64 (c.W.a:Nat),.int .u64 (c.W.b:Nat),.int .u64 (c.W.c:Nat),.int .u64 (c.W.d:Nat),.int .u64 (c.W.e:Nat),.int .u64 (c.W.f:Nat),.int .u64 (c.W.g:Nat),.int .u64 (c.W.h:Nat)]
def uL(c:Ct):List A:=[.int .i64 c.n,.int .i64 c.d,.sb c.p,.int .u64 (c.X.a:Nat),.int .u64 (c.X.b:Nat),.int .u64 (c.X.c:Nat),.int .u64 (c.X.d:Nat),.int .u64 (c.X.e:Nat),.int .u64 (c.X.f:Nat),.int .u64 (c.X.g:Nat),.int .u64 (c.X.h:Nat),
 .sb c.q,.int .u64 (c.Y.a:Nat),.int .u64 (c.Y.b:Nat),.int .u64 (c.Y.c:Nat),.int .u64 (c.Y.d:Nat),.int .u64 (c.Y.e:Nat),.int .u64 (c.Y.f:Nat),.int .u64 (c.Y.g:Nat),.int .u64 (c.Y.h:Nat),
 .int .u64 (c.W.a:Nat),.int .u64 (c.W.b:Nat),.int .u64 (c.W.c:Nat),.int .u64 (c.W.d:Nat),.int .u64 (c.W.e:Nat),.int .u64 (c.W.f:Nat),.int .u64 (c.W.g:Nat),.int .u64 (c.W.h:Nat)]
def uM(c:Ct):Prop:=0<=c.n/\c.n<=c.d/\1<=c.d/\c.d<=9223372036854775807
instance (c:Ct):Decidable (uM c):=inferInstanceAs (Decidable (_/\_))
abbrev Cu:Type:={ c:Ct//uM c }

instance:Inhabited Cu:=⟨⟨⟨0,1,false,false,default,default,default⟩,by decide⟩⟩
def yy(c:Cu):List A:=uL c.1
/-- A cut of parts, at a spot that is made lowest. -/
def RM(n d x y:Int)(w:Nat):Ct:=⟨n,d,decide (qz x (gg x y w)<0),decide (qz y (gg x y w)<0),w8 (wW (qz x (gg x y w)).natAbs),w8 (wW (qz y (gg x y w)).natAbs),w8 (wW (w/gg x y w))⟩
def FJ(s:Sg)(n d:Int):Ct:=RM (c9 n d) (cq n d) (xS s (c9 n d) (cq n d)) (yS s (c9 n d) (cq n d)) (cq n d).toNat
theorem HK(s:Sg)(n d:Int)(h:d<=9223372036854775807):uM (FJ s n d):=oY n d h
def nA(s:Sg)(n d:Int):Cu:=if h:d<=9223372036854775807 then ⟨FJ s n d,HK s n d h⟩ else default
theorem eZ{s:Sg}{n d:Int}(h:d<=9223372036854775807):(nA s n d).1=FJ s n d:=by unfold nA;rw[dif_pos h]
theorem wa(c:Ct):∃n d p q X Y W,c=⟨n,d,p,q,X,Y,W⟩:=⟨_,_,_,_,_,_,_,rfl⟩
theorem HL(s:Sg)(n d:Int):∃c:Ct,FJ s n d=c/\AY (xS s (c9 n d) (cq n d)) (yS s (c9 n d) (cq n d)) (cq n d).toNat=.agg (OT c)/\c.n=c9 n d/\c.d=cq n d:=⟨_,rfl,rfl,rfl,rfl⟩
theorem rb(s:Sg)(n d:Int)(hL:bU s)(hd:d<=9223372036854775807):aa Tryz.prog G 137 [.agg (j9 s),.int .i64 n,.int .i64 d] (.agg (yy (nA s n d))):=by
 have c1:=OS (G:=G) n d hd;obtain⟨l1,l2,l3,l4⟩:=oY n d hd;have c2:=OB (G:=G) s (c9 n d) (cq n d) ⟨hL,l3,l1,l2⟩ l4;unfold yy;rw[eZ hd];obtain⟨c,e1,e2,e3,e4⟩:=HL s n d;rw[e1];rw[e2] at c2;rw[<-e3,<-e4] at c1 c2;clear e1 e2 e3 e4 l1 l2 l3 l4;obtain⟨N,D,p,q,X,Y,W,rfl⟩:=wa c;refine aa.aj ak Tryz.func137 rfl rfl _ rfl ?_;(conv=>whnf);repeat' ((first|refine st ?_|(refine⟨fun h=>?_,fun h=>?_⟩<;>try simp only[af] at h)|(refine .inl ?_;(conv=>whnf);(first|refine⟨_,c1,?_⟩|refine⟨_,c2,?_⟩))|refine wf ?_|refine aA ?_|refine nn ?_|fail)<;>conv=>whnf)
 all_goals first|contradiction|(exfalso;omega)|skip
def Lo(s:Sg)(p:Pt):Cu:=nA s (cy s.a s.b p) (cy s.a s.b s.b)
theorem RN(a b:Pt):aa Tryz.prog G 196 [.agg (kY a),.agg (kY b)] (.int .i64 (cy a b b)):=by
 have h:=vH (G:=G) a b b;refine aa.aj ak Tryz.func196 rfl rfl _ rfl ?_;(conv=>whnf);repeat' ((first|refine st ?_|(refine⟨fun h=>?_,fun h=>?_⟩<;>try simp only[af] at h)|(refine .inl ?_;(conv=>whnf);refine⟨_,h,?_⟩)|refine wf ?_|refine aA ?_|refine nn ?_|fail)<;>conv=>whnf)
theorem sI(a b c:Pt):cy a b c<=9223372036854775807:=by
 unfold cy;split
 ·rename_i h;have:=(rP h).2.2.2.1;omega
 ·omega
def Wr:Ct:=⟨0,0,false,false,default,default,default⟩
theorem M9(s:Sg)(p:Pt):aa Tryz.prog G 139 [.agg (j9 s),.agg (kY p)] (if jA s p then .tup [.agg (yy (Lo s p)),.int .i64 0] else .tup [.agg (uL Wr),.int .i64 1]):=by
 have h0:=vJ (G:=G) s p;have h1:=vH (G:=G) s.a s.b p;have h2:=RN (G:=G) s.a s.b;by_cases hO:jA s p
 ·rw[if_pos hO];rw[decide_eq_true hO] at h0;have h3:=rb (G:=G) s (cy s.a s.b p) (cy s.a s.b s.b) hO.1 (sI _ _ _);unfold Lo yy at *;generalize (nA s (cy s.a s.b p) (cy s.a s.b s.b)).1=c at *;generalize cy s.a s.b p=D1 at *;generalize cy s.a s.b s.b=D2 at *;refine aa.aj ak Tryz.func139 rfl rfl _ rfl ?_;(conv=>whnf);repeat' ((first|refine st ?_|(refine⟨fun h=>?_,fun h=>?_⟩<;>try simp only[af] at h)|(refine .inl ?_;(conv=>whnf);(first|refine⟨_,h0,?_⟩|refine⟨_,h1,?_⟩|refine⟨_,h2,?_⟩|refine⟨_,h3,?_⟩))|refine wf ?_|refine aA ?_|refine nn ?_|fail)<;>conv=>whnf)
  all_goals first|contradiction|(exfalso;omega)|skip
 ·rw[if_neg hO];rw[decide_eq_false hO] at h0;refine aa.aj ak Tryz.func139 rfl rfl _ rfl ?_;(conv=>whnf);repeat' ((first|refine st ?_|(refine⟨fun h=>?_,fun h=>?_⟩<;>try simp only[af] at h)|(refine .inl ?_;(conv=>whnf);refine⟨_,h0,?_⟩)|refine wf ?_|refine aA ?_|refine nn ?_|fail)<;>conv=>whnf)
  all_goals first|contradiction|(exfalso;omega)|rfl|skip
theorem RO{s t:Sg}(h:(bq s t).k=2):jA s (bq s t).p/\jA s (bq s t).q/\jA t (bq s t).p/\jA t (bq s t).q:=by
 have hT:cL s t:=(mW s t).1 (by omega);unfold bq at *;rw[if_pos hT] at *;by_cases hd:rD s t=0
 ·rw[if_pos hd] at *;obtain⟨f,l,hE,hR⟩:=exts hT ((jC s t hT).2 hd);rw[hR] at h ⊢;unfold Tl at h ⊢;by_cases hf:f=l
  ·rw[if_neg (fun q=>q hf)] at h;exact absurd (show(1:Int)=2 from h) (by decide)
  ·rw[if_pos hf];exact⟨hE.fb.1,hE.lb.1,hE.fb.2,hE.lb.2⟩
 ·rw[if_neg hd] at h;have:=(rX hT hd).2.2.2.2;omega
theorem ED(s t:Sg):(bq s t).k=0\/(bq s t).k=1\/(bq s t).k=2:=by
 by_cases hT:cL s t
 ·unfold bq;rw[if_pos hT];by_cases hd:rD s t=0
  ·rw[if_pos hd];obtain⟨f,l,hE,hR⟩:=exts hT ((jC s t hT).2 hd);rw[hR];unfold Tl;split
   ·exact .inr (.inr rfl)
   ·exact .inr (.inl rfl)
  ·rw[if_neg hd];exact .inr (.inl (rX hT hd).2.2.2.2)
 ·exact .inl (Classical.byContradiction fun h=>hT ((mW s t).1 h))
def oI(s t:Sg):List Cu:=if (bq s t).k=1 then [nA s (bq s t).n (bq s t).d] else if (bq s t).k=2 then [Lo s (bq s t).p,Lo s (bq s t).q] else []
def jr(l:List Cu):Nat->List A:=fun i=>yy (l.getD i default)
def sJ(l:List Cu):A:=.sl l.length 28 (jr l)
theorem M'(s t:Sg):aa Tryz.prog G 94 [.agg (j9 s),.agg (j9 t)] (sJ (oI s t)):=by
 have hm:=Ul (G:=G) s t;rcases ED s t with hk|hk|hk
 ·have e:oI s t=[]:=by unfold oI;rw[if_neg (by omega),if_neg (by omega)]
  rw[e];generalize bq s t=m at *;obtain⟨k,n,mm,d,p,q⟩:=m;simp only at hk;subst hk;refine aa.aj ak Tryz.func94 rfl rfl _ rfl ?_;(conv=>whnf);repeat' ((first|refine st ?_|(refine⟨fun h=>?_,fun h=>?_⟩<;>try simp only[af] at h)|(refine .inl ?_;(conv=>whnf);refine⟨_,hm,?_⟩)|refine wf ?_|refine aA ?_|refine nn ?_|fail)<;>conv=>whnf)
  all_goals first|contradiction|(exfalso;omega)|rfl|(refine Or.inl fun i hi=>?_;rcases i with _|_|_|_|i<;>first|rfl|omega)
 ·have e:oI s t=[nA s (bq s t).n (bq s t).d]:=by unfold oI;rw[if_pos hk]
  obtain⟨hT,_,_,_,_,_,hd,_⟩:=sA s t hk;have h1:=rb (G:=G) s (bq s t).n (bq s t).d hT.1 hd;rw[e];generalize nA s (bq s t).n (bq s t).d=c at *;generalize bq s t=m at *;obtain⟨k,n,mm,d,p,q⟩:=m;simp only at hk h1;subst hk;unfold yy at h1;refine aa.aj ak Tryz.func94 rfl rfl _ rfl ?_;(conv=>whnf);repeat' ((first|refine st ?_|(refine⟨fun h=>?_,fun h=>?_⟩<;>try simp only[af] at h)|(refine .inl ?_;(conv=>whnf);(first|refine⟨_,hm,?_⟩|refine⟨_,h1,?_⟩))|refine wf ?_|refine aA ?_|refine nn ?_|fail)<;>conv=>whnf)
  all_goals first|contradiction|(exfalso;omega)|rfl|(refine Or.inl fun i hi=>?_;rcases i with _|_|_|_|i<;>first|rfl|omega)
 ·have e:oI s t=[Lo s (bq s t).p,Lo s (bq s t).q]:=by unfold oI;rw[if_neg (by omega),if_pos hk]
  obtain⟨o1,o2,_,_⟩:=RO hk;have h1:=M9 (G:=G) s (bq s t).p;have h2:=M9 (G:=G) s (bq s t).q;rw[if_pos o1] at h1;rw[if_pos o2] at h2;rw[e];generalize Lo s (bq s t).p=c1 at *;generalize Lo s (bq s t).q=c2 at *;generalize bq s t=m at *;obtain⟨k,n,mm,d,p,q⟩:=m;simp only at hk h1 h2;subst hk;unfold yy at h1 h2;refine aa.aj ak Tryz.func94 rfl rfl _ rfl ?_;(conv=>whnf);repeat' ((first|refine st ?_|(refine⟨fun h=>?_,fun h=>?_⟩<;>try simp only[af] at h)|(refine .inl ?_;(conv=>whnf);(first|refine⟨_,hm,?_⟩|refine⟨_,h1,?_⟩|refine⟨_,h2,?_⟩))|refine wf ?_|refine aA ?_|refine nn ?_|fail)<;>conv=>whnf)
  all_goals first|contradiction|(exfalso;omega)|rfl|(refine Or.inl fun i hi=>?_;rcases i with _|_|_|_|i<;>first|rfl|omega)
end Go.Proofs.YtijddijloelacaaGreat
namespace Go.Proofs.YtijddijloelacaaGreat
open Go.Proofs.YtijddijloelacaaGreat.Am Go.Sort
variable [Inhabited bY]
variable {G:aG}
def EE(a b:Cu):Nat:=a.1.n.toNat*b.1.d.toNat
def jt(a b:Cu):Prop:=EE a b<EE b a
instance (a b:Cu):Decidable (jt a b):=inferInstanceAs (Decidable (_ < _))
def tV(a b:Cu):Int:=cx [dJ (EE a b/18446744073709551616) (EE b a/18446744073709551616),dJ (EE a b%18446744073709551616) (EE b a%18446744073709551616)]
theorem EF(x y:Nat):cx [dJ (x/18446744073709551616) (y/18446744073709551616),dJ (x%18446744073709551616) (y%18446744073709551616)]<0↔x<y:=by
 unfold dJ;simp only[cx];repeat' split
 all_goals omega
theorem Bc(a b:Cu):ltOf tV a b=true↔jt a b:=by
 unfold ltOf jt tV;rw[decide_eq_true_iff];exact EF _ _
theorem oZ(a:Cu):0<a.1.d.toNat:=by have:=a.2;unfold uM at this;omega
theorem o7(a b c:Cu)(h1:jt a b)(h2:jt b c):jt a c:=by
 unfold jt EE at *;have pa:=oZ a;have pb:=oZ b;have pc:=oZ c;generalize a.1.n.toNat=an at *;generalize b.1.n.toNat=bn at *;generalize c.1.n.toNat=cn at *;generalize a.1.d.toNat=ad at *;generalize b.1.d.toNat=bd at *;generalize c.1.d.toNat=cd at *;have e1:=Nat.mul_lt_mul_of_pos_right h1 pc;have e2:=Nat.mul_lt_mul_of_pos_right h2 pa;have k1:an*cd*bd=an*bd*cd:=by grind
 have k2:cn*ad*bd=cn*bd*ad:=by grind
 have k3:bn*ad*cd=bn*cd*ad:=by grind
 refine Nat.lt_of_mul_lt_mul_right (a:=bd) ?_;omega
theorem Bd(a b c:Cu)(h1:¬jt a b)(h2:¬jt b c):¬jt a c:=by
 unfold jt EE at *;have pa:=oZ a;have pb:=oZ b;have pc:=oZ c;generalize a.1.n.toNat=an at *;generalize b.1.n.toNat=bn at *;generalize c.1.n.toNat=cn at *;generalize a.1.d.toNat=ad at *;generalize b.1.d.toNat=bd at *;generalize c.1.d.toNat=cd at *;have e1:=Nat.mul_le_mul_right cd (Nat.le_of_not_lt h1);have e2:=Nat.mul_le_mul_right ad (Nat.le_of_not_lt h2);have k1:an*cd*bd=an*bd*cd:=by grind
 have k2:cn*ad*bd=cn*bd*ad:=by grind
 have k3:bn*ad*cd=bn*cd*ad:=by grind
 refine Nat.not_lt.2 (Nat.le_of_mul_le_mul_right (c:=bd) ?_ pb);omega
theorem Be:SWO (ltOf tV):=by
 have e':∀a b,ltOf tV a b=false↔¬jt a b:=fun a b=>by rw[<-Bc];simp
 refine⟨fun x=>?_,fun x y z h1 h2=>?_,fun x y z h1 h2=>?_⟩
 ·rw[e'];unfold jt;omega
 ·rw[Bc] at *;exact o7 x y z h1 h2
 ·rw[e'] at *;exact Bd x y z h1 h2
theorem HM(a b:Cu):aa Tryz.prog G 141 [.agg (yy a),.agg (yy b)] (.int .i64 (tV a b)):=by
 obtain⟨a,ha⟩:=a;obtain⟨b,hb⟩:=b;unfold tV EE yy;simp only;obtain⟨n,d,p,q,X,Y,W,rfl⟩:=wa a;obtain⟨n',d',p',q',X',Y',W',rfl⟩:=wa b;unfold uM at ha hb;simp only at ha hb ⊢;obtain⟨N,rfl⟩:∃N:Nat,n=N:=⟨n.toNat,by omega⟩;obtain⟨D,rfl⟩:∃D:Nat,d=D:=⟨d.toNat,by omega⟩;obtain⟨N',rfl⟩:∃N:Nat,n'=N:=⟨n'.toNat,by omega⟩;obtain⟨D',rfl⟩:∃D:Nat,d'=D:=⟨d'.toNat,by omega⟩;simp only[Int.toNat_natCast];have m1:=jE (G:=G) N D' (by omega) (by omega);have m2:=jE (G:=G) N' D (by omega) (by omega);have m1:aa Tryz.prog G 198 [.int .u64 (IntKind.u64.wrap (N:Int)),.int .u64 (IntKind.u64.wrap (D':Int))] (.tup [.int .u64 ((N*D'/18446744073709551616:Nat):Int),.int .u64 ((N*D'%18446744073709551616:Nat):Int)]):=by rw[dP N (by omega),dP D' (by omega)];exact m1
 have m2:aa Tryz.prog G 198 [.int .u64 (IntKind.u64.wrap (N':Int)),.int .u64 (IntKind.u64.wrap (D:Int))] (.tup [.int .u64 ((N'*D/18446744073709551616:Nat):Int),.int .u64 ((N'*D%18446744073709551616:Nat):Int)]):=by rw[dP N' (by omega),dP D (by omega)];exact m2
 have k1:=AV (G:=G) (N*D'/18446744073709551616) (N'*D/18446744073709551616);have k2:=AV (G:=G) (N*D'%18446744073709551616) (N'*D%18446744073709551616);generalize N*D'/18446744073709551616=h1 at *;generalize N*D'%18446744073709551616=l1 at *;generalize N'*D/18446744073709551616=h2 at *;generalize N'*D%18446744073709551616=l2 at *;have k3:=F6 (G:=G) [dJ h1 h2,dJ l1 l2] (by simp);generalize dJ h1 h2=z1 at *;generalize dJ l1 l2=z2 at *
 have k4:aa Tryz.prog G 102 [.sl 2 1 (fun i=>fT 1 (List.drop (i*1) [.int .i64 z1,.int .i64 z2]))] (.int .i64 (cx [z1,z2])):=k3.fit (by
  conv=>whnf
  repeat (first|exact fa|((first|refine fb ?_|(refine And.intro ?_ ?_;rotate_left));conv=>whnf))
  all_goals (refine Or.inl fun i hi=>?_;rcases i with _|_|_|_|i<;>first|rfl|omega))
 generalize cx [z1,z2]=z at *;refine aa.aj ak Tryz.func141 rfl rfl _ rfl ?_;(conv=>whnf);repeat' ((first|refine st ?_|(refine⟨fun h=>?_,fun h=>?_⟩<;>try simp only[af] at h)|(refine .inl ?_;(conv=>whnf);(first|refine⟨_,m1,?_⟩|refine⟨_,m2,?_⟩|refine⟨_,k1,?_⟩|refine⟨_,k2,?_⟩|refine⟨_,k4,?_⟩))|refine wf ?_|refine aA ?_|refine nn ?_|fail)<;>conv=>whnf)
 all_goals first|contradiction|(exfalso;omega)|rfl|skip
end Go.Proofs.YtijddijloelacaaGreat
/-
  DERIVED: THE SHELF's CONTRACTS AT THIS DUMP, IN PLAIN WORDS (tools/lay-plain.mjs out of 'TrySortShelf.lean', which tools/lay-shelf.mjs wrote): THE SAME DECLARATIONS UNDER THE SAME NAMES: 'import', 'namespace', 'open', 'def', 'theorem' AND NOTHING ELSE: no command of the shelf's: FOR A HAND-IN. Each laying: the table of numbers ('.._ren') and one theorem, a field a fact of the dump's own or the kernel's comparison; each contract: ONE APPLICATION.
-/
namespace Go.Proofs
open Go.Shelf
def Tryz.lJ:Go.Shelf.Ren:=⟨fun|6=>140|15=>152|14=>197|28=>215|29=>216|20=>256|21=>257|22=>258|23=>259|24=>260|25=>261|26=>262|27=>263|46=>299|47=>270|48=>271|49=>300|50=>301|57=>321|n=>n,fun|22=>103|24=>123|25=>207|3=>3|39=>176|0=>0|53=>267|55=>51|4=>4|46=>261|45=>260|50=>68|5=>5|9=>9|66=>301|70=>305|76=>327|77=>242|n=>n,fun|n=>n⟩
theorem Tryz.Bf:Go.Proofs.SlLaysF0.n6 Tryz.prog Tryz.lJ:={
 mixed:=by kernel_rfl
 f6:=⟨Tryz.f140.name,by decide,Tryz.func140.trans (congrArg some (by kernel_rfl))⟩
 f14:=⟨Tryz.f197.name,by decide,Tryz.func197.trans (congrArg some (by kernel_rfl))⟩
 f15:=Tryz.func152.trans (congrArg some (by kernel_rfl))
 f20:=⟨Tryz.f256.name,by decide,Tryz.func256.trans (congrArg some (by kernel_rfl))⟩
 f21:=⟨Tryz.f257.name,by decide,Tryz.func257.trans (congrArg some (by kernel_rfl))⟩
 f22:=⟨Tryz.f258.name,by decide,Tryz.func258.trans (congrArg some (by kernel_rfl))⟩
 f23:=⟨Tryz.f259.name,by decide,Tryz.func259.trans (congrArg some (by kernel_rfl))⟩
 f24:=⟨Tryz.f260.name,by decide,Tryz.func260.trans (congrArg some (by kernel_rfl))⟩
 f25:=⟨Tryz.f261.name,by decide,Tryz.func261.trans (congrArg some (by kernel_rfl))⟩
 f26:=⟨Tryz.f262.name,by decide,Tryz.func262.trans (congrArg some (by kernel_rfl))⟩
 f27:=⟨Tryz.f263.name,by decide,Tryz.func263.trans (congrArg some (by kernel_rfl))⟩
 f28:=Tryz.func215.trans (congrArg some (by kernel_rfl))
 f29:=Tryz.func216.trans (congrArg some (by kernel_rfl))
 f46:=⟨Tryz.f299.name,by decide,Tryz.func299.trans (congrArg some (by kernel_rfl))⟩
 f47:=Tryz.func270.trans (congrArg some (by kernel_rfl))
 f48:=Tryz.func271.trans (congrArg some (by kernel_rfl))
 f49:=⟨Tryz.f300.name,by decide,Tryz.func300.trans (congrArg some (by kernel_rfl))⟩
 f50:=⟨Tryz.f301.name,by decide,Tryz.func301.trans (congrArg some (by kernel_rfl))⟩
 f57:=⟨Tryz.f321.name,by decide,Tryz.func321.trans (congrArg some (by kernel_rfl))⟩
 t0:=Tryz.underlying0
 a0:=Tryz.isAgg0
 z0:=Tryz.sizeOf0
 v0:=Tryz.zeroValue0
 t3:=Tryz.underlying3
 a3:=Tryz.isAgg3
 z3:=Tryz.sizeOf3
 v3:=Tryz.zeroValue3
 t4:=Tryz.underlying4
 a4:=Tryz.isAgg4
 z4:=Tryz.sizeOf4
 v4:=Tryz.zeroValue4
 t5:=Tryz.underlying5
 a5:=Tryz.isAgg5
 z5:=Tryz.sizeOf5
 v5:=Tryz.zeroValue5
 t9:=Tryz.underlying9
 a9:=Tryz.isAgg9
 z9:=Tryz.sizeOf9
 v9:=Tryz.zeroValue9
 t22:=Tryz.underlying103
 a22:=Tryz.isAgg103
 z22:=Tryz.sizeOf103
 v22:=Tryz.zeroValue103
 t25:=Tryz.underlying207
 a25:=Tryz.isAgg207
 z25:=Tryz.sizeOf207
 v25:=Tryz.zeroValue207
 t39:=Tryz.underlying176
 a39:=Tryz.isAgg176
 z39:=Tryz.sizeOf176
 v39:=Tryz.zeroValue176
 t45:=Tryz.underlying260
 a45:=Tryz.isAgg260
 z45:=Tryz.sizeOf260
 v45:=Tryz.zeroValue260
 t46:=Tryz.underlying261
 a46:=Tryz.isAgg261
 z46:=Tryz.sizeOf261
 v46:=Tryz.zeroValue261
 t50:=Tryz.underlying68
 a50:=Tryz.isAgg68
 z50:=Tryz.sizeOf68
 v50:=Tryz.zeroValue68
 t53:=Tryz.underlying267
 a53:=Tryz.isAgg267
 z53:=Tryz.sizeOf267
 v53:=Tryz.zeroValue267
 t55:=Tryz.underlying51
 a55:=Tryz.isAgg51
 z55:=Tryz.sizeOf51
 v55:=Tryz.zeroValue51
 t66:=Tryz.underlying301
 a66:=Tryz.isAgg301
 z66:=Tryz.sizeOf301
 v66:=Tryz.zeroValue301
 t70:=Tryz.underlying305
 a70:=Tryz.isAgg305
 z70:=Tryz.sizeOf305
 v70:=Tryz.zeroValue305
 t76:=Tryz.underlying327
 a76:=Tryz.isAgg327
 z76:=Tryz.sizeOf327
 v76:=Tryz.zeroValue327
 t77:=Tryz.underlying242
 a77:=Tryz.isAgg242
 z77:=Tryz.sizeOf242
 v77:=Tryz.zeroValue242 }
end Go.Proofs
namespace Go.Proofs
open Go.Shelf Go.Proofs.YtijddijloelacaaGreat.Am
def Tryz.pY:Go.Shelf.Ren:=⟨fun|43=>142|n=>n,fun|0=>0|3=>3|4=>4|22=>103|23=>123|n=>n,fun|n=>n⟩
theorem Tryz.Lp:CR Tryz.prog Tryz.pY:={
 mixed:=by kernel_rfl
 f43:=⟨Tryz.f142.name,by decide,Tryz.func142.trans (congrArg some (by kernel_rfl))⟩
 t0:=Tryz.underlying0
 a0:=Tryz.isAgg0
 z0:=Tryz.sizeOf0
 v0:=Tryz.zeroValue0
 t3:=Tryz.underlying3
 a3:=Tryz.isAgg3
 z3:=Tryz.sizeOf3
 v3:=Tryz.zeroValue3
 t4:=Tryz.underlying4
 a4:=Tryz.isAgg4
 z4:=Tryz.sizeOf4
 v4:=Tryz.zeroValue4
 t22:=Tryz.underlying103
 a22:=Tryz.isAgg103
 z22:=Tryz.sizeOf103
 v22:=Tryz.zeroValue103 }
end Go.Proofs
namespace Go.Proofs.YtijddijloelacaaGreat
open Go.Proofs.YtijddijloelacaaGreat.Am Go.Sort Go.Proofs Go.Lib
variable [Inhabited bY]
variable {G:aG}
def Tt:List Nat:=[5,5,6,5,5,5,5,5,5,5,5,6,5,5,5,5,5,5,5,5,5,5,5,5,5,5,5,5]
theorem HN:aW Tryz.prog 6 123=some Tt:=by kernel_rfl
theorem OU(x y:Ct):(x.n==y.n&&(x.d==y.d&&(x.p==y.p&&(((x.X.a:Nat):Int)==((y.X.a:Nat):Int)&&(((x.X.b:Nat):Int)==((y.X.b:Nat):Int)&&(((x.X.c:Nat):Int)==((y.X.c:Nat):Int)&&(((x.X.d:Nat):Int)==((y.X.d:Nat):Int)&&(((x.X.e:Nat):Int)==((y.X.e:Nat):Int)&&(((x.X.f:Nat):Int)==((y.X.f:Nat):Int)&&(((x.X.g:Nat):Int)==((y.X.g:Nat):Int)&&(((x.X.h:Nat):Int)==((y.X.h:Nat):Int)&&(x.q==y.q&&(((x.Y.a:Nat):Int)==((y.Y.a:Nat):Int)&&(((x.Y.b:Nat):Int)==((y.Y.b:Nat):Int)&&(((x.Y.c:Nat):Int)==((y.Y.c:Nat):Int)&&(((x.Y.d:Nat):Int)==((y.Y.d:Nat):Int)&&(((x.Y.e:Nat):Int)==((y.Y.e:Nat):Int)&&(((x.Y.f:Nat):Int)==((y.Y.f:Nat):Int)&&(((x.Y.g:Nat):Int)==((y.Y.g:Nat):Int)&&(((x.Y.h:Nat):Int)==((y.Y.h:Nat):Int)&&(((x.W.a:Nat):Int)==((y.W.a:Nat):Int)&&(((x.W.b:Nat):Int)==((y.W.b:Nat):Int)&&(((x.W.c:Nat):Int)==((y.W.c:Nat):Int)&&(((x.W.d:Nat):Int)==((y.W.d:Nat):Int)&&(((x.W.e:Nat):Int)==((y.W.e:Nat):Int)&&(((x.W.f:Nat):Int)==((y.W.f:Nat):Int)&&(((x.W.g:Nat):Int)==((y.W.g:Nat):Int)&&(((x.W.h:Nat):Int)==((y.W.h:Nat):Int)&&true))))))))))))))))))))))))))))=decide (x=y):=by
 obtain⟨n,d,p,q,⟨a1,a2,a3,a4,a5,a6,a7,a8⟩,⟨b1,b2,b3,b4,b5,b6,b7,b8⟩,⟨c1,c2,c3,c4,c5,c6,c7,c8⟩⟩:=x;obtain⟨n',d',p',q',⟨Zb,Zc,Zd,Ze,Zf,Zg,Zh,Zi⟩,⟨Zj,Zk,Zl,Zm,Zn,Zo,Zp,Zq⟩,⟨Zr,Zs,Zt,Zu,Zv,Zw,Zx,Zy⟩⟩:=y;rw[Bool.eq_iff_iff];simp only[Bool.and_eq_true,beq_iff_eq,decide_eq_true_iff,Ct.mk.injEq,W8.mk.injEq,Int.natCast_inj,and_true,and_assoc];constructor
 ·rintro⟨h1,h2,h3,g1,g2,g3,g4,g5,g6,g7,g8,h4,k1,k2,k3,k4,k5,k6,k7,k8,l1,l2,l3,l4,l5,l6,l7,l8⟩;exact⟨h1,h2,h3,h4,g1,g2,g3,g4,g5,g6,g7,g8,k1,k2,k3,k4,k5,k6,k7,k8,l1,l2,l3,l4,l5,l6,l7,l8⟩
 ·rintro⟨h1,h2,h3,h4,g1,g2,g3,g4,g5,g6,g7,g8,k1,k2,k3,k4,k5,k6,k7,k8,l1,l2,l3,l4,l5,l6,l7,l8⟩;exact⟨h1,h2,h3,g1,g2,g3,g4,g5,g6,g7,g8,h4,k1,k2,k3,k4,k5,k6,k7,k8,l1,l2,l3,l4,l5,l6,l7,l8⟩
theorem OV(x y:Ct):sF Tt (bj uL x) (bj uL y) (decide (x=y)):=by
 rw[<-OU]
 refine 
  ⟨_,_,.inl ⟨rfl,_,_,_,rfl,rfl,rfl⟩,⟨_,_,.inl ⟨rfl,_,_,_,rfl,rfl,rfl⟩,⟨_,_,.inr (.inl ⟨rfl,_,_,rfl,rfl,rfl⟩),⟨_,_,.inl ⟨rfl,_,_,_,rfl,rfl,rfl⟩,⟨_,_,.inl ⟨rfl,_,_,_,rfl,rfl,rfl⟩,⟨_,_,.inl ⟨rfl,_,_,_,rfl,rfl,rfl⟩,⟨_,_,.inl ⟨rfl,_,_,_,rfl,rfl,rfl⟩,⟨_,_,.inl ⟨rfl,_,_,_,rfl,rfl,rfl⟩,⟨_,_,.inl ⟨rfl,_,_,_,rfl,rfl,rfl⟩,⟨_,_,.inl ⟨rfl,_,_,_,rfl,rfl,rfl⟩,⟨_,_,.inl ⟨rfl,_,_,_,rfl,rfl,rfl⟩,⟨_,_,.inr (.inl ⟨rfl,_,_,rfl,rfl,rfl⟩),⟨_,_,.inl ⟨rfl,_,_,_,rfl,rfl,rfl⟩,⟨_,_,.inl ⟨rfl,_,_,_,rfl,rfl,rfl⟩,⟨_,_,.inl ⟨rfl,_,_,_,rfl,rfl,rfl⟩,⟨_,_,.inl ⟨rfl,_,_,_,rfl,rfl,rfl⟩,⟨_,_,.inl ⟨rfl,_,_,_,rfl,rfl,rfl⟩,⟨_,_,.inl ⟨rfl,_,_,_,rfl,rfl,rfl⟩,⟨_,_,.inl ⟨rfl,_,_,_,rfl,rfl,rfl⟩,⟨_,_,.inl ⟨rfl,_,_,_,rfl,rfl,rfl⟩,⟨_,_,.inl ⟨rfl,_,_,_,rfl,rfl,rfl⟩,⟨_,_,.inl ⟨rfl,_,_,_,rfl,rfl,rfl⟩,⟨_,_,.inl ⟨rfl,_,_,_,rfl,rfl,rfl⟩,⟨_,_,.inl ⟨rfl,_,_,_,rfl,rfl,rfl⟩,⟨_,_,.inl ⟨rfl,_,_,_,rfl,rfl,rfl⟩,⟨_,_,.inl ⟨rfl,_,_,_,rfl,rfl,rfl⟩,⟨_,_,.inl ⟨rfl,_,_,_,rfl,rfl,rfl⟩,⟨_,_,.inl ⟨rfl,_,_,_,rfl,rfl,rfl⟩,rfl,rfl⟩,rfl⟩,rfl⟩,rfl⟩,rfl⟩,rfl⟩,rfl⟩,rfl⟩,rfl⟩,rfl⟩,rfl⟩,rfl⟩,rfl⟩,rfl⟩,rfl⟩,rfl⟩,rfl⟩,rfl⟩,rfl⟩,rfl⟩,rfl⟩,rfl⟩,rfl⟩,rfl⟩,rfl⟩,rfl⟩,rfl⟩,rfl⟩
theorem HO(l:List Value):uf Tryz.prog 123 l=.agg l.toArray:=by
 have h:Tryz.prog.underlying 123=_:=Tryz.underlying123;unfold uf;rw[h]
theorem sK(x y:Ct)(w:World)(op:BinOp)(X Y:Operand):(eqGuard op 123 X Y (.agg (bj uL x).toArray) (.agg (bj uL y).toArray)).run Tryz.prog w=.ok () w /\
  (binOp .eql 123 (.agg (bj uL x).toArray) (.agg (bj uL y).toArray)).run Tryz.prog w=.ok (.bool (decide (x=y))) w /\
  (binOp .neq 123 (.agg (bj uL x).toArray) (.agg (bj uL y).toArray)).run Tryz.prog w=.ok (.bool (!decide (x=y))) w:=by
 have Lj:6<=Tryz.prog.depth:=by unfold Program.depth Made.depth;omega
 have e2:(Op.equalIn 10000 123 (.agg (bj uL x).toArray) (.agg (bj uL y).toArray)).run Tryz.prog w=.ok (decide (x=y)) w:=by
  have:=fz (P:=Tryz.prog) (w:=w) 6 123 Tt _ _ _ (10000-6) HN (OV x y);rw[HO,HO] at this;exact this
 have hg:Tryz.prog.eqGuardType Tryz.prog.depth 123=false:=by
  have:=eP (P:=Tryz.prog) 6 123 Tt (Tryz.prog.depth-6) HN
  rwa [show 6+(Tryz.prog.depth-6)=Tryz.prog.depth by omega] at this
 refine⟨?_,?_,?_⟩
 ·unfold eqGuard;cases op<;>simp[hg]
 ·rw[run_eql_struct];simp[e2]
 ·rw[run_neq_struct];simp[e2]
theorem sL(z:Array Value):∀n,(Builtin.zeroCells z n).toList=(List.replicate n z.toList).flatten
 | 0=>by simp[Builtin.zeroCells]
 | n+1=>by
  have ih:=sL z n;rw[List.replicate_succ',List.flatten_append,<-ih];unfold Builtin.zeroCells;simp only[Array.toList_map,Array.toList_range];rw[Nat.add_mul,Nat.one_mul,List.range_add,List.map_append,List.map_map]
  congr 1
  simp only[List.flatten_cons,List.flatten_nil,List.append_nil];apply List.ext_getElem
  ·simp
  ·intro j h1 h2;simp only[List.length_map,List.length_range] at h1;simp only[List.getElem_map,List.getElem_range,Function.comp];rw[Nat.mul_comm,Nat.mul_add_mod,Nat.mod_eq_of_lt h1];simp[getElem!_pos z j h1]
theorem CY(x:Ct):∀a∈uL x,nR a:=by
 simp[uL,nR]
theorem HP(dn:¬(default:bY).ns)(l:List Cu)(hl:l.length<=1000000)(h0:0<l.length):
  aL Tryz.prog G 140 [.own 1,.fn 141 []] [.ghost [.own 1,.ae,.ae],.row 123 28 l.length (cJ yy l)] (.tup []) [.ghost [.own 1,.ae,.ae],.row 123 28 l.length (cJ yy (ee tV l))] :=
 aL.uK dn (ρ:=Tryz.lJ) Tryz.Bf 28 (by omega) (fun w=>by kernel_rfl) (fun w=>by kernel_rfl) yy (fun x=>CY x.1) (fun _=>rfl) tV Be 141 [] rfl
  (fun x y=>HM (G:=G) x y) ⟨_,_,Tryz.func140,rfl,rfl⟩ 123 l hl h0
theorem EG(l:List Ct)(hl:l.length<=1000000)(h0:0<l.length):
  aL Tryz.prog G 142 [.own 1] [.ghost [.own 1,.ae],.row 123 28 l.length (cJ uL l)] (.own 1) [.ghost [.ae,.ae],.row 123 28 (cY l).length (cJ uL (cY l))] :=
 aL.yn (ρ:=Tryz.pY) Tryz.Lp 28 (by omega) (fun w=>by kernel_rfl) (fun w=>by kernel_rfl) uL CY (fun _=>rfl)
  (fun x y w=>(sK x y w .eql default default).2.1) (fun x y w=>(sK x y w .eql default default).2.2) (fun op a b x y w=>(sK x y w op a b).1)
  Wr _ Tryz.zeroValue123 (fun n=>by rw[sL,List.flatMap_def,List.map_replicate];rfl)
  ⟨_,_,Tryz.func142,rfl,rfl⟩ 123 l hl h0
theorem pZ(l:List Cu):∀m,m<=l.length->compactUpTo (l.map (·.1)).toArray m=(compactUpTo l.toArray m).map (·.1)
 | 0,_=>by simp[compactUpTo]
 | m+1,h=>by
  rw[compactUpTo_succ,compactUpTo_succ,List.map_append,pZ l m (by omega)]
  congr 1
  have g:∀i,i<l.length->(l.map (·.1)).toArray[i]! = (l.toArray[i]!).1:=fun i hi=>by
   rw[getElem!_pos _ _ (by simpa using hi),getElem!_pos _ _ (by simpa using hi)];simp
  have hk:keeps (l.map (·.1)).toArray m=keeps l.toArray m:=by
   unfold keeps;rw[decide_eq_decide,g m (by omega),g (m-1) (by omega)];constructor
   ·rintro(h|h)
    ·exact .inl h
    ·exact .inr fun e=>h (congrArg Subtype.val e)
   ·rintro(h|h)
    ·exact .inl h
    ·exact .inr fun e=>h (Subtype.ext e)
  rw[hk];split
  ·rw[g m (by omega)];rfl
  ·rfl
def uh(l:List Cu):List Cu:=cY (ee tV l)
theorem CZ(l:List Cu)(i:Nat)(h:i<l.length):cJ uL (l.map (·.1)) i=cJ yy l i:=by
 unfold cJ yy;simp[List.getD_eq_getElem?_getD,h]
theorem Lq(l:List Cu):cY (l.map (·.1))=(cY l).map (·.1):=by
 unfold cY;rw[List.length_map,pZ l l.length (Nat.le_refl _)]
theorem EH(dn:¬(default:bY).ns)(l:List Cu)(hl:l.length<=1000000)(h0:0<l.length):
  aL Tryz.prog G 95 [.own 1] [.ghost [.own 1,.ae],.row 123 28 l.length (jr l)] (.own 1) [.ghost [.ae,.ae],.row 123 28 (uh l).length (jr (uh l))]:=by
 have h1:=HP (G:=G) dn l hl h0;have hlen:=gF tV Be l;have h2:=EG (G:=G) ((ee tV l).map (·.1)) (by simpa[hlen] using hl) (by simpa[hlen] using h0);rw[Lq] at h2;have e1:=CZ (ee tV l);have e2:=CZ (cY (ee tV l));rw[List.length_map,List.length_map,hlen] at h2;rw[hlen] at e1
 have h3:aL Tryz.prog G 142 [.own 1] [.ghost [.own 1,.ae],.row 123 28 l.length (cJ yy (ee tV l))] (.own 1) [.ghost [.ae,.ae],.row 123 28 (cY (ee tV l)).length (cJ uL ((cY (ee tV l)).map (·.1)))]:=by
  refine aL.fit h2 rfl ?_;show fL _;(conv=>whnf)
  repeat (first|exact fa|((first|refine fb ?_|(refine And.intro ?_ ?_;rotate_left));conv=>whnf))
  all_goals first|exact Or.inl fun i hi=>(e1 i hi).symm
 unfold uh;generalize cJ uL ((cY (ee tV l)).map (·.1))=r3 at *;generalize cY (ee tV l)=L2 at *;refine aL.aj ak Tryz.func95 rfl rfl _ rfl ?_;(conv=>whnf);repeat' ((first|refine st ?_|(refine⟨fun h=>?_,fun h=>?_⟩<;>try simp only[af] at h)|(refine .inr (.inl ?_);(conv=>whnf);(first|refine⟨_,_,h1,?_⟩|refine⟨_,_,h3,?_⟩))|refine wf ?_|refine aA ?_|refine nn ?_|fail)<;>conv=>whnf)
 all_goals first|contradiction|exact Or.inl e2
end Go.Proofs.YtijddijloelacaaGreat
namespace Go.Proofs.YtijddijloelacaaGreat
open Go.Proofs.YtijddijloelacaaGreat.Am Go.Sort Go.Proofs
variable [Inhabited bY]
variable {G:aG}
theorem HQ{α:Type}[Inhabited α](e:α->List Int)(L:List α)(x:α)(r:Nat->List A)(hr:r 0=(e x).map fun n=>.int .i64 n)(i:Nat)(hi:i<L.length+1):bN L.length (bC e L) r i=bC e (L++[x]) i:=by
 unfold bN;split
 ·rename_i h;have h:i<L.length:=Nat.le_of_ble_eq_true h;simp only[bC,List.getD_eq_getElem?_getD,List.getElem?_append_left h]
 ·rename_i h;have h:¬i<L.length:=fun h'=>by rw[show Nat.blt i L.length=true from Nat.ble_eq_true_of_le h'] at h;cases h
  have:i=L.length:=by omega
  subst this;simp[hr,bC,List.getD_eq_getElem?_getD]
theorem uN{α:Type}[Inhabited α]{L:List α}{i:Nat}(h:i<L.length):L.drop i=L.getD i default::L.drop (i+1):=by
 rw[List.drop_eq_getElem_cons h,List.getD_eq_getElem?_getD,List.getElem?_eq_getElem h];rfl
theorem EI(l:List Sg):(gO (sB l)).length<=l.length*l.length:=by
 have:=xY (sB l);rw[r8] at this;exact this
theorem Lr(dn:¬(default:bY).ns)(l:List Sg)(h0:0<l.length)(hk:vN l=0):aa Tryz.prog G 92 [qF l] (.tup [.sl (dm l).length 2 (bC vQ (dm l)),.int .i64 0]):=by
 have hc:=Cv (G:=G) l;rw[hk] at hc;have hb:aa Tryz.prog G 133 [qF l] (.sl l.length 5 (bC MW (sB l))):=KF (G:=G) dn l (rZ hk).1 h0 (rZ hk).2;have Eb:=(rZ hk).1;have Zz:=r8 l;have XK:(gO (sB l)).length<=160000:=Nat.le_trans (EI l) (Nat.mul_le_mul Eb Eb);have Uy:=GC l;generalize hS:sB l=S at *;refine aa.aj ak Tryz.func92 rfl rfl _ rfl ?_;(conv=>whnf);repeat' ((first|refine st ?_|(refine⟨fun h=>?_,fun h=>?_⟩<;>try simp only[af] at h)|(refine .inl ?_;(conv=>whnf);(first|refine⟨_,hc,?_⟩|refine⟨_,hb,?_⟩))|refine wf ?_|refine aA ?_|refine nn ?_|fail)<;>conv=>whnf)
 ·exact absurd trivial h
 refine gw 5 76 2 rfl ?_;(conv=>whnf);refine al (fun x:Nat×List Pr=>x.1<=l.length/\x.2++gO (S.drop x.1)=gO S) (fun x=>match x with|(i,cur)=>[(20,.int .i64 (i:Int)),(5,.own 0)]) (fun x=>match x with|(i,cur)=>[.row 76 2 cur.length (bC vQ cur)]) (fun x=>l.length-x.1) (0,[]) ⟨by omega,by simp⟩ ?_ ?_
 ·exact ff
 ·rintro⟨i,cur⟩ ⟨hi,hI⟩;simp only at hi hI;(conv=>whnf)
  repeat (first|(refine st ?_;conv=>whnf))
  refine⟨fun h=>?_,fun h=>?_⟩
  ·have h:=of_decide_eq_true h;have xG:=uN (L:=S) (i:=i) (by omega);rw[xG,gO] at hI;(conv=>whnf);repeat' ((first|refine st ?_|(refine⟨fun h=>?_,fun h=>?_⟩<;>try simp only[af] at h)|refine wf ?_|refine aA ?_|refine nn ?_|fail)<;>conv=>whnf)
   refine al (fun x:Nat×List Pr=>x.1<=l.length-(i+1)/\x.2++AI (S.getD i default) (S.drop (i+1+x.1))=cur++AI (S.getD i default) (S.drop (i+1))) (fun x=>match x with|(j,cur)=>[(30,.int .i64 (j:Int)),(5,.own 0)]) (fun x=>match x with|(j,cur)=>[.row 76 2 cur.length (bC vQ cur),.box 196 (Tm (S.getD i default))]) (fun x=>l.length-(i+1)-x.1) (0,cur) ⟨by omega,rfl⟩ ?_ ?_
   ·exact ff
   ·rintro⟨j,cu⟩ ⟨hj,hJ⟩;simp only at hj hJ;(conv=>whnf)
    repeat (first|(refine st ?_;conv=>whnf))
    refine⟨fun h2=>?_,fun h2=>?_⟩
    ·have h2:=of_decide_eq_true h2;have Uz:=uN (L:=S) (i:=i+1+j) (by omega);rw[Uz,AI] at hJ
     have NY:cu.length<=160000:=by
      have e1:=congrArg List.length hJ;have e2:=congrArg List.length hI;simp only[List.length_append] at e1 e2;omega
     have Tu:((i:Int)+1).toNat+(j:Int).toNat=i+1+j:=by omega
     have XL:=Og (G:=G) (S.getD i default).at' (S.getD (i+1+j) default).at';(conv=>whnf);repeat' ((first|refine st ?_|(refine⟨fun h=>?_,fun h=>?_⟩<;>try simp only[af] at h)|(refine .inl ?_;(conv=>whnf);refine⟨_,XL,?_⟩)|refine wf ?_|refine aA ?_|refine nn ?_|fail)<;>conv=>whnf)
     ·rw[Tu] at h;rw[if_pos h,List.append_nil] at hJ;refine⟨(i+1,cu),⟨by show i+1<=l.length;omega,by show cu++gO (S.drop (i+1))=gO S;rw[hJ,List.append_assoc];exact hI⟩,(by show l.length-(i+1)<l.length-i;omega),?_⟩;exact ff
     ·rename_i g1 g2;rw[Tu] at g1 g2 h;rw[if_neg g1,if_pos (show MX (S.getD i default) (S.getD (i+1+j) default) from⟨g2,h⟩)] at hJ;refine⟨(j+1,cu++[r9 (S.getD i default) (S.getD (i+1+j) default)]),⟨by show j+1<=l.length-(i+1);omega,by rw[<-hJ,List.append_assoc];rfl⟩,(by show l.length-(i+1)-(j+1)<l.length-(i+1)-j;omega),?_⟩;(conv=>whnf)
      repeat (first|exact fa|((first|refine fb ?_|(refine And.intro ?_ ?_;rotate_left));conv=>whnf))
      all_goals first|(refine Or.inl fun t ht=>?_;exact HQ vQ cu (r9 (S.getD i default) (S.getD (i+1+j) default)) _ rfl t ht)|(simp;done)
     ·rename_i g1 g2;rw[Tu] at g1 g2 h;rw[if_neg g1,if_neg (show ¬MX (S.getD i default) (S.getD (i+1+j) default) from fun q=>h q.2)] at hJ;refine⟨(j+1,cu),⟨by show j+1<=l.length-(i+1);omega,hJ⟩,(by show l.length-(i+1)-(j+1)<l.length-(i+1)-j;omega),?_⟩;exact ff
     ·rename_i g1;rw[Tu] at g1 h;rw[if_neg g1,if_neg (show ¬MX (S.getD i default) (S.getD (i+1+j) default) from fun q=>h q.1)] at hJ;refine⟨(j+1,cu),⟨by show j+1<=l.length-(i+1);omega,hJ⟩,(by show l.length-(i+1)-(j+1)<l.length-(i+1)-j;omega),?_⟩;exact ff
    ·have h2:=of_decide_eq_false h2;rw[List.drop_eq_nil_of_le (show S.length<=i+1+j by omega),AI,List.append_nil] at hJ;(conv=>whnf);repeat' ((first|refine st ?_|(refine⟨fun h=>?_,fun h=>?_⟩<;>try simp only[af] at h)|refine wf ?_|refine aA ?_|refine nn ?_|fail)<;>conv=>whnf)
     refine⟨(i+1,cu),⟨by show i+1<=l.length;omega,by show cu++gO (S.drop (i+1))=gO S;rw[hJ,List.append_assoc];exact hI⟩,(by show l.length-(i+1)<l.length-i;omega),?_⟩;exact ff
  ·have h:=of_decide_eq_false h;have e:i=l.length:=by omega
   subst e;rw[List.drop_eq_nil_of_le (by omega),gO,List.append_nil] at hI;subst hI;by_cases hz:(gO S).length=0
   ·have Aq:gO S=[]:=List.length_eq_zero_iff.1 hz;have KW:dm l=[]:=by rw[<-Uy,Aq,<-List.length_eq_zero_iff,gF nK kj];rfl
    rw[KW];refine me 0 ?_;(conv=>whnf);have hs:aa Tryz.prog G 135 [.sl (gO S).length 2 (bC vQ (gO S)),.fn 136 []] (.tup []):=by rw[hz];exact xX _
    repeat' ((first|refine st ?_|(refine⟨fun h=>?_,fun h=>?_⟩<;>try simp only[af] at h)|(refine .inl ?_;(conv=>whnf);refine⟨_,hs,?_⟩)|refine wf ?_|refine aA ?_|refine nn ?_|fail)<;>conv=>whnf)
    exact⟨Or.inl fun i hi=>by omega,rfl⟩
   ·have hs:=GG (G:=G) dn (gO S) (by omega) (by omega);rw[Uy] at hs;(conv=>whnf);repeat' ((first|refine st ?_|(refine⟨fun h=>?_,fun h=>?_⟩<;>try simp only[af] at h)|(refine .inr (.inl ?_);(conv=>whnf);refine⟨_,_,hs,?_⟩)|refine wf ?_|refine aA ?_|refine nn ?_|fail)<;>conv=>whnf)
    refine⟨?_,Or.inl fun _ _=>rfl,rfl⟩;rw[<-Uy,gF nK kj]
theorem Bg:aa Tryz.prog G 135 [.aR,.fn 136 []] (.tup []):=(xX (fun _=>[])).fit ⟨rfl,rfl⟩
theorem EJ(l:List Sg)(h0:l.length=0):aa Tryz.prog G 92 [qF l] (.tup [.aR,.int .i64 0]):=by
 have hc:=Cv (G:=G) l;have hk:vN l=0:=by unfold vN;rw[if_neg (show ¬400<l.length by omega),if_pos (show Cr l from fun i hi=>by omega)]
 rw[hk] at hc;have hb:=Eh (G:=G) l h0;have hs:=Bg (G:=G);refine aa.aj ak Tryz.func92 rfl rfl _ rfl ?_;(conv=>whnf);repeat' ((first|refine st ?_|(refine⟨fun h=>?_,fun h=>?_⟩<;>try simp only[af] at h)|(refine .inl ?_;(conv=>whnf);(first|refine⟨_,hc,?_⟩|refine⟨_,hb,?_⟩))|refine wf ?_|refine aA ?_|refine nn ?_|fail)<;>conv=>whnf)
 refine al (fun _:Nat=>True) (fun _=>[(20,.int .i64 0),(5,.aR)]) (fun _=>[]) (fun _=>0) 0 trivial ?_ ?_
 ·exact ff
 ·intro k _;(conv=>whnf)
  repeat (first|(refine st ?_;conv=>whnf))
  refine⟨fun h=>?_,fun h=>?_⟩
  ·exact absurd (of_decide_eq_true h) (by decide)
  ·(conv=>whnf);repeat' ((first|refine st ?_|(refine⟨fun h=>?_,fun h=>?_⟩<;>try simp only[af] at h)|(refine .inl ?_;(conv=>whnf);refine⟨_,hs,?_⟩)|refine wf ?_|refine aA ?_|refine nn ?_|fail)<;>conv=>whnf)
theorem yz(l:List Sg)(i:Nat):∀n k,(qG l i n k).length<=n
 | 0,k=>by simp[qG]
 | n+1,k=>by
  have:=yz l i n (k+1);rw[qG,List.length_append];split<;>simp<;>omega
theorem yA(l:List Sg):∀n i,(sf l n i).length<=n*l.length
 | 0,i=>by simp[sf]
 | n+1,i=>by
  have h1:=yz l i (l.length-(i+1)) (i+1);have h2:=yA l n (i+1);rw[sf,List.length_append,Nat.add_mul];omega
theorem yB(l:List Sg):(dm l).length<=l.length*l.length:=yA l l.length 0
theorem Ls{w1 w2 u v M m:Int}(h1:0<=w1)(h2:0<=w2)(u1:u<=M)(v1:v<=M)(u2:m<=u)(v2:m<=v):
  w1*u+w2*v<=(w1+w2)*M/\(w1+w2)*m<=w1*u+w2*v:=by
 have a1:=Int.mul_le_mul_of_nonneg_left u1 h1;have a2:=Int.mul_le_mul_of_nonneg_left v1 h2;have a3:=Int.mul_le_mul_of_nonneg_left u2 h1;have a4:=Int.mul_le_mul_of_nonneg_left v2 h2;rw[Int.add_mul,Int.add_mul];omega
/-- Two weighted means that are alike: their bounds meet. -/
theorem Na{w1 w2 z1 z2 u v p q lu hu lp hp:Int}(hw:(0<w1/\0<w2/\0<z1/\0<z2)\/(w1<0/\w2<0/\z1<0/\z2<0))(hs:w1+w2=z1+z2)(he:w1*u+w2*v=z1*p+z2*q)
  (HR:u<=hu) (Ai:v<=hu) (Ar:lu<=u) (HT:lu<=v) (Ws:p<=hp) (At:q<=hp) (MZ:lp<=p) (CG:lp<=q):lu<=hp/\lp<=hu:=by
 rcases hw with⟨h1,h2,h3,h4⟩|⟨h1,h2,h3,h4⟩
 ·obtain⟨a1,a2⟩:=Ls (M:=hu) (m:=lu) (Int.le_of_lt h1) (Int.le_of_lt h2) HR Ai Ar HT;obtain⟨a3,a4⟩:=Ls (M:=hp) (m:=lp) (Int.le_of_lt h3) (Int.le_of_lt h4) Ws At MZ CG;rw[<-hs] at a3 a4;exact⟨Int.le_of_mul_le_mul_left (a:=w1+w2) (by omega) (by omega),Int.le_of_mul_le_mul_left (a:=w1+w2) (by omega) (by omega)⟩
 ·obtain⟨a1,a2⟩:=Ls (w1:=-w1) (w2:=-w2) (M:=hu) (m:=lu) (by omega) (by omega) HR Ai Ar HT;obtain⟨a3,a4⟩:=Ls (w1:=-z1) (w2:=-z2) (M:=hp) (m:=lp) (by omega) (by omega) Ws At MZ CG;rw[show -z1 + -z2 = -w1 + -w2 by omega] at a3 a4;simp only[Int.neg_mul] at a1 a2 a3 a4;exact⟨Int.le_of_mul_le_mul_left (a:=-w1 + -w2) (by omega) (by omega),Int.le_of_mul_le_mul_left (a:=-w1 + -w2) (by omega) (by omega)⟩
theorem RP(ax ay bx FK px py qx qy:Int):
  ((qx-px)*(ay-py)-(qy-py)*(ax-px))*bx+(-((qx-px)*(FK-py)-(qy-py)*(bx-px)))*ax =
  ((bx-ax)*(qy-ay)-(FK-ay)*(qx-ax))*px+(-((bx-ax)*(py-ay)-(FK-ay)*(px-ax)))*qx:=by grind
theorem RQ(ax ay bx FK px py qx qy:Int):
  ((qx-px)*(ay-py)-(qy-py)*(ax-px))*FK+(-((qx-px)*(FK-py)-(qy-py)*(bx-px)))*ay =
  ((bx-ax)*(qy-ay)-(FK-ay)*(qx-ax))*py+(-((bx-ax)*(py-ay)-(FK-ay)*(px-ax)))*qy:=by grind
theorem RR(ax ay bx FK px py qx qy:Int):
  ((qx-px)*(ay-py)-(qy-py)*(ax-px))+(-((qx-px)*(FK-py)-(qy-py)*(bx-px))) =
  ((bx-ax)*(qy-ay)-(FK-ay)*(qx-ax))+(-((bx-ax)*(py-ay)-(FK-ay)*(px-ax))):=by grind
theorem Bh{s t:Sg}(h1:FC (dK s.a s.b t.a) (dK s.a s.b t.b))(h2:FC (dK t.a t.b s.a) (dK t.a t.b s.b)):jD s t:=by
 have ex:dK t.a t.b s.a*s.b.x + -dK t.a t.b s.b*s.a.x=dK s.a s.b t.b*t.a.x + -dK s.a s.b t.a*t.b.x:=RP s.a.x s.a.y s.b.x s.b.y t.a.x t.a.y t.b.x t.b.y;have ey:dK t.a t.b s.a*s.b.y + -dK t.a t.b s.b*s.a.y=dK s.a s.b t.b*t.a.y + -dK s.a s.b t.a*t.b.y:=RQ s.a.x s.a.y s.b.x s.b.y t.a.x t.a.y t.b.x t.b.y;have es:dK t.a t.b s.a + -dK t.a t.b s.b=dK s.a s.b t.b + -dK s.a s.b t.a:=RR s.a.x s.a.y s.b.x s.b.y t.a.x t.a.y t.b.x t.b.y;generalize dK t.a t.b s.a=c1 at *;generalize dK t.a t.b s.b=c2 at *;generalize dK s.a s.b t.a=c3 at *;generalize dK s.a s.b t.b=c4 at *;have hw:(0<c1/\0 < -c2/\0<c4/\0 < -c3)\/(c1<0 /\ -c2<0/\c4<0 /\ -c3<0):=by unfold FC at h1 h2;omega
 have rx:=Na (lu:=(fI s).x) (hu:=(cK s).x) (lp:=(fI t).x) (hp:=(cK t).x) hw es ex (by simp only[cK];omega) (by simp only[cK];omega) (by simp only[fI];omega) (by simp only[fI];omega) (by simp only[cK];omega) (by simp only[cK];omega) (by simp only[fI];omega) (by simp only[fI];omega);have ry:=Na (lu:=(fI s).y) (hu:=(cK s).y) (lp:=(fI t).y) (hp:=(cK t).y) hw es ey (by simp only[cK];omega) (by simp only[cK];omega) (by simp only[fI];omega) (by simp only[fI];omega) (by simp only[cK];omega) (by simp only[cK];omega) (by simp only[fI];omega) (by simp only[fI];omega);exact⟨rx.1,rx.2,ry.1,ry.2⟩
theorem wb{s:Sg}{p:Pt}(h:jA s p):((fI s).x<=p.x/\p.x<=(cK s).x)/\(fI s).y<=p.y/\p.y<=(cK s).y:=(Cj s p h.1.2.2 h.2.2.1).2 h.2.2.2
theorem Bi{s t:Sg}(h:cL s t):jD s t:=by
 obtain⟨hs,ht,h⟩:=h;rcases h with h|h|h|h|⟨h1,h2⟩
 ·have:=wb h;simp only[jD,fI,cK] at *;omega
 ·have:=wb h;simp only[jD,fI,cK] at *;omega
 ·have:=wb h;simp only[jD,fI,cK] at *;omega
 ·have:=wb h;simp only[jD,fI,cK] at *;omega
 ·unfold iV at h1 h2;rw[if_pos (bp hs ht.1),if_pos (bp hs ht.2.1)] at h1;rw[if_pos (bp ht hs.1),if_pos (bp ht hs.2.1)] at h2;exact Bh h1 h2
theorem aa.res{P:Program}{G:aG}{f:FuncId}{args:List A}{r r':A}(h:aa P G f args r)(hr:∀im w v,aw im w r v->aw im w r' v):aa P G f args r':=by
 refine⟨h.1,fun im w vs h1 h2 h3 h4=>?_⟩;refine bg (h.2 im w vs h1 h2 h3 h4) ?_;rintro e w' ⟨v,e1,e2,e3⟩;exact⟨v,e1,hr _ _ _ e2,e3⟩
theorem EK(dn:¬(default:bY).ns)(l:List Sg)(hk:vN l=0):aa Tryz.prog G 92 [qF l] (.tup [.sl (dm l).length 2 (bC vQ (dm l)),.int .i64 0]):=by
 by_cases h0:l.length=0
 ·have hz:(dm l).length=0:=by have:=yB l;rw[h0] at this;omega
  rw[hz];refine aa.res (EJ l h0) fun im w v h=>?_;cases h with
  | tup _ vs hl hr =>
   refine .tup _ vs (by simpa using hl) fun j h h'=>?_
   match j,h with
   | 0,_ =>
    have:=hr 0 (by simp) h';show aw im w (.sl 0 2 _) vs[0];have this:aw im w .aR vs[0]:=this;generalize vs[0]=x at this;cases this;exact .rJ _ _
   | 1,_=>exact hr 1 (by simp) h'
 ·exact Lr dn l (by omega) hk
def eL(s:Sg):List Cu:=[nA s 0 1,nA s 1 1]
theorem HU(L M:List Cu)(r:Nat->List A)(hr:∀i,i<M.length->r i=jr M i)(i:Nat)(hi:i<L.length+M.length):bN L.length (jr L) r i=jr (L++M) i:=by
 unfold bN;split
 ·rename_i h;have h:i<L.length:=Nat.le_of_ble_eq_true h;simp only[jr,List.getD_eq_getElem?_getD,List.getElem?_append_left h]
 ·rename_i h;have h:¬i<L.length:=fun h'=>by rw[show Nat.blt i L.length=true from Nat.ble_eq_true_of_le h'] at h;cases h
  rw[hr (i-L.length) (by omega)];simp only[jr,List.getD_eq_getElem?_getD,List.getElem?_append_right (show L.length<=i by omega)]
theorem Lu(s:Sg)(hL:bU s):aL Tryz.prog G 93 [.agg (j9 s)] [] (.own 0) [.row 123 28 2 (jr (eL s))]:=by
 have h1:=rb (G:=G) s 0 1 hL (by omega);have h2:=rb (G:=G) s 1 1 hL (by omega);unfold eL;generalize nA s 0 1=c1 at *;generalize nA s 1 1=c2 at *;unfold yy at h1 h2;refine aL.aj ak Tryz.func93 rfl rfl _ rfl ?_;(conv=>whnf);repeat' ((first|refine st ?_|(refine⟨fun h=>?_,fun h=>?_⟩<;>try simp only[af] at h)|(refine .inl ?_;(conv=>whnf);(first|refine⟨_,h1,?_⟩|refine⟨_,h2,?_⟩))|refine wf ?_|refine aA ?_|refine nn ?_|fail)<;>conv=>whnf)
 all_goals (refine Or.inl fun i hi=>?_;rcases i with _|_|_|_|i<;>first|rfl|omega)
theorem re(s t:Sg):(oI s t).length<=2:=by unfold oI;split<;>(try split)<;>simp
def p9(l:List Sg):Nat->List Cu:=fun i=>eL (l.getD i default)
def uj(l:List Sg)(O:Nat->List Cu)(i k:Nat):Nat->List Cu:=gz O i (O i++oI (l.getD i default) (l.getD k default))
def Tv(l:List Sg)(O:Nat->List Cu)(i k:Nat):Nat->List Cu:=uj l (uj l O i k) k i
def uO(l:List Sg):Nat->Nat->List Cu
 | 0=>p9 l
 | k+1=>Tv l (uO l k) ((dm l).getD k default).i.toNat ((dm l).getD k default).k.toNat
def Qu(l:List Sg)(i:Nat):List Cu:=uh (uO l (dm l).length i)
def o8(n:Nat)(F:Nat->List Cu):A:=.sl n 1 (fun i=>[sJ (F i)])
def nV(n:Nat)(F:Nat->List Cu):aq:=.nest 103 123 28 n none (fun i=>(F i).length) (fun i=>jr (F i))
theorem yC(l:List Sg)(O:Nat->List Cu)(i k j:Nat):(O j).length<=(uj l O i k j).length/\(uj l O i k j).length<=(O j).length+2:=by
 unfold uj gz;have:=re (l.getD i default) (l.getD k default);split
 ·rename_i e;subst e;rw[List.length_append];omega
 ·omega
theorem wc(l:List Sg)(j:Nat):∀k,2<=(uO l k j).length/\(uO l k j).length<=2+4*k
 | 0=>⟨Nat.le_refl _,Nat.le_refl _⟩
 | k+1=>by
  have h:=wc l j k;unfold uO Tv;generalize ((dm l).getD k default).i.toNat=i;generalize ((dm l).getD k default).k.toNat=m;have h1:=yC l (uO l k) i m j;have h2:=yC l (uj l (uO l k) i m) m i j;omega
theorem sM(l:List Sg)(k:Nat)(h:k<(dm l).length):∃i m:Nat,(dm l).getD k default=⟨i,m⟩/\i<m/\m<l.length:=by
 have hm:(dm l).getD k default∈dm l:=by rw[List.getD_eq_getElem?_getD,List.getElem?_eq_getElem h];exact List.getElem_mem _
 generalize (dm l).getD k default=p at *;unfold dm at hm;obtain⟨i,_,h2,h3⟩:=(lC l p _ _).1 hm;obtain⟨m,h4,h5,_,rfl⟩:=(fS l i p _ _).1 h3;exact⟨i,m,rfl,by omega,by omega⟩
theorem EL(l:List Sg)(k:Nat):∀i,i<k+1->qM k (fun i=>(p9 l i).length) (fun _=>2) i=(p9 l i).length /\
  ∀j,j<qM k (fun i=>(p9 l i).length) (fun _=>2) i->qM k (fun i=>jr (p9 l i)) (fun _=>jr (eL (l.getD k default))) i j=jr (p9 l i) j:=by
 intro i hi;rcases Nat.lt_or_ge i k with h|h
 ·rw[kr _ _ h,kr _ _ h];exact⟨rfl,fun _ _=>rfl⟩
 ·have:i=k:=by omega
  subst this;rw[ku _ _ h,ku _ _ h];exact⟨rfl,fun _ _=>rfl⟩
def xu(l:List Sg)(k:Nat):Nat->List Cu:=fun i=>if i<k then Qu l i else uO l (dm l).length i
theorem sN(l:List Sg)(k:Nat):xu l k k=uO l (dm l).length k:=if_neg (Nat.lt_irrefl k)
theorem HV(l:List Sg)(k:Nat)(v:Nat):xu l (k+1) v=if v=k then uh (xu l k k) else xu l k v:=by
 rw[sN];unfold xu;by_cases h:v=k
 ·subst h;rw[if_pos (by omega),if_pos rfl];rfl
 ·rw[if_neg h];by_cases h2:v<k
  ·rw[if_pos (by omega),if_pos h2]
  ·rw[if_neg (by omega),if_neg h2]
theorem HW(l:List Sg)(k v:Nat):gz (fun i=>(xu l k i).length) (k:Int).toNat (uh (xu l k k)).length v=(xu l (k+1) v).length /\
  ∀j,j<gz (fun i=>(xu l k i).length) (k:Int).toNat (uh (xu l k k)).length v->gz (fun i=>jr (xu l k i)) (k:Int).toNat (jr (uh (xu l k k))) v j=jr (xu l (k+1) v) j:=by
 rw[HV,Int.toNat_natCast];unfold gz;by_cases h:v=k
 ·subst h;simp only[if_pos];exact⟨trivial,fun _ _=>trivial⟩
 ·simp only[if_neg h];exact⟨trivial,fun _ _=>trivial⟩
/-- Lengths and rows stand for lists. -/
def OW(F:Nat->Nat)(R:Nat->Nat->List A)(O:Nat->List Cu):Prop:=∀v,F v=(O v).length/\∀j,j<F v->R v j=jr (O v) j
theorem HX(O:Nat->List Cu):OW (fun i=>(O i).length) (fun i=>jr (O i)) O:=fun _=>⟨rfl,fun _ _=>rfl⟩
theorem C0{F:Nat->Nat}{R:Nat->Nat->List A}{O:Nat->List Cu}(h:OW F R O)(l:List Sg)(i k:Nat):
  OW (gz F i (F i+(oI (l.getD i default) (l.getD k default)).length)) (gz R i (bN (F i) (R i) (jr (oI (l.getD i default) (l.getD k default))))) (uj l O i k):=by
 intro v;unfold uj;by_cases hv:v=i
 ·subst hv;simp only[gz,if_pos];obtain⟨h1,h2⟩:=h v;refine⟨by rw[List.length_append,h1],fun j hj=>?_⟩;have hc:=HU (O v) (oI (l.getD v default) (l.getD k default)) (jr (oI (l.getD v default) (l.getD k default))) (fun _ _=>rfl) j (by omega);rw[<-hc];unfold bN;rw[h1];split
  ·rename_i hb;exact h2 j (by have:=Nat.le_of_ble_eq_true hb;omega)
  ·rfl
 ·simp only[gz,if_neg hv];exact h v
theorem OX(dn:¬(default:bY).ns)(l:List Sg)(hk:vN l=0)(F:Nat->List Cu)(hF:∀i,i<l.length->F i=Qu l i):aa Tryz.prog G 45 [qF l] (.tup [o8 l.length F,.int .i64 0]):=by
 have h2:=EK (G:=G) dn l hk;have hlen:=(rZ hk).1;have yD:=(rZ hk).2;have FX:=yB l;have XM:l.length*l.length<=400*400:=Nat.mul_le_mul hlen hlen;refine aa.aj ak Tryz.func45 rfl rfl _ rfl ?_;(conv=>whnf);repeat' ((first|(contradiction)|refine st ?_|(refine⟨fun h=>?_,fun h=>?_⟩<;>try simp only[af] at h)|(refine .inl ?_;(conv=>whnf);refine⟨_,h2,?_⟩)|refine wf ?_|refine aA ?_|refine nn ?_|fail)<;>conv=>whnf)
 all_goals first|contradiction|(exfalso;omega)|skip
 refine gw 6 103 1 rfl ?_;(conv=>whnf)
 repeat (first|(refine st ?_;conv=>whnf))
 refine Lv 0 123 28 rfl (fun _ h=>absurd h (Nat.not_lt_zero _)) ?_;(conv=>whnf)
 repeat (first|(refine st ?_;conv=>whnf))
 refine al (fun k:Nat=>k<=l.length) (fun k=>[(24,.int .i64 (k:Int)),(6,.own 0)]) (fun k=>[nV k (p9 l)]) (fun k=>l.length-k) 0 (Nat.zero_le _) ?_ ?_
 ·unfold nV;(conv=>whnf)
  repeat (first|exact fa|((first|refine fb ?_|(refine And.intro ?_ ?_;rotate_left));conv=>whnf))
  exact fun i h=>absurd h (Nat.not_lt_zero _)
 ·intro k pN;unfold nV;have he:=fun h:k<l.length=>Lu (G:=G) (l.getD k default) (yD k h);(conv=>whnf)
  repeat (first|(refine st ?_;conv=>whnf))
  refine⟨fun h=>?_,fun h=>?_⟩
  ·have h:=of_decide_eq_true h;have he:=he (by omega);(conv=>whnf);repeat' ((first|refine st ?_|(refine⟨fun h=>?_,fun h=>?_⟩<;>try simp only[af] at h)|((first|refine .inr (.inr (.inr ?_))|refine .inr ?_);(conv=>whnf);refine⟨_,_,he,?_⟩)|refine wf ?_|refine aA ?_|refine nn ?_|fail)<;>conv=>whnf)
   refine⟨k+1,(by show k+1<=l.length;omega),(by show l.length-(k+1)<l.length-k;omega),?_⟩;(conv=>whnf)
   repeat (first|exact fa|((first|refine fb ?_|(refine And.intro ?_ ?_;rotate_left));conv=>whnf))
   exact EL l k
  ·have h:=of_decide_eq_false h;have e:k=l.length:=by omega
   subst e;(conv=>whnf);repeat' ((first|refine st ?_|(refine⟨fun h=>?_,fun h=>?_⟩<;>try simp only[af] at h)|refine wf ?_|refine aA ?_|refine nn ?_|fail)<;>conv=>whnf)
   refine al (fun k:Nat=>k<=(dm l).length) (fun k=>[(36,.int .i64 (k:Int))]) (fun k=>[nV l.length (uO l k)]) (fun k=>(dm l).length-k) 0 (Nat.zero_le _) ?_ ?_
   ·unfold nV;(conv=>whnf)
    repeat (first|exact fa|((first|refine fb ?_|(refine And.intro ?_ ?_;rotate_left));conv=>whnf))
    all_goals first|exact fun i _=>⟨rfl,fun _ _=>rfl⟩
   ·intro k RT;unfold nV;(conv=>whnf)
    repeat (first|(refine st ?_;conv=>whnf))
    refine⟨fun h=>?_,fun h=>?_⟩
    ·have h:=of_decide_eq_true h;have hk:k<(dm l).length:=by omega
     obtain⟨i,m,e,uc,vB⟩:=sM l k hk;have lZ:=M' (G:=G) (l.getD i default) (l.getD m default);have j8:=M' (G:=G) (l.getD m default) (l.getD i default);have ei:((dm l).getD (k:Int).toNat default).i=(i:Int):=by rw[Int.toNat_natCast,e]
     have em:((dm l).getD (k:Int).toNat default).k=(m:Int):=by rw[Int.toNat_natCast,e]
     have ho:=fun j=>wc l j k;have VW:=ho i;have VX:=ho m;have ZA:=re (l.getD i default) (l.getD m default);have Er:=re (l.getD m default) (l.getD i default)
     have ZB:gz (fun i=>(uO l k i).length) (i:Int).toNat ((fun i=>(uO l k i).length) (i:Int).toNat+(oI (l.getD i default) (l.getD m default)).length) (m:Int).toNat<=2+4*k:=by
      have hne:¬(m:Int).toNat=(i:Int).toNat:=by omega
      unfold gz;rw[if_neg hne];exact(ho _).2
     have ZC:=ho (i:Int).toNat;(conv=>whnf)
     iterate 5 (first|(refine st ?_;conv=>whnf))
     refine And.intro ⟨by omega,by omega⟩ ?_;(conv=>whnf);rw[ei,em];repeat' ((first|(refine sO (id:=14) [(7,1)] ak mixed ?_)|(refine sO (id:=15) [(7,1)] ak mixed ?_)|refine st ?_|(refine⟨fun h=>?_,fun h=>?_⟩<;>try simp only[af] at h)|(refine .inl ?_;(conv=>whnf);(first|refine⟨_,lZ,?_⟩|refine⟨_,j8,?_⟩))|refine wf ?_|refine aA ?_|refine nn ?_|fail)<;>conv=>whnf)
     have qL:uO l (k+1)=Tv l (uO l k) i m:=by
      rw[uO,e];rfl
     refine⟨k+1,(by show k+1<=(dm l).length;omega),(by show(dm l).length-(k+1)<(dm l).length-k;omega),?_⟩;(conv=>whnf)
     repeat (first|exact fa|((first|refine fb ?_|(refine And.intro ?_ ?_;rotate_left));conv=>whnf))
     rw[qL];exact fun v _=>C0 (C0 (HX (uO l k)) l i m) l m i v
    ·have h:=of_decide_eq_false h;have e:k=(dm l).length:=by omega
     subst e;(conv=>whnf);repeat' ((first|refine st ?_|(refine⟨fun h=>?_,fun h=>?_⟩<;>try simp only[af] at h)|refine wf ?_|refine aA ?_|refine nn ?_|fail)<;>conv=>whnf)
     refine al (fun k:Nat=>k<=l.length) (fun k=>[(79,.int .i64 (k:Int))]) (fun k=>[nV l.length (xu l k)]) (fun k=>l.length-k) 0 (Nat.zero_le _) ?_ ?_
     ·unfold nV;(conv=>whnf)
      repeat (first|exact fa|((first|refine fb ?_|(refine And.intro ?_ ?_;rotate_left));conv=>whnf))
      all_goals first|exact fun i _=>⟨rfl,fun _ _=>rfl⟩
     ·intro k pN;unfold nV;have XK:=wc l k (dm l).length;have hs:=EH (G:=G) dn (xu l k k) (by rw[sN];omega) (by rw[sN];omega);(conv=>whnf);repeat' ((first|refine st ?_|(refine⟨fun h=>?_,fun h=>?_⟩<;>try simp only[af] at h)|(refine .inr (.inl ?_);(conv=>whnf);refine⟨_,_,hs,?_⟩)|refine wf ?_|refine aA ?_|refine nn ?_|fail)<;>conv=>whnf)
      ·refine⟨k+1,(by show k+1<=l.length;omega),(by show l.length-(k+1)<l.length-k;omega),?_⟩;(conv=>whnf)
       repeat (first|exact fa|((first|refine fb ?_|(refine And.intro ?_ ?_;rotate_left));conv=>whnf))
       exact fun v _=>HW l k v
      ·have e:k=l.length:=by omega
       subst e;refine⟨Or.inl fun i hi=>?_,rfl⟩;have ej:xu l l.length i=Qu l i:=if_pos hi;show[A.sl (xu l l.length i).length 28 (jr (xu l l.length i))]=[sJ (F i)];rw[hF i hi,ej];rfl
end Go.Proofs.YtijddijloelacaaGreat
namespace Go.Proofs.YtijddijloelacaaGreat
open Go.Proofs.YtijddijloelacaaGreat.Am Go.Sort Go.Proofs Go.Lib
variable [Inhabited bY]
theorem C'(n d:Int):Nat.gcd (c9 n d).toNat (cq n d).toNat=1:=by
 unfold c9 cq;by_cases h:ug n d
 ·rw[if_pos h,if_pos h];rfl
 ·rw[if_neg h,if_neg h,Int.toNat_natCast,Int.toNat_natCast];have hp:0<gP n d:=Nat.gcd_pos_of_pos_right _ (by unfold ug at h;omega);exact Nat.coprime_iff_gcd_eq_one.1 (Nat.coprime_div_gcd_div_gcd hp)
theorem Lw{a b c d:Nat}(h1:Nat.gcd a b=1)(h2:Nat.gcd c d=1)(h:a*d=c*b):a=c/\b=d:=by
 have e1:b ∣ d:=by
  have:b ∣ d*a:=⟨c,by rw[Nat.mul_comm d a,h,Nat.mul_comm]⟩;exact Nat.Coprime.dvd_of_dvd_mul_right (show Nat.Coprime b a by rw[Nat.coprime_iff_gcd_eq_one,Nat.gcd_comm];exact h1) this
 have e2:d ∣ b:=by
  have:d ∣ b*c:=⟨a,by rw[Nat.mul_comm b c,<-h,Nat.mul_comm]⟩;exact Nat.Coprime.dvd_of_dvd_mul_right (show Nat.Coprime d c by rw[Nat.coprime_iff_gcd_eq_one,Nat.gcd_comm];exact h2) this
 have e:=Nat.dvd_antisymm e1 e2;subst e;refine⟨?_,rfl⟩;rcases Nat.eq_zero_or_pos b with hb|hb
 ·subst hb;rw[Nat.gcd_zero_right] at h1 h2;omega
 ·exact Nat.eq_of_mul_eq_mul_right hb h
def EN(s:Sg)(c:Cu):Prop:=∃n d,d<=9223372036854775807/\c=nA s n d
theorem OY{s:Sg}{n d n' d':Int}(h:d<=9223372036854775807)(h':d'<=9223372036854775807)(e1:c9 n d=c9 n' d')(e2:cq n d=cq n' d'):nA s n d=nA s n' d':=by
 apply Subtype.ext;rw[eZ h,eZ h'];unfold FJ;rw[e1,e2]
theorem HY{s:Sg}{a b:Cu}(ha:EN s a)(hb:EN s b)(h1:¬jt a b)(h2:¬jt b a):a=b:=by
 obtain⟨n,d,hd,rfl⟩:=ha;obtain⟨n',d',gZ,rfl⟩:=hb;unfold jt EE at h1 h2;rw[eZ hd,eZ gZ] at h1 h2;simp only[FJ,RM] at h1 h2;obtain⟨a1,a2,a3,a4⟩:=oY n d hd;obtain⟨b1,b2,b3,b4⟩:=oY n' d' gZ;obtain⟨e1,e2⟩:=Lw (C' n d) (C' n' d') (by omega);exact OY hd gZ (by omega) (by omega)
theorem Bj(s t:Sg):∀x∈oI s t,EN s x:=by
 intro x hx;unfold oI at hx;split at hx
 ·rename_i hk;obtain⟨_,_,_,_,_,_,hd,_⟩:=sA s t hk;rw[List.mem_singleton.1 hx];exact⟨_,_,hd,rfl⟩
 ·split at hx
  ·simp only[List.mem_cons,List.not_mem_nil,or_false] at hx;rcases hx with rfl|rfl
   ·exact⟨_,_,sI _ _ _,rfl⟩
   ·exact⟨_,_,sI _ _ _,rfl⟩
  ·cases hx
theorem Da(s:Sg):∀x∈eL s,EN s x:=by
 intro x hx;unfold eL at hx;simp only[List.mem_cons,List.not_mem_nil,or_false] at hx;rcases hx with rfl|rfl
 ·exact⟨0,1,by omega,rfl⟩
 ·exact⟨1,1,by omega,rfl⟩
theorem Db(s:Sg):jt (nA s 0 1) (nA s 1 1):=by
 unfold jt EE;rw[eZ (by omega),eZ (by omega)];simp only[FJ,RM];decide
theorem Dc(a:Cu):¬jt a a:=by unfold jt;omega
theorem Lx(a b:Cu)(h1:jt a b)(h2:jt b a):False:=by unfold jt at *;omega
theorem yE(s:Sg):(eL s).Pairwise jt:=by
 unfold eL;refine List.pairwise_cons.2 ⟨fun x hx=>?_,by simp⟩;rw[List.mem_singleton.1 hx];exact Db s
/-- What is sorted, each once: strict, the same cuts. -/
theorem yF{s:Sg}(L:List Cu)(h:∀x∈L,EN s x):(uh L).Pairwise jt/\∀x,x∈uh L↔x∈L:=by
 obtain⟨hp,hs⟩:=cP tV Be L;have hlen:=hp.length_eq;have hm:∀x∈ee tV L,EN s x:=fun x hx=>h x (hp.mem_iff.1 hx)
 obtain⟨c1,c2⟩:=lI (R:=jt) (ee tV L) o7 (fun i j kU hj hr=>by
  have:=hs i j kU (by omega);rw[(Bc _ _).2 hr] at this;exact Bool.noConfusion this) (fun x hx y hy=>HY (hm x hx) (hm y hy)) (ee tV L).length (Nat.le_refl _)
 refine⟨c1,fun x=>?_⟩;show x∈compactUpTo _ _↔_;rw[c2,<-hp.mem_iff];constructor
 ·rintro⟨i,hi,rfl⟩;rw[List.getD_eq_getElem?_getD,List.getElem?_eq_getElem hi];exact List.getElem_mem _
 ·intro hx;obtain⟨i,hi,e⟩:=List.getElem_of_mem hx;exact⟨i,hi,by rw[List.getD_eq_getElem?_getD,List.getElem?_eq_getElem hi];exact e⟩
theorem yG{s:Sg}:∀(M L:List Cu),L.Pairwise jt->(∀x∈L,EN s x)->(∀x∈M,EN s x)->(M.foldl (nU jt) L).Pairwise jt/\(∀x,x∈M.foldl (nU jt) L↔x∈L\/x∈M)
 | [],L,h,_,_=>⟨h,fun x=>by simp⟩
 | c::M,L,h,hL,hM=>by
  have hc:=hM c (List.mem_cons_self ..);obtain⟨p1,p2⟩:=sG o7 L c h (fun x hx=>HY (hL x hx) hc)
  have Tk:∀x∈nU jt L c,EN s x:=fun x hx=>by
   rcases (p2 x).1 hx with rfl|h
   ·exact hc
   ·exact hL x h
  obtain⟨q1,q2⟩:=yG M (nU jt L c) p1 Tk (fun x hx=>hM x (List.mem_cons_of_mem _ hx));refine⟨q1,fun x=>?_⟩;rw[List.foldl_cons,q2,p2,List.mem_cons];constructor
  ·rintro((h|h)|h)
   ·exact .inr (.inl h)
   ·exact .inl h
   ·exact .inr (.inr h)
  ·rintro(h|h|h)
   ·exact .inl (.inr h)
   ·exact .inl (.inl h)
   ·exact .inr h
def il(s:Sg)(l:List Sg)(Dd:Int):Nat->List Cu
 | 0=>eL s
 | k+1=>if (k:Int)=Dd then il s l Dd k else (oI s (l.getD k default)).foldl (nU jt) (il s l Dd k)
theorem ep(s:Sg)(l:List Sg)(Dd:Int):∀k,(il s l Dd k).Pairwise jt/\(∀x∈il s l Dd k,EN s x)/\∀x,x∈il s l Dd k↔x∈eL s\/∃j,j<k/\(j:Int)≠Dd/\x∈oI s (l.getD j default)
 | 0=>⟨yE s,Da s,fun x=>by simp[il]⟩
 | k+1=>by
  obtain⟨h1,h2,h3⟩:=ep s l Dd k;unfold il;by_cases hk:(k:Int)=Dd
  ·rw[if_pos hk];refine⟨h1,h2,fun x=>?_⟩;rw[h3];constructor
   ·rintro(h|⟨j,a,b,c⟩)
    ·exact .inl h
    ·exact .inr ⟨j,by omega,b,c⟩
   ·rintro(h|⟨j,a,b,c⟩)
    ·exact .inl h
    ·exact .inr ⟨j,by omega,b,c⟩
  ·rw[if_neg hk];obtain⟨q1,q2⟩:=yG (oI s (l.getD k default)) _ h1 h2 (Bj s _);refine⟨q1,fun x hx=>?_,fun x=>?_⟩
   ·rcases (q2 x).1 hx with h|h
    ·exact h2 x h
    ·exact Bj s _ x h
   ·rw[q2,h3];constructor
    ·rintro((h|⟨j,a,b,c⟩)|h)
     ·exact .inl h
     ·exact .inr ⟨j,by omega,b,c⟩
     ·exact .inr ⟨k,by omega,hk,h⟩
    ·rintro(h|⟨j,a,b,c⟩)
     ·exact .inl (.inl h)
     ·rcases Nat.lt_or_ge j k with q|q
      ·exact .inl (.inr ⟨j,q,b,c⟩)
      ·have:j=k:=by omega
       subst this;exact .inr c
theorem yH(l:List Sg)(O:Nat->List Cu)(a b i:Nat)(x:Cu):x∈uj l O a b i↔x∈O i\/(i=a/\x∈oI (l.getD a default) (l.getD b default)):=by
 unfold uj gz;by_cases h:i=a
 ·subst h;rw[if_pos rfl,List.mem_append];simp
 ·rw[if_neg h];simp[h]
theorem we(l:List Sg)(i:Nat)(x:Cu):∀k,k<=(dm l).length->(x∈uO l k i↔x∈eL (l.getD i default)\/∃j m:Nat,j<k/\((dm l).getD j default=⟨i,m⟩\/(dm l).getD j default=⟨m,i⟩)/\x∈oI (l.getD i default) (l.getD m default))
 | 0,_=>by simp[uO,p9]
 | k+1,h=>by
  obtain⟨a,b,e,AL,hb⟩:=sM l k (by omega);unfold uO Tv;rw[e];simp only[Int.toNat_natCast];rw[yH,yH,we l i x k (by omega)];constructor
  ·rintro(((h|⟨j,m,h1,h2,h3⟩)|⟨rfl,h⟩)|⟨rfl,h⟩)
   ·exact .inl h
   ·exact .inr ⟨j,m,by omega,h2,h3⟩
   ·exact .inr ⟨k,b,by omega,.inl e,h⟩
   ·exact .inr ⟨k,a,by omega,.inr e,h⟩
  ·rintro(h|⟨j,m,h1,h2,h3⟩)
   ·exact .inl (.inl (.inl h))
   ·rcases Nat.lt_or_ge j k with q|q
    ·exact .inl (.inl (.inr ⟨j,m,q,h2,h3⟩))
    ·have:j=k:=by omega
     subst this;rw[e] at h2;simp only[Pr.mk.injEq,Int.natCast_inj] at h2;rcases h2 with⟨rfl,rfl⟩|⟨rfl,rfl⟩
     ·exact .inl (.inr ⟨rfl,h3⟩)
     ·exact .inr ⟨rfl,h3⟩
theorem EO{s t:Sg}(h:jD s t):jD t s:=⟨h.2.1,h.1,h.2.2.2,h.2.2.1⟩
theorem H3{s t:Sg}{x:Cu}(h:x∈oI s t):jD s t:=by
 refine Bi ((mW s t).1 fun h0=>?_);unfold oI at h;rw[if_neg (by omega),if_neg (by omega)] at h;cases h
theorem of_eq(l:List Sg)(i:Nat)(hi:i<l.length):Qu l i=il (l.getD i default) l i l.length:=by
 have Nb:∀x∈uO l (dm l).length i,EN (l.getD i default) x:=fun x hx=>by
  rcases (we l i x _ (Nat.le_refl _)).1 hx with h|⟨_,_,_,_,h⟩
  ·exact Da _ x h
  ·exact Bj _ _ x h
 obtain⟨a1,a2⟩:=yF _ Nb;obtain⟨b1,_,b2⟩:=ep (l.getD i default) l i l.length;refine oV Dc Lx _ _ a1 b1 fun x=>?_;unfold Qu;rw[a2,b2,we l i x _ (Nat.le_refl _)];constructor
 ·rintro(h|⟨j,m,h1,h2,h3⟩)
  ·exact .inl h
  ·obtain⟨a,b,e,AL,hb⟩:=sM l j h1;rw[e] at h2;simp only[Pr.mk.injEq,Int.natCast_inj] at h2;exact .inr ⟨m,by omega,by omega,h3⟩
 ·rintro(h|⟨m,h1,h2,h3⟩)
  ·exact .inl h
  ·refine .inr ?_;have hn:=H3 h3
   have key:∀a b:Nat,a<b->b<l.length->jD (l.getD a default) (l.getD b default)->∃j,j<(dm l).length/\(dm l).getD j default=⟨a,b⟩:=fun a b AL hb XN=>by
    have hm:(⟨a,b⟩:Pr)∈dm l:=by
     unfold dm;exact(lC l _ _ _).2 ⟨a,Nat.zero_le _,by omega,(fS l a _ _ _).2 ⟨b,by omega,by omega,XN,rfl⟩⟩
    obtain⟨j,hj,e⟩:=List.getElem_of_mem hm;exact⟨j,hj,by rw[List.getD_eq_getElem?_getD,List.getElem?_eq_getElem hj];exact e⟩
   rcases Nat.lt_or_ge i m with q|q
   ·obtain⟨j,hj,e⟩:=key i m q h1 hn;exact⟨j,m,hj,.inl e,h3⟩
   ·obtain⟨j,hj,e⟩:=key m i (by omega) hi (EO hn);exact⟨j,m,hj,.inr e,h3⟩
theorem OZ{a b:Nat}(ha:a<65536 ^ 32)(hb:b<65536 ^ 32)(h:w8 (wW a)=w8 (wW b)):a=b:=by
 rw[<-eI ha,<-eI hb,cc (cj a),cc (cj b)];unfold w8 at h;simp only[W8.mk.injEq] at h;obtain⟨h0,h1,h2,h3,h4,h5,h6,h7⟩:=h;rw[h0,h1,h2,h3,h4,h5,h6,h7]
theorem nX{L:List Cu}{i:Nat}(h:i<L.length):L.getD i default=L[i]:=by rw[List.getD_eq_getElem?_getD,List.getElem?_eq_getElem h];rfl
theorem EP{s:Sg}{L:List Cu}(hp:L.Pairwise jt)(hm:nA s 0 1∈L):L.getD 0 default=nA s 0 1:=by
 obtain⟨j,hj,e⟩:=List.getElem_of_mem hm;rcases Nat.eq_zero_or_pos j with h0|h0
 ·subst h0;rw[nX hj,e]
 ·exfalso;have:=List.pairwise_iff_getElem.1 hp 0 j (by omega) hj h0;rw[e] at this;unfold jt EE at this;rw[eZ (by omega)] at this;have e0:(FJ s 0 1).n.toNat=0:=show(c9 0 1).toNat=0 by decide
  rw[e0,Nat.zero_mul] at this;omega
theorem H4{s:Sg}{L:List Cu}(hp:L.Pairwise jt)(hm:nA s 1 1∈L):L.getD (L.length-1) default=nA s 1 1:=by
 obtain⟨j,hj,e⟩:=List.getElem_of_mem hm;rcases Nat.lt_or_ge j (L.length-1) with h0|h0
 ·exfalso;have:=List.pairwise_iff_getElem.1 hp j (L.length-1) hj (by omega) h0;rw[e] at this;have hg:=L[L.length-1].2;generalize L[L.length-1]=c at *;unfold jt EE at this;rw[eZ (by omega)] at this;have e0:(FJ s 1 1).n.toNat=1:=show(c9 1 1).toNat=1 by decide
  have e1:(FJ s 1 1).d.toNat=1:=show(cq 1 1).toNat=1 by decide
  rw[e0,e1] at this;unfold uM at hg;omega
 ·have:j=L.length-1:=by omega
  subst this;rw[nX hj,e]
end Go.Proofs.YtijddijloelacaaGreat
namespace Go.Proofs.YtijddijloelacaaGreat
open Go.Proofs.YtijddijloelacaaGreat.Am Go.Sort Go.Proofs Go.Lib
variable [Inhabited bY]
variable {G:aG}
theorem yI(s:Sg)(l:List Sg)(Dd:Int):∀k,(il s l Dd k).length<=2+2*k
 | 0=>Nat.le_refl _
 | k+1=>by
  have h1:=yI s l Dd k;have h2:=re s (l.getD k default)
  have h3:∀(M L:List Cu),(M.foldl (nU jt) L).length<=L.length+M.length:=by
   intro M
   induction M with
   | nil=>intro L;simp
   | cons c M ih =>
    intro L;have:=ih (nU jt L c)
    have hp:(nU jt L c).length<=L.length+1:=by
     unfold nU;split
     ·omega
     ·simp;omega
    rw[List.foldl_cons,List.length_cons];omega
  unfold il;split
  ·omega
  ·have:=h3 (oI s (l.getD k default)) (il s l Dd k);omega
end Go.Proofs.YtijddijloelacaaGreat
namespace Go.Proofs.YtijddijloelacaaGreat
open Go.Proofs.YtijddijloelacaaGreat.Am
variable [Inhabited bY]
variable {G:aG}
structure Rd where
 id:Int
 gY:List Pt
 ws:List Int
 ow:Bool
 deriving Inhabited,DecidableEq
def kv(r:Rd):List A:=[.int .i64 r.id,xT r.gY,rK r.ws,.sb r.ow]
def H5(l:List Rd):Nat->List A:=fun i=>kv (l.getD i default)
def sP(l:List Rd):A:=.sl l.length 4 (H5 l)
theorem O0(p:Pt):aa Tryz.prog G 176 [.agg (kY p)] (.sb (!decide (bT p))):=by
 refine aa.aj ak Tryz.func176 rfl rfl _ rfl ?_;(conv=>whnf);repeat' ((first|refine st ?_|(refine⟨fun h=>?_,fun h=>?_⟩<;>try simp only[af] at h)|(refine .inl ?_;(conv=>whnf);refine⟨_,lx p,?_⟩)|refine wf ?_|refine aA ?_|refine nn ?_|fail)<;>conv=>whnf)
def sQ(n:Int):Prop:=n<0\/2147483648<n
instance (n:Int):Decidable (sQ n):=inferInstanceAs (Decidable (_\/_))
theorem O1(n:Int):aa Tryz.prog G 180 [.int .i64 n] (.sb (decide (sQ n))):=by
 refine aa.aj ak Tryz.func180 rfl rfl _ rfl ?_;(conv=>whnf);repeat' ((first|refine st ?_|(refine⟨fun h=>?_,fun h=>?_⟩<;>try simp only[af] at h)|refine wf ?_|refine aA ?_|refine nn ?_|fail)<;>conv=>whnf)
 all_goals (simp only[sQ] at *;(first|rfl|exact(decide_eq_true (by omega)).symm|exact(decide_eq_false (by omega)).symm|exact decide_eq_decide.2 (by omega)|(rw[Bool.eq_iff_iff];simp only[rL] at *;omega)))
def yJ(l:List Pt)(i:Nat):Bool:=!decide (bT (l.getD i default))
theorem H6(l:List Pt)(hl:l.length<=1000000):aa Tryz.prog G 236 [xT l,.fn 176 []] (.int .i64 (eO (yJ l) l.length 0)):=by
 refine aa.aj ak Tryz.func236 rfl rfl _ rfl ?_;(conv=>whnf);repeat' ((first|refine st ?_|(refine⟨fun h=>?_,fun h=>?_⟩<;>try simp only[af] at h)|refine wf ?_|refine aA ?_|refine nn ?_|fail)<;>conv=>whnf)
 refine al (fun i:Nat=>i<=l.length/\eO (yJ l) l.length 0=eO (yJ l) (l.length-i) i) (fun i=>[(8,.int .i64 (i:Int))]) (fun _=>[]) (fun i=>l.length-i) 0 ⟨by omega,rfl⟩ ?_ ?_
 ·exact ff
 ·rintro i ⟨hi,he⟩;have hc:=O0 (G:=G) (l.getD i default);(conv=>whnf);repeat' ((first|refine st ?_|(refine⟨fun h=>?_,fun h=>?_⟩<;>try simp only[af] at h)|(refine .inl ?_;(conv=>whnf);refine⟨_,hc,?_⟩)|refine wf ?_|refine aA ?_|refine nn ?_|fail)<;>conv=>whnf)
  ·rw[he,dN _ (show i<l.length by omega),if_pos (show yJ l i=true by unfold yJ;rw[decide_eq_false h];rfl)]
  ·refine⟨i+1,⟨by omega,by rw[he,dN _ (show i<l.length by omega),if_neg (by unfold yJ;rw[decide_eq_true h];exact Bool.noConfusion)]⟩,(by show l.length-(i+1)<l.length-i;omega),?_⟩;exact ff
  ·rw[he,show l.length-i=0 by omega];rfl
def uP(l:List Pt):Prop:=∃i,i<l.length/\¬bT (l.getD i default)
instance (l:List Pt):Decidable (uP l):=inferInstanceAs (Decidable (∃ i,i < l.length/\¬ bT (l.getD i default)))
theorem yK(l:List Pt)(hl:l.length<=1000000):aa Tryz.prog G 175 [xT l,.fn 176 []] (.sb (decide (uP l))):=by
 refine aa.aj ak Tryz.func175 rfl rfl _ rfl ?_;(conv=>whnf);repeat' ((first|refine st ?_|(refine⟨fun h=>?_,fun h=>?_⟩<;>try simp only[af] at h)|(refine .inl ?_;(conv=>whnf);refine⟨_,H6 l hl,?_⟩)|refine wf ?_|refine aA ?_|refine nn ?_|fail)<;>conv=>whnf)
 all_goals refine iF ?_
 all_goals rw[decide_eq_true_iff,fQ]
 all_goals
  constructor
  ·rintro⟨j,_,h2,h3⟩;exact⟨j,by omega,fun h=>by unfold yJ at h3;rw[decide_eq_true h] at h3;cases h3⟩
  ·rintro⟨j,h2,h3⟩;exact⟨j,by omega,by omega,by unfold yJ;rw[decide_eq_false h3];rfl⟩
def H7(l:List Int)(i:Nat):Bool:=decide (sQ (l.getD i 0))
theorem H8(l:List Int)(hl:l.length<=1000000):aa Tryz.prog G 238 [rK l,.fn 180 []] (.int .i64 (eO (H7 l) l.length 0)):=by
 refine aa.aj ak Tryz.func238 rfl rfl _ rfl ?_;(conv=>whnf);repeat' ((first|refine st ?_|(refine⟨fun h=>?_,fun h=>?_⟩<;>try simp only[af] at h)|refine wf ?_|refine aA ?_|refine nn ?_|fail)<;>conv=>whnf)
 refine al (fun i:Nat=>i<=l.length/\eO (H7 l) l.length 0=eO (H7 l) (l.length-i) i) (fun i=>[(8,.int .i64 (i:Int))]) (fun _=>[]) (fun i=>l.length-i) 0 ⟨by omega,rfl⟩ ?_ ?_
 ·exact ff
 ·rintro i ⟨hi,he⟩;have hc:=O1 (G:=G) (l.getD i 0);(conv=>whnf);repeat' ((first|refine st ?_|(refine⟨fun h=>?_,fun h=>?_⟩<;>try simp only[af] at h)|(refine .inl ?_;(conv=>whnf);refine⟨_,hc,?_⟩)|refine wf ?_|refine aA ?_|refine nn ?_|fail)<;>conv=>whnf)
  ·rw[he,dN _ (show i<l.length by omega),if_pos (show H7 l i=true from decide_eq_true h)]
  ·refine⟨i+1,⟨by omega,by rw[he,dN _ (show i<l.length by omega),if_neg (by unfold H7;rw[decide_eq_false h];exact Bool.noConfusion)]⟩,(by show l.length-(i+1)<l.length-i;omega),?_⟩;exact ff
  ·rw[he,show l.length-i=0 by omega];rfl
def uQ(l:List Int):Prop:=∃i,i<l.length/\sQ (l.getD i 0)
instance (l:List Int):Decidable (uQ l):=inferInstanceAs (Decidable (∃ i,i < l.length/\sQ (l.getD i 0)))
theorem yL(l:List Int)(hl:l.length<=1000000):aa Tryz.prog G 179 [rK l,.fn 180 []] (.sb (decide (uQ l))):=by
 refine aa.aj ak Tryz.func179 rfl rfl _ rfl ?_;(conv=>whnf);repeat' ((first|refine st ?_|(refine⟨fun h=>?_,fun h=>?_⟩<;>try simp only[af] at h)|(refine .inl ?_;(conv=>whnf);refine⟨_,H8 l hl,?_⟩)|refine wf ?_|refine aA ?_|refine nn ?_|fail)<;>conv=>whnf)
 all_goals refine iF ?_
 all_goals rw[decide_eq_true_iff,fQ]
 all_goals
  constructor
  ·rintro⟨j,_,h2,h3⟩;exact⟨j,by omega,of_decide_eq_true h3⟩
  ·rintro⟨j,h2,h3⟩;exact⟨j,by omega,by omega,decide_eq_true h3⟩
def Twin(l:List Pt):Prop:=∃i,i<l.length/\0<i/\l.getD i default=l.getD (i-1) default
instance (l:List Pt):Decidable (Twin l):=inferInstanceAs (Decidable (∃ i,i < l.length/\(0 < i/\l.getD i default=l.getD (i - 1) default)))
theorem O2(l:List Pt)(hl:l.length<=1000000):aa Tryz.prog G 178 [xT l] (.sb (decide (Twin l))):=by
 refine aa.aj ak Tryz.func178 rfl rfl _ rfl ?_;(conv=>whnf);repeat' ((first|refine st ?_|(refine⟨fun h=>?_,fun h=>?_⟩<;>try simp only[af] at h)|refine wf ?_|refine aA ?_|refine nn ?_|fail)<;>conv=>whnf)
 refine al (fun i:Nat=>1<=i/\∀k,0<k->k<i->k<l.length->l.getD k default≠l.getD (k-1) default) (fun i=>[(3,.int .i64 (i:Int))]) (fun _=>[]) (fun i=>l.length-i) 1 ⟨by omega,fun k h1 h2=>by omega⟩ ?_ ?_
 ·exact ff
 ·rintro i ⟨hi,he⟩;have ei:((i:Int)-1).toNat=i-1:=by omega
  (conv=>whnf);repeat' ((first|refine st ?_|(refine⟨fun h=>?_,fun h=>?_⟩<;>try simp only[af] at h)|refine wf ?_|refine aA ?_|refine nn ?_|fail)<;>conv=>whnf)
  all_goals (try simp only[ei] at *)
  ·have h:l.getD i default=l.getD (i-1) default:=of_decide_eq_true ((mI _ _).symm.trans h);exact(decide_eq_true ⟨i,by omega,by omega,h⟩).symm
  ·have h:¬l.getD i default=l.getD (i-1) default:=of_decide_eq_false ((mI _ _).symm.trans h);refine⟨i+1,⟨by omega,fun k h1 h2 h3=>?_⟩,(by show l.length-(i+1)<l.length-i;omega),?_⟩
   ·rcases Nat.lt_or_ge k i with q|q
    ·exact he k h1 q h3
    ·have:k=i:=by omega
     subst this;exact h
   ·exact ff
  ·refine(decide_eq_false ?_).symm;rintro⟨k,h1,h2,h3⟩;exact he k h2 (by omega) h1 h3
def RU(r:Rd):Prop:=r.gY.length<=110/\r.ws.length<=110
def mX(r:Rd):Prop:=1<=r.id/\r.id<=1048576/\2<=r.gY.length/\r.gY.length<=100/\r.ws.length+1=r.gY.length
instance (r:Rd):Decidable (mX r):=inferInstanceAs (Decidable (_/\_))
def eM(r:Rd):Int:=if mX r then (if uP r.gY then 6 else if Twin r.gY then 1 else if uQ r.ws then 10 else 0) else 1
theorem H9(r:Rd)(hr:RU r):aa Tryz.prog G 131 [.agg (kv r)] (.int .i64 (eM r)):=by
 obtain⟨hp,hw⟩:=hr;have h1:=yK (G:=G) r.gY (by omega);have h2:=O2 (G:=G) r.gY (by omega);have h3:=yL (G:=G) r.ws (by omega);refine aa.aj ak Tryz.func131 rfl rfl _ rfl ?_;(conv=>whnf);repeat' ((first|refine st ?_|(refine⟨fun h=>?_,fun h=>?_⟩<;>try simp only[af] at h)|(refine .inl ?_;(conv=>whnf);(first|refine⟨_,h1,?_⟩|refine⟨_,h2,?_⟩|refine⟨_,h3,?_⟩))|refine wf ?_|refine aA ?_|refine nn ?_|fail)<;>conv=>whnf)
 all_goals simp only[eM,mX]
 all_goals (repeat' split)<;>first|rfl|contradiction|omega
theorem ES(r:Rd)(hr:RU r):aa Tryz.prog G 43 [.agg (kv r)] (.int .i64 (eM r)):=by
 obtain⟨hp,hw⟩:=hr;by_cases hs:mX r
 ·have e:eM r=if uP r.gY then 6 else if Twin r.gY then 1 else if uQ r.ws then 10 else 0:=if_pos hs
  rw[e];obtain⟨s1,s2,s3,s4,s5⟩:=hs;refine aa.aj ak Tryz.func43 rfl rfl _ rfl ?_;(conv=>whnf);repeat' ((first|refine st ?_|(refine⟨fun h=>?_,fun h=>?_⟩<;>try simp only[af] at h)|refine wf ?_|refine aA ?_|refine nn ?_|fail)<;>conv=>whnf)
  all_goals first|(exfalso;omega)|skip
  refine al (fun i:Nat=>i<=r.gY.length/\∀k,k<i->bT (r.gY.getD k default)) (fun i=>[(3,.int .i64 (i:Int))]) (fun _=>[.box 31 (kv r)]) (fun i=>r.gY.length-i) 0 ⟨by omega,fun k hk=>by omega⟩ ?_ ?_
  ·exact ff
  ·rintro i ⟨hi,he⟩;have hc:=NS (G:=G) (r.gY.getD i default);(conv=>whnf);repeat' ((first|refine st ?_|(refine⟨fun h=>?_,fun h=>?_⟩<;>try simp only[af] at h)|(refine .inl ?_;(conv=>whnf);refine⟨_,hc,?_⟩)|refine wf ?_|refine aA ?_|refine nn ?_|fail)<;>conv=>whnf)
   ·rw[if_pos (show uP r.gY from⟨i,by omega,h⟩)]
   ·refine⟨i+1,⟨by omega,fun k hk=>?_⟩,(by show r.gY.length-(i+1)<r.gY.length-i;omega),?_⟩
    ·rcases Nat.lt_or_ge k i with q|q
     ·exact he k q
     ·have:k=i:=by omega
      subst this;exact h
    ·exact ff
   ·have hb:¬uP r.gY:=by rintro⟨k,k1,k2⟩;exact k2 (he k (by omega))
    rw[if_neg hb];refine al (fun i:Nat=>1<=i/\∀k,0<k->k<i->k<r.gY.length->r.gY.getD k default≠r.gY.getD (k-1) default) (fun i=>[(4,.int .i64 (i:Int))]) (fun _=>[.box 31 (kv r)]) (fun i=>r.gY.length-i) 1 ⟨by omega,fun k h1 h2=>by omega⟩ ?_ ?_
    ·exact ff
    ·rintro i ⟨hi,he⟩;have ei:((i:Int)-1).toNat=i-1:=by omega
     (conv=>whnf);repeat' ((first|refine st ?_|(refine⟨fun h=>?_,fun h=>?_⟩<;>try simp only[af] at h)|refine wf ?_|refine aA ?_|refine nn ?_|fail)<;>conv=>whnf)
     all_goals (try simp only[ei] at *)
     ·have h:r.gY.getD i default=r.gY.getD (i-1) default:=of_decide_eq_true ((mI _ _).symm.trans h);rw[if_pos (show Twin r.gY from⟨i,by omega,by omega,h⟩)]
     ·have h:¬r.gY.getD i default=r.gY.getD (i-1) default:=of_decide_eq_false ((mI _ _).symm.trans h);refine⟨i+1,⟨by omega,fun k h1 h2 h3=>?_⟩,(by show r.gY.length-(i+1)<r.gY.length-i;omega),?_⟩
      ·rcases Nat.lt_or_ge k i with q|q
       ·exact he k h1 q h3
       ·have:k=i:=by omega
        subst this;exact h
      ·exact ff
     ·have ht:¬Twin r.gY:=by rintro⟨k,h1,h2,h3⟩;exact he k h2 (by omega) h1 h3
      rw[if_neg ht];refine al (fun i:Nat=>i<=r.ws.length/\∀k,k<i->¬sQ (r.ws.getD k 0)) (fun i=>[(5,.int .i64 (i:Int))]) (fun _=>[.box 31 (kv r)]) (fun i=>r.ws.length-i) 0 ⟨by omega,fun k hk=>by omega⟩ ?_ ?_
      ·exact ff
      ·rintro i ⟨hi,he⟩;(conv=>whnf);repeat' ((first|refine st ?_|(refine⟨fun h=>?_,fun h=>?_⟩<;>try simp only[af] at h)|refine wf ?_|refine aA ?_|refine nn ?_|fail)<;>conv=>whnf)
       all_goals (try simp only[RV] at *)
       all_goals first
        | (rw[if_pos (show uQ r.ws from⟨i,by omega,by unfold sQ;omega⟩)])
        | (refine ⟨i + 1, ⟨by omega, fun k hk => ?_⟩, (by show r.ws.length - (i + 1) < r.ws.length - i; omega), ?_⟩
           · rcases Nat.lt_or_ge k i with q|q
             · exact he k q
             · have:k=i:=by omega
               subst this;unfold sQ;omega
           · conv=>whnf
             repeat (first|exact fa|((first|refine fb ?_|(refine And.intro ?_ ?_;rotate_left));conv=>whnf)))
        | (rw[if_neg (show ¬uQ r.ws by rintro⟨k,k1,k2⟩;exact he k (by omega) k2)])
 ·have e:eM r=1:=if_neg hs;rw[e];simp only[mX] at hs;refine aa.aj ak Tryz.func43 rfl rfl _ rfl ?_;(conv=>whnf);repeat' ((first|refine st ?_|(refine⟨fun h=>?_,fun h=>?_⟩<;>try simp only[af] at h)|refine wf ?_|refine aA ?_|refine nn ?_|fail)<;>conv=>whnf)
  all_goals first|(exfalso;omega)|skip
def fC:List Rd->Int
 | []=>0
 | r::l=>if eM r=0 then fC l else eM r
theorem H':∀(l:List Rd) (i:Nat),i<l.length->(∀k,k<i->eM (l.getD k default)=0)->eM (l.getD i default)≠0->fC l=eM (l.getD i default)
 | [],i,h,_,_=>absurd h (Nat.not_lt_zero _)
 | r::l,0,_,_,h=>if_neg h
 | r::l,i+1,h,hz,hn=>by
  have h0:eM r=0:=hz 0 (by omega);show(if eM r=0 then fC l else eM r)=_;rw[if_pos h0];exact H' l i (by simpa using h) (fun k hk=>hz (k+1) (by omega)) hn
theorem wg:∀(l:List Rd),(∀k,k<l.length->eM (l.getD k default)=0)->fC l=0
 | [],_=>rfl
 | r::l,hz=>by
  have h0:eM r=0:=hz 0 (by simp);show(if eM r=0 then fC l else eM r)=_;rw[if_pos h0];exact wg l fun k hk=>hz (k+1) (by simpa using hk)
theorem Ia:∀(l:List Rd),fC l=0->∀k,k<l.length->eM (l.getD k default)=0
 | [],_,k,h=>absurd h (Nat.not_lt_zero _)
 | r::l,h,k,hk=>by
  have h:(if eM r=0 then fC l else eM r)=0:=h;split at h
  ·rename_i h0
   match k with
   | 0=>exact h0
   | k+1=>exact Ia l h k (by simpa using hk)
  ·contradiction
def FL(l:List Rd):Nat->Nat
 | 0=>0
 | k+1=>FL l k+(l.getD k default).ws.length
def Lt(l:List Rd):Prop:=l.length<=1000/\∀i,i<l.length->RU (l.getD i default)
theorem wh{l:List Rd}(h:Lt l):∀k,k<=l.length->FL l k<=110*k
 | 0,_=>by simp[FL]
 | k+1,hk=>by
  have:=wh h k (by omega);have:=(h.2 k (by omega)).2;simp only[FL];omega
def UA(l:List Rd):Nat->Int
 | 0=>0
 | k+1=>(l.getD k default).id
def yM(l:List Rd):Prop:=∀i,i<l.length->0<i->(l.getD (i-1) default).id<(l.getD i default).id
instance (l:List Rd):Decidable (yM l):=inferInstanceAs (Decidable (∀ i,i < l.length->(0 < i->(l.getD (i - 1) default).id < (l.getD i default).id)))
def jL(l:List Rd):Int:=if 200<l.length then 4 else if fC l≠0 then fC l else if ¬yM l then 1 else if 400<FL l l.length then 4 else 0
theorem O3{r:Rd}(h:eM r=0):1<=r.id:=by
 unfold eM at h;split at h
 ·rename_i q;exact q.1
 ·omega
theorem O4(l:List Rd)(hl:Lt l):aa Tryz.prog G 91 [sP l] (.int .i64 (jL l)):=by
 have Uf:=hl.1;by_cases Ib:200<l.length
 ·have e:jL l=4:=if_pos Ib;rw[e];refine aa.aj ak Tryz.func91 rfl rfl _ rfl ?_;(conv=>whnf);repeat' ((first|refine st ?_|(refine⟨fun h=>?_,fun h=>?_⟩<;>try simp only[af] at h)|refine wf ?_|refine aA ?_|refine nn ?_|fail)<;>conv=>whnf)
  all_goals first|(exfalso;omega)|skip
 have e0:jL l=if fC l≠0 then fC l else if ¬yM l then 1 else if 400<FL l l.length then 4 else 0:=if_neg Ib
 rw[e0];refine aa.aj ak Tryz.func91 rfl rfl _ rfl ?_;(conv=>whnf);repeat' ((first|refine st ?_|(refine⟨fun h=>?_,fun h=>?_⟩<;>try simp only[af] at h)|refine wf ?_|refine aA ?_|refine nn ?_|fail)<;>conv=>whnf)
 all_goals first|(exfalso;omega)|skip
 refine al (fun i:Nat=>i<=l.length/\∀k,k<i->eM (l.getD k default)=0) (fun i=>[(15,.int .i64 (i:Int)),(3,.int .i64 (FL l i:Nat))]) (fun _=>[]) (fun i=>l.length-i) 0 ⟨by omega,fun k hk=>by omega⟩ ?_ ?_
 ·exact ff
 ·rintro i ⟨hi,he⟩;have hb:=wh hl i hi;(conv=>whnf)
  repeat (first|(refine st ?_;conv=>whnf))
  refine⟨fun h=>?_,fun h=>?_⟩
  ·have h:(i:Int)<l.length:=of_decide_eq_true h;have hc:=H9 (G:=G) (l.getD i default) (hl.2 i (by omega));have hw:(l.getD (i:Int).toNat default).ws.length<=110:=by rw[Int.toNat_natCast];exact(hl.2 i (by omega)).2
   (conv=>whnf);repeat' ((first|refine st ?_|(refine⟨fun h=>?_,fun h=>?_⟩<;>try simp only[af] at h)|(refine .inl ?_;(conv=>whnf);refine⟨_,hc,?_⟩)|refine wf ?_|refine aA ?_|refine nn ?_|fail)<;>conv=>whnf)
   ·have h:¬eM (l.getD i default)=0:=h;have e:=H' l i (by omega) he h;rw[if_pos (by rw[e];exact h),e]
   ·have h:eM (l.getD i default)=0:=h;refine⟨i+1,⟨by omega,fun k hk=>?_⟩,(by show l.length-(i+1)<l.length-i;omega),?_⟩
    ·rcases Nat.lt_or_ge k i with q|q
     ·exact he k q
     ·have:k=i:=by omega
      subst this;exact h
    ·exact ff
  ·have h:¬(i:Int)<l.length:=of_decide_eq_false h;have cr:i=l.length:=by omega
   subst cr;have hz:=wg l he;rw[if_neg (fun h=>h hz)];(conv=>whnf);repeat' ((first|refine st ?_|(refine⟨fun h=>?_,fun h=>?_⟩<;>try simp only[af] at h)|refine wf ?_|refine aA ?_|refine nn ?_|fail)<;>conv=>whnf)
   refine al (fun i:Nat=>i<=l.length/\∀k,0<k->k<i->(l.getD (k-1) default).id<(l.getD k default).id) (fun i=>[(32,.int .i64 (i:Int)),(4,.int .i64 (UA l i))]) (fun _=>[]) (fun i=>l.length-i) 0 ⟨by omega,fun k hk=>by omega⟩ ?_ ?_
   ·exact ff
   ·rintro i ⟨hi,hr⟩;(conv=>whnf);repeat' ((first|refine st ?_|(refine⟨fun h=>?_,fun h=>?_⟩<;>try simp only[af] at h)|refine wf ?_|refine aA ?_|refine nn ?_|fail)<;>conv=>whnf)
    ·have h:(l.getD i default).id<=UA l i:=h;rw[if_pos];intro hR
     match i with
     | 0 =>
      have:=O3 (he 0 (by omega));have h:(l.getD 0 default).id<=0:=h;omega
     | k+1 =>
      have h:(l.getD (k+1) default).id<=(l.getD k default).id:=h;have:=hR (k+1) (by omega) (by omega);rw[show k+1-1=k by omega] at this;omega
    ·have h:¬(l.getD i default).id<=UA l i:=h;refine⟨i+1,⟨by omega,fun k k0 hk=>?_⟩,(by show l.length-(i+1)<l.length-i;omega),?_⟩
     ·rcases Nat.lt_or_ge k i with q|q
      ·exact hr k k0 q
      ·have:k=i:=by omega
       subst this
       match k with
       | k+1 =>
        have h:¬(l.getD (k+1) default).id<=(l.getD k default).id:=h;rw[show k+1-1=k by omega];omega
     ·exact ff
    ·rw[if_neg (fun hn=>hn fun k k1 k0=>hr k k0 (by omega)),if_pos (by omega)]
    ·rw[if_neg (fun hn=>hn fun k k1 k0=>hr k k0 (by omega)),if_neg (by omega)]
theorem Ic(l:List Rd)(hl:Lt l):aa Tryz.prog G 12 [sP l] (.int .i64 (jL l)):=by
 have Uf:=hl.1;by_cases Ib:200<l.length
 ·have e:jL l=4:=if_pos Ib;rw[e];refine aa.aj ak Tryz.func12 rfl rfl _ rfl ?_;(conv=>whnf);repeat' ((first|refine st ?_|(refine⟨fun h=>?_,fun h=>?_⟩<;>try simp only[af] at h)|refine wf ?_|refine aA ?_|refine nn ?_|fail)<;>conv=>whnf)
  all_goals first|(exfalso;omega)|skip
 have e0:jL l=if fC l≠0 then fC l else if ¬yM l then 1 else if 400<FL l l.length then 4 else 0:=if_neg Ib
 rw[e0];refine aa.aj ak Tryz.func12 rfl rfl _ rfl ?_;(conv=>whnf);repeat' ((first|refine st ?_|(refine⟨fun h=>?_,fun h=>?_⟩<;>try simp only[af] at h)|refine wf ?_|refine aA ?_|refine nn ?_|fail)<;>conv=>whnf)
 all_goals first|(exfalso;omega)|skip
 refine al (fun x:Nat×Bool=>x.1<=l.length/\(∀k,k<x.1->eM (l.getD k default)=0)/\(x.2=true↔∀k,0<k->k<x.1->(l.getD (k-1) default).id<(l.getD k default).id))
  (fun x=>match x with|(i,b)=>[(5,.int .i64 (i:Int)),(3,.int .i64 (FL l i:Nat)),(4,.sb b)]) (fun _=>[]) (fun x=>l.length-x.1) (0,true) ⟨by simp,fun k hk=>absurd hk (Nat.not_lt_zero _),⟨fun _ k _ hk=>absurd hk (Nat.not_lt_zero _),fun _=>rfl⟩⟩ ?_ ?_
 ·exact ff
 ·rintro⟨i,b⟩ ⟨hi,he,hb⟩;have hi:i<=l.length:=hi;have rf:=wh hl i hi;have ei:((i:Int)-1).toNat=i-1:=by omega
  conv=>whnf
  repeat (first|(refine st ?_;conv=>whnf))
  refine⟨fun h=>?_,fun h=>?_⟩
  ·have h:(i:Int)<l.length:=of_decide_eq_true h;have hc:=ES (G:=G) (l.getD i default) (hl.2 i (by omega));have hw:(l.getD (i:Int).toNat default).ws.length<=110:=by rw[Int.toNat_natCast];exact(hl.2 i (by omega)).2
   (conv=>whnf);repeat' ((first|refine st ?_|(refine⟨fun h=>?_,fun h=>?_⟩<;>try simp only[af] at h)|(refine .inl ?_;(conv=>whnf);refine⟨_,hc,?_⟩)|refine wf ?_|refine aA ?_|refine nn ?_|fail)<;>conv=>whnf)
   all_goals (try simp only[RV] at *)
   all_goals (try simp only[ei] at *)
   ·have h:¬eM (l.getD i default)=0:=by assumption
    have e:=H' l i (by omega) he h;rw[if_pos (by rw[e];exact h),e]
   ·have q3:eM (l.getD i default)=0:=by assumption
    have Wt:i=0:=by omega
    refine⟨(i+1,true),⟨by show i+1<=l.length;omega,?_,?_⟩,(by show l.length-(i+1)<l.length-i;omega),?_⟩
    ·intro k hk;have:k=i:=by have hk:k<i+1:=hk;omega
     subst this;exact q3
    ·refine⟨fun _ k k0 hk=>?_,fun _=>rfl⟩;have hk:k<i+1:=hk;omega
    ·exact ff
   ·have q3:eM (l.getD i default)=0:=by assumption
    have q2:b=true:=by assumption
    refine⟨(i+1,decide ((l.getD (i-1) default).id<(l.getD i default).id)),⟨by show i+1<=l.length;omega,?_,?_⟩,(by show l.length-(i+1)<l.length-i;omega),?_⟩
    ·intro k hk;rcases Nat.lt_or_ge k i with q|q
     ·exact he k q
     ·have:k=i:=by have hk:k<i+1:=hk;omega
      subst this;exact q3
    ·rw[decide_eq_true_iff];refine⟨fun hd k k0 hk=>?_,fun hA=>hA i (by omega) (Nat.lt_succ_self i)⟩;rcases Nat.lt_or_ge k i with q|q
     ·exact hb.1 q2 k k0 q
     ·have:k=i:=by have hk:k<i+1:=hk;omega
      subst this;exact hd
    ·exact ff
   ·have q3:eM (l.getD i default)=0:=by assumption
    have q2:b=false:=by assumption
    refine⟨(i+1,false),⟨by show i+1<=l.length;omega,?_,?_⟩,(by show l.length-(i+1)<l.length-i;omega),?_⟩
    ·intro k hk;rcases Nat.lt_or_ge k i with q|q
     ·exact he k q
     ·have:k=i:=by have hk:k<i+1:=hk;omega
      subst this;exact q3
    ·refine⟨fun h=>Bool.noConfusion h,fun hA=>?_⟩;have:b=true:=hb.2 fun k k0 hk=>hA k k0 (by have hk:k<i:=hk;show k<i+1;omega);rw[this] at q2;exact Bool.noConfusion q2
    ·exact ff
  ·have h:¬(i:Int)<l.length:=of_decide_eq_false h;have cr:i=l.length:=by omega
   subst cr;have hz:=wg l he;rw[if_neg (fun h=>h hz)];(conv=>whnf);repeat' ((first|refine st ?_|(refine⟨fun h=>?_,fun h=>?_⟩<;>try simp only[af] at h)|refine wf ?_|refine aA ?_|refine nn ?_|fail)<;>conv=>whnf)
   ·rw[if_pos (fun hR=>?_)];have:b=true:=hb.2 fun k k0 hk=>hR k hk k0;rw[this] at h;exact Bool.noConfusion h
   all_goals rename_i q
   all_goals rw[if_neg (fun hn=>hn fun k k1 k0=>hb.1 q k k0 k1)]
   ·rw[if_pos (by omega)]
   ·rw[if_neg (by omega)]
theorem qa{α:Type}[Inhabited α](d:α)(l m:List α):l=m↔l.length=m.length/\∀i,i<l.length->l.getD i d=m.getD i d:=by
 constructor
 ·rintro rfl;exact⟨rfl,fun _ _=>rfl⟩
 ·rintro⟨h1,h2⟩;apply List.ext_getElem h1;intro i a b;have:=h2 i a;rw[List.getD_eq_getElem?_getD,List.getD_eq_getElem?_getD,List.getElem?_eq_getElem a,List.getElem?_eq_getElem b] at this;exact this
theorem Ie(a b:Rd):a=b↔a.id=b.id/\a.ow=b.ow/\a.gY=b.gY/\a.ws=b.ws:=by
 constructor
 ·rintro rfl;exact⟨rfl,rfl,rfl,rfl⟩
 ·rintro⟨h1,h2,h3,h4⟩;cases a;cases b;simp_all
theorem Ig(a b:Rd)(ha:RU a):aa Tryz.prog G 13 [.agg (kv a),.agg (kv b)] (.sb (decide (a=b))):=by
 obtain⟨hp,hw⟩:=ha;refine aa.aj ak Tryz.func13 rfl rfl _ rfl ?_;(conv=>whnf);repeat' ((first|refine st ?_|(refine⟨fun h=>?_,fun h=>?_⟩<;>try simp only[af] at h)|refine wf ?_|refine aA ?_|refine nn ?_|fail)<;>conv=>whnf)
 all_goals try (refine(decide_eq_false fun e=>?_).symm;rw[Ie] at e;obtain⟨e1,e2,e3,e4⟩:=e;first|contradiction|(have q3:=congrArg List.length e3;have q4:=congrArg List.length e4;omega))
 have XO:a.gY.length=b.gY.length:=by omega
 have Ti:a.ws.length=b.ws.length:=by omega
 have bQ:a.id=b.id:=by assumption
 have XP:a.ow=b.ow:=by assumption
 refine al (fun i:Nat=>i<=a.gY.length/\∀k,k<i->a.gY.getD k default=b.gY.getD k default) (fun i=>[(5,.int .i64 (i:Int))]) (fun _=>[.box 31 (kv a),.box 31 (kv b)]) (fun i=>a.gY.length-i) 0 ⟨by omega,fun k hk=>by omega⟩ ?_ ?_
 ·exact ff
 ·rintro i ⟨hi,he⟩;(conv=>whnf);repeat' ((first|refine st ?_|(refine⟨fun h=>?_,fun h=>?_⟩<;>try simp only[af] at h)|refine wf ?_|refine aA ?_|refine nn ?_|fail)<;>conv=>whnf)
  ·have h:¬a.gY.getD i default=b.gY.getD i default:=of_decide_eq_false ((mI _ _).symm.trans h);exact(decide_eq_false fun e=>h (by rw[e])).symm
  ·have h:a.gY.getD i default=b.gY.getD i default:=of_decide_eq_true ((mI _ _).symm.trans h);refine⟨i+1,⟨by omega,fun k hk=>?_⟩,(by show a.gY.length-(i+1)<a.gY.length-i;omega),?_⟩
   ·rcases Nat.lt_or_ge k i with q|q
    ·exact he k q
    ·have:k=i:=by omega
     subst this;exact h
   ·exact ff
  ·have hP:a.gY=b.gY:=(qa default _ _).2 ⟨XO,fun k hk=>he k (by omega)⟩;refine al (fun i:Nat=>i<=a.ws.length/\∀k,k<i->a.ws.getD k 0=b.ws.getD k 0) (fun i=>[(6,.int .i64 (i:Int))]) (fun _=>[.box 31 (kv a),.box 31 (kv b)]) (fun i=>a.ws.length-i) 0 ⟨by omega,fun k hk=>by omega⟩ ?_ ?_
   ·exact ff
   ·rintro i ⟨hi,he⟩;(conv=>whnf);repeat' ((first|refine st ?_|(refine⟨fun h=>?_,fun h=>?_⟩<;>try simp only[af] at h)|refine wf ?_|refine aA ?_|refine nn ?_|fail)<;>conv=>whnf)
    ·have h:¬a.ws.getD i 0=b.ws.getD i 0:=h;exact(decide_eq_false fun e=>h (by rw[e])).symm
    ·have h:a.ws.getD i 0=b.ws.getD i 0:=h;refine⟨i+1,⟨by omega,fun k hk=>?_⟩,(by show a.ws.length-(i+1)<a.ws.length-i;omega),?_⟩
     ·rcases Nat.lt_or_ge k i with q|q
      ·exact he k q
      ·have:k=i:=by omega
       subst this;exact h
     ·exact ff
    ·have hW:a.ws=b.ws:=(qa 0 _ _).2 ⟨Ti,fun k hk=>he k (by omega)⟩;exact(decide_eq_true ((Ie a b).2 ⟨bQ,XP,hP,hW⟩)).symm
structure Sp where
 rd:Int
 pl:Int
 s:Sg
 w:Int
 ow:Bool
 deriving Inhabited,DecidableEq
def Qv(x:Sp):List A:=[.int .i64 x.rd,.int .i64 x.pl,.int .i64 x.s.a.x,.int .i64 x.s.a.y,.int .i64 x.s.b.x,.int .i64 x.s.b.y,.int .i64 x.w,.sb x.ow]
def O5(l:List Sp):Nat->List A:=fun i=>Qv (l.getD i default)
def RW(l:List Sp):A:=.sl l.length 8 (O5 l)
def UB(r:Rd)(i:Nat):Sp:=⟨r.id,i,⟨r.gY.getD i default,r.gY.getD (i+1) default⟩,r.ws.getD i 0,r.ow⟩
def Ih(r:Rd)(k:Nat):List Sp:=(List.range k).map (UB r)
def o9(l:List Rd):Nat->List Sp
 | 0=>[]
 | k+1=>o9 l k++Ih (l.getD k default) (l.getD k default).ws.length
abbrev Ii(l:List Rd):List Sp:=o9 l l.length
theorem rh(r:Rd)(k:Nat):(Ih r k).length=k:=by simp[Ih]
theorem Ij(r:Rd)(k:Nat):Ih r (k+1)=Ih r k++[UB r k]:=by simp[Ih,List.range_succ]
theorem yN(l:List Rd):∀k,(o9 l k).length=FL l k
 | 0=>rfl
 | k+1=>by simp[o9,yN l k,rh,FL]
theorem iI{α:Type}[Inhabited α](e:α->List A)(L:List α)(x:α)(n:Nat)(hn:n=L.length)(r:Nat->List A)(hr:r 0=e x)(i:Nat)(hi:i<n+1):bN n (fun i=>e (L.getD i default)) r i=e ((L++[x]).getD i default):=by
 subst hn;unfold bN;split
 ·rename_i h;have h:i<L.length:=Nat.le_of_ble_eq_true h;simp only[List.getD_eq_getElem?_getD,List.getElem?_append_left h]
 ·rename_i h;have h:¬i<L.length:=fun h'=>by rw[show Nat.blt i L.length=true from Nat.ble_eq_true_of_le h'] at h;cases h
  have:i=L.length:=by omega
  subst this;rw[Nat.sub_self,hr];simp[List.getD_eq_getElem?_getD]
theorem De{l:List Rd}(h:jL l=0):l.length<=200/\(∀k,k<l.length->eM (l.getD k default)=0)/\yM l/\FL l l.length<=400:=by
 unfold jL at h;split at h
 ·omega
 ·split at h
  ·rename_i h2;exact absurd h h2
  ·rename_i h1 h2;split at h
   ·omega
   ·split at h
    ·omega
    ·rename_i h3 h4;exact⟨by omega,Ia l (by simpa using h2),by simpa using h3,by omega⟩
theorem uR{r:Rd}(h:eM r=0):mX r/\(∀i,i<r.gY.length->bT (r.gY.getD i default))/\¬Twin r.gY/\∀i,i<r.ws.length->¬sQ (r.ws.getD i 0):=by
 unfold eM at h;split at h
 ·rename_i hs;split at h
  ·omega
  ·rename_i h1;split at h
   ·omega
   ·rename_i h2;split at h
    ·omega
    ·rename_i h3;refine⟨hs,fun i hi=>?_,h2,fun i hi hb=>h3 ⟨i,hi,hb⟩⟩;exact Classical.byContradiction fun hn=>h1 ⟨i,hi,hn⟩
 ·omega
theorem Ik(l:List Rd)(hl:Lt l)(h:jL l=0):aa Tryz.prog G 44 [sP l] (.tup [RW (Ii l),.int .i64 0]):=by
 have h1:=O4 (G:=G) l hl;rw[h] at h1;obtain⟨q1,q2,q3,q4⟩:=De h;refine aa.aj ak Tryz.func44 rfl rfl _ rfl ?_;(conv=>whnf);repeat' ((first|((exfalso;exact h trivial))|refine st ?_|(refine⟨fun h=>?_,fun h=>?_⟩<;>try simp only[af] at h)|(refine .inl ?_;(conv=>whnf);refine⟨_,h1,?_⟩)|refine wf ?_|refine aA ?_|refine nn ?_|fail)<;>conv=>whnf)
 refine gw 5 62 8 rfl ?_;(conv=>whnf);refine al (fun i:Nat=>i<=l.length) (fun i=>[(17,.int .i64 (i:Int)),(5,.own 0)]) (fun i=>[.row 62 8 (o9 l i).length (O5 (o9 l i))]) (fun i=>l.length-i) 0 (Nat.zero_le _) ?_ ?_
 ·conv=>whnf
  repeat (first|exact fa|((first|refine fb ?_|(refine And.intro ?_ ?_;rotate_left));conv=>whnf))
 ·intro i hi;have hi:i<=l.length:=hi;rcases Nat.lt_or_ge i l.length with dE|dE
  ·have hr:=uR (q2 i dE);have FM:=hr.1;unfold mX at FM;have e0:(i:Int).toNat=i:=by omega
   (conv=>whnf);repeat' ((first|(exfalso;omega)|refine st ?_|(refine⟨fun h=>?_,fun h=>?_⟩<;>try simp only[af] at h)|refine wf ?_|refine aA ?_|refine nn ?_|fail)<;>conv=>whnf)
   refine al (fun k:Nat=>k<=(l.getD i default).ws.length) (fun k=>[(24,.int .i64 (k:Int)),(5,.own 0),(7,.ref 1 0)]) (fun k=>[.row 62 8 (o9 l i++Ih (l.getD i default) k).length (O5 (o9 l i++Ih (l.getD i default) k)),.box 31 (kv (l.getD i default))]) (fun k=>(l.getD i default).ws.length-k) 0 (Nat.zero_le _) ?_ ?_
   ·have ea:o9 l i=o9 l i++Ih (l.getD i default) 0:=(List.append_nil _).symm;rw[<-ea];exact ff
   ·intro k hk;have hk:k<=(l.getD i default).ws.length:=hk
    have hlen:(o9 l i++Ih (l.getD i default) k).length<=110*201:=by
     rw[List.length_append,yN,rh];have:=wh hl i hi;omega
    rcases Nat.lt_or_ge k (l.getD i default).ws.length with pN|pN
    ·have O6:(k:Int)<(l.getD (i:Int).toNat default).ws.length:=by rw[e0];omega
     (conv=>whnf);repeat' ((first|(exfalso;omega)|((refine mq (id:=12) 4 [3,1] rfl rfl ?_;conv=>whnf))|refine st ?_|(refine⟨fun h=>?_,fun h=>?_⟩<;>try simp only[af] at h)|refine wf ?_|refine aA ?_|refine nn ?_|fail)<;>conv=>whnf)
     refine⟨k+1,pN,(by show _-(k+1)<_-k;omega),?_⟩;(conv=>whnf)
     repeat (first|exact fa|((first|refine fb ?_|(refine And.intro ?_ ?_;rotate_left));conv=>whnf))
     ·rw[List.length_append,List.length_append,rh,rh];omega
     ·exact Or.inl fun j hj=>by rw[Ij,<-List.append_assoc];exact iI Qv _ (UB (l.getD i default) k) _ rfl _ rfl j hj
    ·have e:k=(l.getD i default).ws.length:=by omega
     subst e;have O6:¬(((l.getD i default).ws.length:Nat):Int)<(l.getD (i:Int).toNat default).ws.length:=by rw[e0];omega
     (conv=>whnf);repeat' ((first|(exfalso;omega)|refine st ?_|(refine⟨fun h=>?_,fun h=>?_⟩<;>try simp only[af] at h)|refine wf ?_|refine aA ?_|refine nn ?_|fail)<;>conv=>whnf)
     refine⟨i+1,dE,(by show l.length-(i+1)<l.length-i;omega),?_⟩;(conv=>whnf)
     repeat (first|exact fa|((first|refine fb ?_|(refine And.intro ?_ ?_;rotate_left));conv=>whnf))
  ·have e:i=l.length:=by omega
   subst e;(conv=>whnf);repeat' ((first|(exfalso;omega)|refine st ?_|(refine⟨fun h=>?_,fun h=>?_⟩<;>try simp only[af] at h)|refine wf ?_|refine aA ?_|refine nn ?_|fail)<;>conv=>whnf)
   repeat (first|exact fa|((first|refine fb ?_|(refine And.intro ?_ ?_;rotate_left));conv=>whnf))
def yO(w n d:Int):Int:=((w.toNat*n.toNat/d.toNat:Nat):Int)
def FN(n d:Int):Prop:=1<=d/\0<=n/\n<=d
instance (n d:Int):Decidable (FN n d):=inferInstanceAs (Decidable (_/\_))
theorem Bk{w n d:Int}(h:FN n d)(hw:0<=w):0<=yO w n d/\yO w n d<=w:=by
 unfold FN at h;unfold yO;refine⟨Int.natCast_nonneg _,?_⟩
 have h1:w.toNat*n.toNat/d.toNat<=w.toNat:=by
  refine Nat.div_le_of_le_mul ?_;rw[Nat.mul_comm];exact Nat.mul_le_mul (by omega) (Nat.le_refl _)
 omega
theorem Il(w n d:Int)(hw:0<=w/\w<=2147483648)(h:FN n d)(hd:d<=9223372036854775807):aa Tryz.prog G 206 [.int .i64 w,.int .i64 n,.int .i64 d] (.tup [.int .i64 (yO w n d),.int .i64 0]):=by
 have hle:=Bk h hw.1;unfold FN at h;unfold yO at *;obtain⟨w,rfl⟩:=Int.eq_ofNat_of_zero_le hw.1;obtain⟨n,rfl⟩:=Int.eq_ofNat_of_zero_le h.2.1;obtain⟨d,rfl⟩:=Int.eq_ofNat_of_zero_le (show 0<=d by omega);simp only[Int.toNat_natCast] at *;have hm:=jE (G:=G) w n (by omega) (by omega);have hp:w*n<=w*d:=Nat.mul_le_mul (Nat.le_refl _) (by omega);have MZ:w*d<=2147483648*d:=Nat.mul_le_mul (by omega) (Nat.le_refl _);have e:=Nat.div_add_mod (w*n) 18446744073709551616;have hq:=yd (G:=G) (w*n/18446744073709551616) (w*n%18446744073709551616) d (by omega) (by omega) (by omega);rw[show w*n/18446744073709551616*18446744073709551616+w*n%18446744073709551616=w*n by omega] at hq;generalize w*n/d=q at *;generalize w*n%d=r at *;generalize w*n/18446744073709551616=a at *;generalize w*n%18446744073709551616=b at *;clear hp MZ e;refine aa.aj ak Tryz.func206 rfl rfl _ rfl ?_;(conv=>whnf);repeat' ((first|(exfalso;omega)|refine st ?_|(refine⟨fun h=>?_,fun h=>?_⟩<;>try simp only[af] at h)|(refine .inl ?_;(conv=>whnf);(first|refine⟨_,hm,?_⟩|refine⟨_,hq,?_⟩))|refine wf ?_|refine aA ?_|refine nn ?_|fail)<;>conv=>whnf)
theorem Df(n d:Int):aa Tryz.prog G 204 [.agg [.int .i64 n,.int .i64 d]] (.sb (decide (FN n d))):=by
 refine aa.aj ak Tryz.func204 rfl rfl _ rfl ?_;(conv=>whnf);repeat' ((first|refine st ?_|(refine⟨fun h=>?_,fun h=>?_⟩<;>try simp only[af] at h)|refine wf ?_|refine aA ?_|refine nn ?_|fail)<;>conv=>whnf)
 all_goals (simp only[FN] at *;(first|rfl|exact(decide_eq_true (by omega)).symm|exact(decide_eq_false (by omega)).symm|exact decide_eq_decide.2 (by omega)|(rw[Bool.eq_iff_iff];simp only[rL] at *;omega)))
theorem sR(w:Int):aa Tryz.prog G 58 [.int .i64 w] (.sb (decide (0<=w/\w<=2147483648))):=by
 refine aa.aj ak Tryz.func58 rfl rfl _ rfl ?_;(conv=>whnf);repeat' ((first|refine st ?_|(refine⟨fun h=>?_,fun h=>?_⟩<;>try simp only[af] at h)|refine wf ?_|refine aA ?_|refine nn ?_|fail)<;>conv=>whnf)
 all_goals (first|rfl|exact(decide_eq_true (by omega)).symm|exact(decide_eq_false (by omega)).symm|exact decide_eq_decide.2 (by omega)|(rw[Bool.eq_iff_iff];simp only[rL] at *;omega))
theorem O7(w n d:Int)(hw:0<=w/\w<=2147483648)(h:FN n d)(hd:d<=9223372036854775807):aa Tryz.prog G 149 [.int .i64 w,.int .i64 n,.int .i64 d] (.tup [.int .i64 (yO w n d),.int .i64 0]):=by
 have h1:=sR (G:=G) w;have h2:=Df (G:=G) n d;rw[decide_eq_true hw] at h1;rw[decide_eq_true h] at h2;have h3:=Il (G:=G) w n d hw h hd;refine aa.aj ak Tryz.func149 rfl rfl _ rfl ?_;(conv=>whnf);repeat' ((first|(exact Bool.noConfusion h)|refine st ?_|(refine⟨fun h=>?_,fun h=>?_⟩<;>try simp only[af] at h)|(refine .inl ?_;(conv=>whnf);(first|refine⟨_,h1,?_⟩|refine⟨_,h2,?_⟩|refine⟨_,h3,?_⟩))|refine wf ?_|refine aA ?_|refine nn ?_|fail)<;>conv=>whnf)
theorem ET(p q:Nat):(decide (q/18446744073709551616<p/18446744073709551616)||(decide (q/18446744073709551616=p/18446744073709551616)&&decide (q%18446744073709551616<p%18446744073709551616)))=decide (q<p):=by
 rw[Bool.eq_iff_iff,Bool.or_eq_true,Bool.and_eq_true,decide_eq_true_eq,decide_eq_true_eq,decide_eq_true_eq,decide_eq_true_eq];omega
theorem Ly(a b c d:Nat)(ha:a<9223372036854775808)(hb:b<9223372036854775808)(hc:c<9223372036854775808)(hd:d<9223372036854775808):
  aa Tryz.prog G 205 [.agg [.int .i64 (a:Int),.int .i64 (b:Int)],.agg [.int .i64 (c:Int),.int .i64 (d:Int)]] (.sb (decide (c*b<a*d))):=by
 have h1:=jE (G:=G) a d (by omega) (by omega);have h2:=jE (G:=G) c b (by omega) (by omega);have e:=ET (a*d) (c*b);generalize a*d=p at *;generalize c*b=q at *;rw[<-e];clear e;generalize p/18446744073709551616=p1 at *;generalize p%18446744073709551616=p2 at *;generalize q/18446744073709551616=q1 at *;generalize q%18446744073709551616=q2 at *;refine aa.aj ak Tryz.func205 rfl rfl _ rfl ?_;(conv=>whnf);repeat' ((first|refine st ?_|(refine⟨fun h=>?_,fun h=>?_⟩<;>try simp only[af] at h)|(refine .inl ?_;(conv=>whnf);(first|refine⟨_,h1,?_⟩|refine⟨_,h2,?_⟩))|refine wf ?_|refine aA ?_|refine nn ?_|fail)<;>conv=>whnf)
 all_goals (rw[Bool.eq_iff_iff];simp only[Bool.or_eq_true,Bool.and_eq_true,decide_eq_true_eq,Bool.false_eq_true,true_iff,false_iff];omega)
abbrev Qp:=Int×Int
def Tw(p:Qp):List A:=[.int .i64 p.1,.int .i64 p.2]
def RX(l:List Qp):Nat->List A:=fun i=>Tw (l.getD i default)
def Lz(l:List Qp):A:=.sl l.length 2 (RX l)
structure Tx (l:List Qp):Prop where
 l2:2<=l.length
 l3:l.length<=2000
 ok:∀i,i<l.length->FN (l.getD i default).1 (l.getD i default).2/\(l.getD i default).2<=9223372036854775807
 up:∀i,0<i->i<l.length->¬(l.getD i default).1.toNat*(l.getD (i-1) default).2.toNat<(l.getD (i-1) default).1.toNat*(l.getD i default).2.toNat
 fst:(l.getD 0 default).1=0
 XS:(l.getD (l.length-1) default).1=(l.getD (l.length-1) default).2
theorem Im(p q:Qp)(hp:FN p.1 p.2/\p.2<=9223372036854775807)(hq:FN q.1 q.2/\q.2<=9223372036854775807):aa Tryz.prog G 205 [.agg (Tw p),.agg (Tw q)] (.sb (decide (q.1.toNat*p.2.toNat<p.1.toNat*q.2.toNat))):=by
 obtain⟨a,b⟩:=p;obtain⟨c,d⟩:=q;unfold FN at hp hq;simp only at hp hq;obtain⟨a,rfl⟩:=Int.eq_ofNat_of_zero_le hp.1.2.1;obtain⟨b,rfl⟩:=Int.eq_ofNat_of_zero_le (show 0<=b by omega);obtain⟨c,rfl⟩:=Int.eq_ofNat_of_zero_le hq.1.2.1;obtain⟨d,rfl⟩:=Int.eq_ofNat_of_zero_le (show 0<=d by omega);exact Ly a b c d (by omega) (by omega) (by omega) (by omega)
theorem O8(l:List Qp)(hP:Tx l):aa Tryz.prog G 148 [Lz l] (.sb true):=by
 have l2:=hP.l2;have l3:=hP.l3;refine aa.aj ak Tryz.func148 rfl rfl _ rfl ?_;(conv=>whnf);repeat' ((first|(exfalso;omega)|refine st ?_|(refine⟨fun h=>?_,fun h=>?_⟩<;>try simp only[af] at h)|refine wf ?_|refine aA ?_|refine nn ?_|fail)<;>conv=>whnf)
 refine al (fun i:Nat=>i<=l.length) (fun i=>[(16,.int .i64 (i:Int)),(4,.ae),(3,.ae)]) (fun i=>[]) (fun i=>l.length-i) 0 (Nat.zero_le _) ?_ ?_
 ·conv=>whnf
  repeat (first|exact fa|((first|refine fb ?_|(refine And.intro ?_ ?_;rotate_left));conv=>whnf))
 ·intro i hi;have hi:i<=l.length:=hi;rcases Nat.lt_or_ge i l.length with dE|dE
  ·have h1:=Df (G:=G) (l.getD i default).1 (l.getD i default).2;rw[decide_eq_true (hP.ok i dE).1] at h1;rcases Nat.eq_zero_or_pos i with rfl|hp
   ·(conv=>whnf);repeat' ((first|(exfalso;omega)|(exact Bool.noConfusion h)|refine st ?_|(refine⟨fun h=>?_,fun h=>?_⟩<;>try simp only[af] at h)|(refine .inl ?_;(conv=>whnf);refine⟨_,h1,?_⟩)|refine wf ?_|refine aA ?_|refine nn ?_|fail)<;>conv=>whnf)
    refine⟨1,dE,(by show l.length-1<l.length-0;omega),?_⟩;exact ff
   ·have h2:=Im (G:=G) _ _ (hP.ok (i-1) (by omega)) (hP.ok i dE);rw[decide_eq_false (hP.up i hp dE)] at h2;have ei:((i:Int)-1).toNat=i-1:=by omega
    rw[<-ei] at h2;(conv=>whnf);repeat' ((first|(exfalso;omega)|(exact Bool.noConfusion h)|refine st ?_|(refine⟨fun h=>?_,fun h=>?_⟩<;>try simp only[af] at h)|(refine .inl ?_;(conv=>whnf);(first|refine⟨_,h1,?_⟩|refine⟨_,h2,?_⟩))|refine wf ?_|refine aA ?_|refine nn ?_|fail)<;>conv=>whnf)
    refine⟨i+1,dE,(by show l.length-(i+1)<l.length-i;omega),?_⟩;exact ff
  ·have e:i=l.length:=by omega
   subst e;have hf:=hP.fst;have hl:=hP.XS;have ei:((l.length:Int)-1).toNat=l.length-1:=by omega
   (conv=>whnf);repeat' ((first|(exfalso;omega)|refine st ?_|(refine⟨fun h=>?_,fun h=>?_⟩<;>try simp only[af] at h)|refine wf ?_|refine aA ?_|refine nn ?_|fail)<;>conv=>whnf)
   ·rw[ei,hl];exact beq_self_eq_true _
   ·exact absurd hf h
/-- The pieces' weights. -/
def wi(w:Int)(l:List Qp):List Int:=(List.range (l.length-1)).map fun i=>yO w (l.getD (i+1) default).1 (l.getD (i+1) default).2-yO w (l.getD i default).1 (l.getD i default).2
theorem Dg(w:Int)(l:List Qp):(wi w l).length=l.length-1:=by simp[wi]
theorem O9(w:Int)(l:List Qp){i:Nat}(h:i<l.length-1):(wi w l).getD i 0=yO w (l.getD (i+1) default).1 (l.getD (i+1) default).2-yO w (l.getD i default).1 (l.getD i default).2:=by
 unfold wi;rw[List.getD_eq_getElem?_getD,List.getElem?_map,List.getElem?_range h];rfl
def iR(l:List Int):Nat->List A:=fun i=>[.int .i64 (l.getD i 0)]
theorem LA(w:Int)(l:List Qp)(i:Nat)(h:i<l.length-1)(r:Nat->List A)(hr:r 0=[.int .i64 (yO w (l.getD (i+1) default).1 (l.getD (i+1) default).2-yO w (l.getD i default).1 (l.getD i default).2)])(j:Nat)(hj:j<i+1):
  bN i (iR (wi w l)) r j=iR (wi w l) j:=by
 unfold bN;split
 ·rfl
 ·rename_i q;have q:¬j<i:=fun h'=>by rw[show Nat.blt j i=true from Nat.ble_eq_true_of_le h'] at q;cases q
  have e:j=i:=by omega
  subst e;rw[Nat.sub_self,hr];unfold iR;rw[O9 w l h]
theorem Io(w:Int)(l:List Qp)(hw:0<=w/\w<=2147483648)(hP:Tx l):aa Tryz.prog G 97 [.int .i64 w,Lz l] (.tup [rK (wi w l),.int .i64 0]):=by
 have l2:=hP.l2;have l3:=hP.l3;have h1:=sR (G:=G) w;rw[decide_eq_true hw] at h1;have h2:=O8 (G:=G) l hP;have h0:yO w (l.getD 0 default).1 (l.getD 0 default).2=0:=by rw[hP.fst];unfold yO;simp
 refine aa.aj ak Tryz.func97 rfl rfl _ rfl ?_;(conv=>whnf);repeat' ((first|(exfalso;omega)|(exact Bool.noConfusion h)|refine st ?_|(refine⟨fun h=>?_,fun h=>?_⟩<;>try simp only[af] at h)|(refine .inl ?_;(conv=>whnf);(first|refine⟨_,h1,?_⟩|refine⟨_,h2,?_⟩))|refine wf ?_|refine aA ?_|refine nn ?_|fail)<;>conv=>whnf)
 refine gw 6 3 1 rfl ?_;(conv=>whnf);refine al (fun i:Nat=>i<=l.length-1) (fun i=>[(23,.int .i64 (i:Int)),(6,.own 0),(7,.int .i64 (yO w (l.getD i default).1 (l.getD i default).2)),(9,.ae),(10,.ae),(11,.ae)]) (fun i=>[.row 3 1 i (iR (wi w l))]) (fun i=>l.length-1-i) 0 (Nat.zero_le _) ?_ ?_
 ·rw[h0];(conv=>whnf)
  repeat (first|exact fa|((first|refine fb ?_|(refine And.intro ?_ ?_;rotate_left));conv=>whnf))
 ·intro i hi;have hi:i<=l.length-1:=hi;rcases Nat.lt_or_ge i (l.length-1) with dE|dE
  ·have hk:=hP.ok (i+1) (by omega);have h3:=O7 (G:=G) w _ _ hw hk.1 hk.2;have XT:=hP.ok i (by omega);have b1:=Bk hk.1 hw.1;have b0:=Bk XT.1 hw.1;have dC:=LA w l i dE;generalize XU:yO w (l.getD (i+1) default).1 (l.getD (i+1) default).2=X1 at *;generalize yO w (l.getD i default).1 (l.getD i default).2=X0 at *;have e1:Int.toNat 1+(i:Int).toNat=i+1:=by rw[Int.toNat_natCast,Nat.add_comm];rfl
   rw[<-e1] at h3;(conv=>whnf);repeat' ((first|(exfalso;omega)|refine st ?_|(refine⟨fun h=>?_,fun h=>?_⟩<;>try simp only[af] at h)|(refine .inl ?_;(conv=>whnf);refine⟨_,h3,?_⟩)|refine wf ?_|refine aA ?_|refine nn ?_|fail)<;>conv=>whnf)
   refine⟨i+1,(by show i+1<=l.length-1;omega),(by show l.length-1-(i+1)<l.length-1-i;omega),?_⟩;(conv=>whnf)
   repeat (first|exact fa|((first|refine fb ?_|(refine And.intro ?_ ?_;rotate_left));conv=>whnf))
   ·exact Or.inl fun j hj=>dC _ rfl j hj
   ·exact XU.symm
  ·have e:i=l.length-1:=by omega
   subst e;have UC:=Dg w l;unfold rK;rw[UC];(conv=>whnf);repeat' ((first|(exfalso;omega)|refine st ?_|(refine⟨fun h=>?_,fun h=>?_⟩<;>try simp only[af] at h)|refine wf ?_|refine aA ?_|refine nn ?_|fail)<;>conv=>whnf)
   exact⟨Or.inl fun _ _=>rfl,rfl⟩
end Go.Proofs.YtijddijloelacaaGreat
namespace Go.Proofs.YtijddijloelacaaGreat
open Go.Proofs.YtijddijloelacaaGreat.Am Go.Sort Go.Proofs Go.Lib
variable [Inhabited bY]
variable {G:aG}
def nW(w:W8):Nat:=w.a+18446744073709551616*(w.b+18446744073709551616*(w.c+18446744073709551616*(w.d+18446744073709551616*(w.e+18446744073709551616*(w.f+18446744073709551616*(w.g+18446744073709551616*w.h))))))
theorem Ip{v:Nat}(h:v<65536 ^ 32):nW (w8 (wW v))=v:=by
 have h1:=eI h;have hw:=cj v;unfold wv dW at h1;rw[cA _ _ (hw 0),cA _ _ (hw 1),cA _ _ (hw 2),cA _ _ (hw 3),cA _ _ (hw 4),cA _ _ (hw 5),cA _ _ (hw 6),sn (hw 7)] at h1;exact h1
def rl(c:Cu):RS:=⟨c.1.p,c.1.q,nW c.1.X,nW c.1.Y,nW c.1.W⟩
theorem O'{s:Sg}(hL:bU s){n d:Int}(hd:d<=9223372036854775807):gl (rl (nA s n d))/\mL (rl (nA s n d))=OT (nA s n d).1:=by
 obtain⟨l1,l2,l3,l4⟩:=oY n d hd;obtain⟨⟨ax,ay⟩,⟨bx,Ky⟩,_⟩:=hL;have b1:=yl ax bx ⟨l1,l2⟩ l4;have b2:=yl ay Ky ⟨l1,l2⟩ l4
 have hN:=Hk b1 b2 (show 0<(cq n d).toNat by omega) (by omega);have RY:(2:Nat) ^ 119<65536 ^ 32:=by decide
 have Rp:(18446744073709551616:Nat)<65536 ^ 32:=by decide
 rw[eZ hd] at *;have Ty:su (qz (xS s (c9 n d) (cq n d)) (gg (xS s (c9 n d) (cq n d)) (yS s (c9 n d) (cq n d)) (cq n d).toNat)) (qz (yS s (c9 n d) (cq n d)) (gg (xS s (c9 n d) (cq n d)) (yS s (c9 n d) (cq n d)) (cq n d).toNat)) ((cq n d).toNat/gg (xS s (c9 n d) (cq n d)) (yS s (c9 n d) (cq n d)) (cq n d).toNat):=hN
 have e:rl (nA s n d)=⟨decide (qz (xS s (c9 n d) (cq n d)) (gg (xS s (c9 n d) (cq n d)) (yS s (c9 n d) (cq n d)) (cq n d).toNat)<0),decide (qz (yS s (c9 n d) (cq n d)) (gg (xS s (c9 n d) (cq n d)) (yS s (c9 n d) (cq n d)) (cq n d).toNat)<0),(qz (xS s (c9 n d) (cq n d)) (gg (xS s (c9 n d) (cq n d)) (yS s (c9 n d) (cq n d)) (cq n d).toNat)).natAbs,(qz (yS s (c9 n d) (cq n d)) (gg (xS s (c9 n d) (cq n d)) (yS s (c9 n d) (cq n d)) (cq n d).toNat)).natAbs,(cq n d).toNat/gg (xS s (c9 n d) (cq n d)) (yS s (c9 n d) (cq n d)) (cq n d).toNat⟩:=by
  unfold rl;rw[eZ hd];unfold FJ RM;simp only;rw[Ip (Nat.lt_trans Ty.2.1 RY),Ip (Nat.lt_trans Ty.2.2.1 RY),Ip (Nat.lt_trans Ty.2.2.2.2 Rp)]
 rw[e];refine⟨?_,?_⟩
 ·obtain⟨n1,n2,n3,n4,n5⟩:=Ty;refine⟨⟨n2,n3,n5⟩,n4,n1,fun h=>?_,fun h=>?_⟩
  ·have:=of_decide_eq_true h;simp only;omega
  ·have:=of_decide_eq_true h;simp only;omega
 ·unfold FJ RM mL jJ OT w8;rfl
theorem Pa{s:Sg}(hL:bU s){c:Cu}(h:EN s c):gl (rl c)/\mL (rl c)=OT c.1:=by
 obtain⟨n,d,hd,rfl⟩:=h;exact O' hL hd
end Go.Proofs.YtijddijloelacaaGreat
namespace Go.Proofs.YtijddijloelacaaGreat
open Go.Proofs.YtijddijloelacaaGreat.Am Go.Sort Go.Proofs Go.Lib
variable [Inhabited bY]
theorem Pb{a b:Pt}:(a.x=b.x/\a.y=b.y)↔a=b:=by
 obtain⟨ax,ay⟩:=a;obtain⟨bx,Ky⟩:=b;simp
def xv(c:Cu):Int×Int:=(c.1.n,c.1.d)
theorem Iq{s:Sg}{n d:Int}(hd:d<=9223372036854775807):xv (nA s n d)=(c9 n d,cq n d):=by
 unfold xv;rw[eZ hd];rfl
def Pd(a b:Int×Int):Prop:=a.1.toNat*b.2.toNat<b.1.toNat*a.2.toNat
theorem EU{L:List Cu}(h:L.Pairwise jt):(L.map xv).Pairwise Pd:=by
 rw[List.pairwise_map];exact h.imp fun h=>h
end Go.Proofs.YtijddijloelacaaGreat
namespace Go.Proofs.YtijddijloelacaaGreat
open Go.Proofs.YtijddijloelacaaGreat.Am Go.Sort Go.Proofs Go.Lib
variable [Inhabited bY]
variable {G:aG}
theorem LB(l:List Cu)(k:Nat)(h:k<l.length)(r:Nat->List A)(hr:r 0=[.int .i64 (l.getD k default).1.n,.int .i64 (l.getD k default).1.d])(j:Nat)(hj:j<k+1):bN k (RX (l.map xv)) r j=RX (l.map xv) j:=by
 unfold bN;split
 ·rfl
 ·rename_i q;have q:¬j<k:=fun h'=>by rw[show Nat.blt j k=true from Nat.ble_eq_true_of_le h'] at q;cases q
  have e:j=k:=by omega
  subst e;rw[Nat.sub_self,hr];unfold RX Tw xv;rw[List.getD_eq_getElem?_getD,List.getD_eq_getElem?_getD,List.getElem?_map,List.getElem?_eq_getElem h];rfl
theorem Ir(l:List Cu)(hl:l.length<=1000000):aa Tryz.prog G 98 [sJ l] (Lz (l.map xv)):=by
 have hm:(l.map xv).length=l.length:=by simp
 refine aa.aj ak Tryz.func98 rfl rfl _ rfl ?_;(conv=>whnf);repeat' ((first|refine st ?_|(refine⟨fun h=>?_,fun h=>?_⟩<;>try simp only[af] at h)|refine wf ?_|refine aA ?_|refine nn ?_|fail)<;>conv=>whnf)
 refine gw 3 76 2 rfl ?_;(conv=>whnf);refine al (fun i:Nat=>i<=l.length) (fun i=>[(8,.int .i64 (i:Int)),(3,.own 0),(5,.ae)]) (fun i=>[.row 76 2 i (RX (l.map xv))]) (fun i=>l.length-i) 0 (Nat.zero_le _) ?_ ?_
 ·conv=>whnf
  repeat (first|exact fa|((first|refine fb ?_|(refine And.intro ?_ ?_;rotate_left));conv=>whnf))
 ·intro i hi;have hi:i<=l.length:=hi;rcases Nat.lt_or_ge i l.length with dE|dE
  ·have dC:=LB l i dE;(conv=>whnf);repeat' ((first|(exfalso;omega)|refine st ?_|(refine⟨fun h=>?_,fun h=>?_⟩<;>try simp only[af] at h)|refine wf ?_|refine aA ?_|refine nn ?_|fail)<;>conv=>whnf)
   refine⟨i+1,dE,(by show l.length-(i+1)<l.length-i;omega),?_⟩;(conv=>whnf)
   repeat (first|exact fa|((first|refine fb ?_|(refine And.intro ?_ ?_;rotate_left));conv=>whnf))
   all_goals first|exact Or.inl fun j hj=>dC _ rfl j hj
  ·have e:i=l.length:=by omega
   subst e;unfold Lz;rw[hm];(conv=>whnf);repeat' ((first|(exfalso;omega)|refine st ?_|(refine⟨fun h=>?_,fun h=>?_⟩<;>try simp only[af] at h)|refine wf ?_|refine aA ?_|refine nn ?_|fail)<;>conv=>whnf)
   exact Or.inl fun _ _=>rfl
/-- All spots of some strips' cuts, and of some of the next one. -/
def mN(F:Nat->List Cu)(i:Nat):List RS:=(List.range i).flatMap fun j=>(F j).map rl
theorem yP(F:Nat->List Cu)(i:Nat):mN F (i+1)=mN F i++(F i).map rl:=by simp[mN,List.range_succ,List.flatMap_append]
theorem sS(F:Nat->List Cu)(B:Nat):∀i,(∀j,j<i->(F j).length<=B)->(mN F i).length<=B*i
 | 0,_=>by simp[mN]
 | i+1,h=>by
  rw[yP,List.length_append,List.length_map];have:=sS F B i fun j hj=>h j (by omega);have:=h i (by omega);rw[Nat.mul_succ];omega
/-- A spot as a key. -/
def yQ(r:RS):List KC:=[.bool r.p,.int (wW r.x 0:Nat),.int (wW r.x 1:Nat),.int (wW r.x 2:Nat),.int (wW r.x 3:Nat),.int (wW r.x 4:Nat),.int (wW r.x 5:Nat),.int (wW r.x 6:Nat),.int (wW r.x 7:Nat),.bool r.q,.int (wW r.y 0:Nat),.int (wW r.y 1:Nat),.int (wW r.y 2:Nat),.int (wW r.y 3:Nat),.int (wW r.y 4:Nat),.int (wW r.y 5:Nat),.int (wW r.y 6:Nat),.int (wW r.y 7:Nat),.int (wW r.w 0:Nat),.int (wW r.w 1:Nat),.int (wW r.w 2:Nat),.int (wW r.w 3:Nat),.int (wW r.w 4:Nat),.int (wW r.w 5:Nat),.int (wW r.w 6:Nat),.int (wW r.w 7:Nat)]
def Qw:List KS:=[.bool,.int .u64,.int .u64,.int .u64,.int .u64,.int .u64,.int .u64,.int .u64,.int .u64,.bool,.int .u64,.int .u64,.int .u64,.int .u64,.int .u64,.int .u64,.int .u64,.int .u64,.int .u64,.int .u64,.int .u64,.int .u64,.int .u64,.int .u64,.int .u64,.int .u64]
def qN(L:List RS)(k:List KC):Bool:=decide (k∈L.map yQ)
def wj(L:List RS)(k:List KC):A:=.int .i64 ((L.map yQ).idxOf k:Nat)
theorem uS(l:List RS)(h:∀r∈l,gl r){B:Nat}(hl:l.length<=B):(lk (cZ (fU l h))).length<=B:=by
 unfold lk;rw[List.length_map];have:=sH (fU l h) (fU l h).length (Nat.le_refl _);rw[List.take_length,yu] at this;omega
theorem wm{a b:Nat}(ha:a<65536 ^ 32)(hb:b<65536 ^ 32)(h:∀k,k<8->wW a k=wW b k):a=b:=OZ ha hb (by
 unfold w8;rw[h 0 (by omega),h 1 (by omega),h 2 (by omega),h 3 (by omega),h 4 (by omega),h 5 (by omega),h 6 (by omega),h 7 (by omega)])
theorem LC{r s:RS}(hr:Rk r)(hs:Rk s)(h:yQ r=yQ s):r=s:=by
 obtain⟨p,q,x,y,w⟩:=r;obtain⟨p',q',x',y',w'⟩:=s;unfold yQ at h;simp only[List.cons.injEq,KC.bool.injEq,KC.int.injEq,Int.natCast_inj,and_true] at h;obtain⟨h1,a0,a1,a2,a3,a4,a5,a6,a7,h2,b0,b1,b2,b3,b4,b5,b6,b7,c0,c1,c2,c3,c4,c5,c6,c7⟩:=h;have ex:=wm hr.1 hs.1 (fun k hk=>by rcases (show k=0\/k=1\/k=2\/k=3\/k=4\/k=5\/k=6\/k=7 by omega) with rfl|rfl|rfl|rfl|rfl|rfl|rfl|rfl<;>assumption);have ey:=wm hr.2.1 hs.2.1 (fun k hk=>by rcases (show k=0\/k=1\/k=2\/k=3\/k=4\/k=5\/k=6\/k=7 by omega) with rfl|rfl|rfl|rfl|rfl|rfl|rfl|rfl<;>assumption);have ew:=wm hr.2.2 hs.2.2 (fun k hk=>by rcases (show k=0\/k=1\/k=2\/k=3\/k=4\/k=5\/k=6\/k=7 by omega) with rfl|rfl|rfl|rfl|rfl|rfl|rfl|rfl<;>assumption);simp only at ex ey ew;rw[h1,h2,ex,ey,ew]
theorem Iu(l:List RS)(h:∀r∈l,gl r):((lk (cZ (fU l h))).map yQ).Nodup:=by
 have hp:=(gI (fU l h) [] List.Pairwise.nil).1;unfold lk;rw[List.map_map,List.nodup_iff_pairwise_ne,List.pairwise_map];refine List.Pairwise.imp ?_ hp;intro a b AL e;have:=LC a.rk b.rk e;have:a=b:=Subtype.ext this;subst this;exact v8 a AL
theorem Pe(N:List RS)(k:Nat)(h:k<N.length)(key:List KC):mY (qN (N.take k)) (yQ (N.getD k default)) true key=qN (N.take (k+1)) key:=by
 have ht:(N.take (k+1)).map yQ=(N.take k).map yQ++[yQ (N.getD k default)]:=by
  rw[List.take_add_one,List.getElem?_eq_getElem h,List.getD_eq_getElem?_getD,List.getElem?_eq_getElem h,List.map_append];rfl
 unfold mY qN;rw[ht];split
 ·rename_i e;subst e;exact(decide_eq_true (List.mem_append_right _ (List.mem_singleton.2 rfl))).symm
 ·rename_i e;rw[decide_eq_decide,List.mem_append,List.mem_singleton];exact⟨.inl,fun q=>q.resolve_right e⟩
theorem Iv{L:List (List KC)}(hn:L.Nodup){k:Nat}(h:k<L.length):L.idxOf L[k]=k:=by
 exact hn.idxOf_getElem k h
theorem Pf{N:List RS}(hn:(N.map yQ).Nodup)(k:Nat)(h:k<N.length)(key:List KC):pd (wj N) (yQ (N.getD k default)) (.int .i64 (k:Int)) key=wj N key:=by
 unfold pd;split
 ·rename_i e;subst e;unfold wj;have:=Iv hn (k:=k) (by simpa using h);rw[List.getElem_map] at this;rw[List.getD_eq_getElem?_getD,List.getElem?_eq_getElem h];show _=A.int .i64 (((N.map yQ).idxOf (yQ N[k]):Nat):Int);rw[this]
 ·rfl
theorem LD(dn:(default:bY).ns)(n:Nat)(F:Nat->List Cu)(B:Nat)(hB:∀i,i<n->(F i).length<=B)(nB:B*n<=10000)(hn:n<=10000)(hF:∀i,i<n->∀c∈F i,mL (rl c)=OT c.1)(hM:∀r∈mN F n,gl r):
  aa Tryz.prog G 46 [o8 n F] (.tup [fK (lk (cZ (fU (mN F n) hM))),.mv true Qw (qN (lk (cZ (fU (mN F n) hM)))) (wj (lk (cZ (fU (mN F n) hM))))]):=by
 have hs:=OQ (G:=G) dn (mN F n) (Nat.le_trans (sS F B n hB) nB) hM;have Wu:(lk (cZ (fU (mN F n) hM))).length<=10000:=uS (mN F n) hM (Nat.le_trans (sS F B n hB) nB);have XV:((lk (cZ (fU (mN F n) hM))).map yQ).Nodup:=Iu (mN F n) hM;generalize lk (cZ (fU (mN F n) hM))=N at *;refine aa.aj ak Tryz.func46 rfl rfl _ rfl ?_;(conv=>whnf);repeat' ((first|refine st ?_|(refine⟨fun h=>?_,fun h=>?_⟩<;>try simp only[af] at h)|refine wf ?_|refine aA ?_|refine nn ?_|fail)<;>conv=>whnf)
 refine gw 4 57 26 rfl ?_;(conv=>whnf);refine al (fun i:Nat=>i<=n) (fun i=>[(16,.int .i64 (i:Int)),(4,.own 0),(6,.ae),(8,.ae)]) (fun i=>[.row 57 26 (mN F i).length (fun j=>mL ((mN F i).getD j default))]) (fun i=>n-i) 0 (Nat.zero_le _) ?_ ?_
 ·conv=>whnf
  repeat (first|exact fa|((first|refine fb ?_|(refine And.intro ?_ ?_;rotate_left));conv=>whnf))
 ·intro i hi;have hi:i<=n:=hi;rcases Nat.lt_or_ge i n with dE|dE
  ·(conv=>whnf);repeat' ((first|(exfalso;omega)|refine st ?_|(refine⟨fun h=>?_,fun h=>?_⟩<;>try simp only[af] at h)|refine wf ?_|refine aA ?_|refine nn ?_|fail)<;>conv=>whnf)
   refine al (fun k:Nat=>k<=(F i).length) (fun k=>[(22,.int .i64 (k:Int)),(4,.own 0),(8,.ae)]) (fun k=>[.row 57 26 (mN F i++((F i).take k).map rl).length (fun j=>mL ((mN F i++((F i).take k).map rl).getD j default))]) (fun k=>(F i).length-k) 0 (Nat.zero_le _) ?_ ?_
   ·have ea:mN F i++((F i).take 0).map rl=mN F i:=by simp
    rw[ea];(conv=>whnf)
    repeat (first|exact fa|((first|refine fb ?_|(refine And.intro ?_ ?_;rotate_left));conv=>whnf))
   ·intro k hk;have hk:k<=(F i).length:=hk;have ZD:(F i).length<=10000:=Nat.le_trans (hB i dE) (Nat.le_trans (Nat.le_mul_of_pos_right B (by omega)) nB);have e0:(i:Int).toNat=i:=Int.toNat_natCast i
    have hlen:(mN F i++((F i).take k).map rl).length<=10000:=by
     rw[List.length_append,List.length_map,List.length_take];have h1:=sS F B i fun j hj=>hB j (by omega);have h2:=hB i dE;have h3:B*(i+1)<=B*n:=Nat.mul_le_mul (Nat.le_refl _) dE;rw[Nat.mul_succ] at h3;omega
    rcases Nat.lt_or_ge k (F i).length with pN|pN
    ·have O6:(k:Int)<(F (i:Int).toNat).length:=by rw[e0];omega
     have hc:=hF i dE _ (List.getElem_mem pN);have hx:(F i).getD k default=(F i)[k]:=nX pN;rw[<-hx] at hc;have et:((F i).take (k+1)).map rl=((F i).take k).map rl++[rl ((F i).getD k default)]:=by rw[List.take_add_one,List.getElem?_eq_getElem pN,hx,List.map_append];rfl
     (conv=>whnf);repeat' ((first|(exfalso;omega)|refine st ?_|(refine⟨fun h=>?_,fun h=>?_⟩<;>try simp only[af] at h)|refine wf ?_|refine aA ?_|refine nn ?_|fail)<;>conv=>whnf)
     refine⟨k+1,pN,(by show(F i).length-(k+1)<(F i).length-k;omega),?_⟩;(conv=>whnf)
     repeat (first|exact fa|((first|refine fb ?_|(refine And.intro ?_ ?_;rotate_left));conv=>whnf))
     ·exact Or.inl fun j hj=>by rw[et,<-List.append_assoc];exact iI mL _ (rl ((F i).getD k default)) _ rfl _ hc.symm j hj
     ·rw[et];simp only[List.length_append,List.length_map,List.length_cons,List.length_nil];omega
    ·have e:k=(F i).length:=by omega
     have O6:¬(k:Int)<(F (i:Int).toNat).length:=by rw[e0];omega
     have et:mN F i++((F i).take k).map rl=mN F (i+1):=by rw[yP,e,List.take_length]
     rw[et];(conv=>whnf);repeat' ((first|(exfalso;omega)|refine st ?_|(refine⟨fun h=>?_,fun h=>?_⟩<;>try simp only[af] at h)|refine wf ?_|refine aA ?_|refine nn ?_|fail)<;>conv=>whnf)
     refine⟨i+1,dE,(by show n-(i+1)<n-i;omega),?_⟩;(conv=>whnf)
     repeat (first|exact fa|((first|refine fb ?_|(refine And.intro ?_ ?_;rotate_left));conv=>whnf))
  ·have e:i=n:=by omega
   subst e;have Wu:N.length<=10000:=Wu;unfold fK at hs;(conv=>whnf);repeat' ((first|(exfalso;omega)|refine st ?_|(refine⟨fun h=>?_,fun h=>?_⟩<;>try simp only[af] at h)|(refine .inr (.inr (.inl ?_));(conv=>whnf);refine⟨_,hs,?_⟩)|refine wf ?_|refine aA ?_|refine nn ?_|fail)<;>conv=>whnf)
   refine al (fun i:Nat=>i<=N.length) (fun i=>[(41,.int .i64 (i:Int)),(12,.ae),(13,.ae)]) (fun i=>[.dead,.ez true Qw (qN (N.take i)) (wj N)]) (fun i=>N.length-i) 0 (Nat.zero_le _) ?_ ?_
   ·conv=>whnf
    repeat (first|exact fa|((first|refine fb ?_|(refine And.intro ?_ ?_;rotate_left));conv=>whnf))
    exact fun _ h=>Bool.noConfusion h
   ·intro k hk;have hk:k<=N.length:=hk;rcases Nat.lt_or_ge k N.length with pN|pN
    ·(conv=>whnf);repeat' ((first|(exfalso;omega)|refine st ?_|(refine⟨fun h=>?_,fun h=>?_⟩<;>try simp only[af] at h)|refine wf ?_|refine aA ?_|refine nn ?_|fail)<;>conv=>whnf)
     refine⟨k+1,pN,(by show N.length-(k+1)<N.length-k;omega),?_⟩;(conv=>whnf)
     repeat (first|exact fa|((first|refine fb ?_|(refine And.intro ?_ ?_;rotate_left));conv=>whnf))
     ·exact fun key _=>Pf XV k pN key
     ·exact fun key=>Pe N k pN key
    ·have e:k=N.length:=by omega
     subst e;(conv=>whnf);repeat' ((first|(exfalso;omega)|((refine Tz (id:=18) 2 [1] rfl ?_;(conv=>whnf);refine mq (id:=18) 2 [] rfl rfl ?_;conv=>whnf))|refine st ?_|(refine⟨fun h=>?_,fun h=>?_⟩<;>try simp only[af] at h)|refine wf ?_|refine aA ?_|refine nn ?_|fail)<;>conv=>whnf)
     rw[List.take_length];exact ff
end Go.Proofs.YtijddijloelacaaGreat

/-
  The walks and plain laws, part 4.
-/
import Derived.Test.YtijddijloelacaaGreatNetOf3
import Derived.Test.YtijddijloelacaaGreatAm4
import Derived.Test.YtijddijloelacaaGreatNetOf2
import Derived.Test.YtijddijloelacaaGreatProg
import Derived.Ground.SlsfProg
import Derived.Shelf.SlSortCmp.WholeK
import Derived.Lib.SlicesCompact
import Derived.Test.YtijddijloelacaaGreatAm3
set_option linter.unusedSimpArgs false
set_option linter.unusedSectionVars false
set_option linter.unusedVariables false
set_option maxRecDepth 100000
set_option maxHeartbeats 4000000
namespace Go.Proofs.YtijddijloelacaaGreat.Am
variable [Inhabited cF]
open Go.RowKit (Below)
open Go.Proofs Go.Shelf Go.Sort Go.Lib
section
variable {P:Program} {ρ : Go.Shelf.Ren} {G:aK} {α : Type} [Inhabited α] [DecidableEq α]
/-- What is left of a list if of equal neighbours one stays. -/
def dK(l:List α):List α:=compactUpTo l.toArray l.length
theorem Nf(l:List α):(dK l).length<=l.length:=by
 unfold dK compactUpTo;rw[List.length_map];exact Nat.le_trans (List.length_filter_le _ _) (by simp)
theorem aM.Dg(L:HE P ρ)(k:Nat)(k0:0<k)(aE:∀w,(isAgg (ρ.t 23)).run P w=.ok true w)(zE:∀w,(Go.sizeOf (ρ.t 23)).run P w=.ok k w)
  (e:α->List A) (Cm:∀x,∀a∈e x,qQ a) (hk:∀x,(e x).length=k)
  (YK:∀(x y:α) (w:World),Sem.run P (binOp .eql (ρ.t 23) (.agg (bK e x).toArray) (.agg (bK e y).toArray)) w=.ok (.bool (decide (x=y))) w)
  (YL:∀(x y:α) (w:World),Sem.run P (binOp .neq (ρ.t 23) (.agg (bK e x).toArray) (.agg (bK e y).toArray)) w=.ok (.bool (!decide (x=y))) w)
  (YM:∀(op:BinOp) (a b:Operand) (x y:α) (w:World),Sem.run P (eqGuard op (ρ.t 23) a b (.agg (bK e x).toArray) (.agg (bK e y).toArray)) w=.ok () w)
  (zr:α) (zv:Value) (v23:∀w,(zeroValue (ρ.t 23)).run P w=.ok zv w) (hz:∀n,(Builtin.zeroCells zv.cells n).toList=(List.replicate n zr).flatMap (bK e))
  (hfn : ∃ fn cd, P.funcs[ρ.f 43]? = some fn ∧ fn.body = some cd ∧ (fn.name == "runtime.NumGoroutine") = false) (ty : TypeId) (l : List α) (hl : l.length ≤ 1000000) (hne : 0 < l.length) :
  aM P G (ρ.f 43) [.own 1] [.ghost [.own 1,.aj],.row ty k l.length (cR e l)] (.own 1) [.ghost [.aj,.aj],.row ty k (dK l).length (cR e (dK l))]:=by
 refine⟨hfn,?_⟩;intro im w vs gs ids hG hs;have xT:vs.length=1:=by have:=hs.len;simpa using this
 obtain⟨v0,rfl⟩:∃v0,vs=[v0]:=by
  match vs,xT with
  | [a],_=>exact⟨a,rfl⟩
 have r0:Rel ids _ w (.own 1) v0:=hs.cc 0 (by simp) (by simp);have qv:ids.length=2:=by have:=hs.aU;simpa using this
 have Cn:=hs.bP 1 (by simp) (by omega);simp only[List.getElem_cons_succ,List.getElem_cons_zero] at Cn
 obtain⟨p,cap,cD,Co,Lr,rfl⟩:∃p cap,ids[1]?=some (.lv p)/\(p.n<=cap/\cap<=maxLen)/\cap*p.sz=p.k/\v0=.slice (some ⟨p.aq,0,none⟩) p.n cap:=by
  rcases hs.gC r0 (by simp) with⟨h1,_⟩|h
  ·rw[List.getElem?_eq_getElem (by omega)] at h1;rw[Option.some.inj h1] at Cn;have:l.length=0:=Cn;omega
  ·exact h
 have zY:ids[1]'(by omega)=.lv p:=by rw[List.getElem?_eq_getElem (by omega)] at cD;exact Option.some.inj cD
 rw[zY] at Cn;obtain⟨g1,g2,cur,g3,g4,g5,g6,g7⟩:=Cn;rw[g2];have SC:=hs.au p (List.mem_of_getElem? cD) p.aq (.inl rfl);have GN:∀x,(bK e x).length=k:=fun x=>by simp[bK,hk]
 have xv:∀x,∀v∈bK e x,v.oneCell'=true:=fun x v hv=>by
  simp only[bK,List.mem_map] at hv;obtain⟨n,hn,rfl⟩:=hv;exact z8 (Cm x n hn)
 have Aa:∀t,t<l.length*k->cur[t]?=some ((bK e (l.getD (t/k) default)).getD (t%k) undef):=by
  intro t ht;obtain⟨q1,q2,q3⟩:=j9 ht rfl rfl;have aH:t<cur.size:=by omega
  have GO:(cR e l (t/k)).length=k:=g6 _ q1;have:=(g7 (t/k) (t%k) q1 (by rw[GO];exact q2) (by rw[q3];exact aH)).1;simp only[q3] at this;have ZW:t%k<(e (l.getD (t/k) default)).length:=by rw[hk];exact q2
  have e1:(cR e l (t/k))[t%k]'(by rw[GO];exact q2)=(e (l.getD (t/k) default))[t%k]:=rfl;rw[e1] at this;have hv:cur[t]=Lp ((e (l.getD (t/k) default))[t%k]):=Lq (Cm _ _ (List.getElem_mem ZW)) this;rw[Array.getElem?_eq_getElem aH,hv];have Ls:t%k<(bK e (l.getD (t/k) default)).length:=by rw[GN];exact q2
  rw[List.getD_eq_getElem?_getD (l:=bK e (l.getD (t/k) default)),List.getElem?_eq_getElem Ls,Option.getD_some];simp only[bK,List.getElem_map]
 have gT:∀(m:List α) (i:Nat),m.toArray[i]! = m.getD i default:=fun m i=>by
  rw[List.getD_eq_getElem?_getD];simp[Array.getElem!_eq_getD,Array.getD_eq_getD_getElem?]
 have hH:HoldsK (bK e) k w p.aq 0 l.toArray:=by
  intro j hj;rw[size_flatK] at hj;have hj:j<l.length*k:=by simpa using hj
  constructor
  ·rw[Nat.zero_add,cell_of_row w p.aq j cur ty (0,0) g3,Aa j hj,id,get_flatK _ _ _ _ (by simpa using hj),gT];obtain⟨q1,q2,q3⟩:=j9 hj rfl rfl;have:j%k<(bK e (l.getD (j/k) default)).length:=by rw[GN];exact q2
   rw[List.getD_eq_getElem?_getD (l:=bK e (l.getD (j/k) default)),List.getElem?_eq_getElem this,Option.getD_some,getElem!_pos (bK e (l.getD (j/k) default)) _ this]
  ·unfold World.frozen?;simp only[g3];simp
 have Cp:=Jq L k k0 aE zE (bK e) GN xv YK YL YM zr zv v23 hz p.aq 0 cap l.toArray w hH (by simp;omega) (by simpa[g2] using Co.1);refine bD (by simpa using Cp) ?_;rintro e' w' ⟨rfl,q,jT⟩;have em:compactUpTo l.toArray l.length=dK l:=rfl;rw[em] at jT ⊢;have Iq:=Nf l;obtain⟨dd,gD⟩:∃dd:List α,dd=dK l++List.replicate (l.length-(dK l).length) zr:=⟨_,rfl⟩;have jT:w'=putRowK (bK e) k (Go.Sort.ahead w q) p.aq 0 dd.toArray:=by rw[jT,gD]<;>simp
 have YP:dd.length=l.length:=by rw[gD];simp;omega
 have Wx:∀i,i<(dK l).length->dd.getD i default=(dK l).getD i default:=fun i hi=>by
  rw[gD];simp only[List.getD_eq_getElem?_getD];rw[List.getElem?_append_left hi]
 have cj:w'.heap.size=w.heap.size:=by rw[jT,size_putRowK];rfl
 have BN:∀b,b<w.heap.size->b≠p.aq->w'.heap[b]?=w.heap[b]?:=fun b hb XP=>by
  rw[jT];show((Go.Sort.ahead w q).heap.modify p.aq _)[b]?=_;rw[Array.getElem?_modify,if_neg (fun h=>XP h.symm)];rfl
 obtain⟨cu,hcu⟩:∃cu,cu=putCells id 0 (flatK (bK e) k dd.toArray) cur:=⟨_,rfl⟩
 have Cq:w'.heap[p.aq]?=some (.cells cu ty (0,0)):=by
  rw[jT,hcu];show((Go.Sort.ahead w q).heap.modify p.aq _)[p.aq]?=_;rw[Array.getElem?_modify,if_pos rfl];show Option.map _ (w.heap[p.aq]?)=_;rw[g3];rfl
 have By:cu.size=cur.size:=by rw[hcu];simp[putCells]
 have bY:=hs.rebind (w':=w') 1 (.lv (mkId p.aq cu.size (dK l).length k)) (.row ty k (dK l).length (cR e (dK l))) 4 (by simp) (by rw[jT];rfl) (by rw[jT];rfl) (by rw[jT];rfl) (by omega)
  (fun b hb hp=>BN b hb (fun e=>hp p cD (.inl e))) (fun _ h=>by cases h)
  (fun p' h x' hx=>by
   cases h;have:=cQ hx;subst this;exact⟨by omega,.inr ⟨p,cD,.inl rfl⟩⟩)
  (fun _=>by
   refine⟨rfl,rfl,cu,Cq,rfl,?_,fun i _=>by simp[cR,hk],?_⟩
   ·show(dK l).length*k<=cu.size;have:=Nat.mul_le_mul_right k Iq;omega
   ·intro i j hi hj cH;have EV:j<k:=by simpa[cR,hk] using hj
    have aH:i*k+j<l.length*k:=by
     have:=Nat.mul_le_mul_right k (show i+1<=l.length by omega);rw[Nat.add_mul] at this;omega
    have XS:(flatK (bK e) k dd.toArray).size=l.length*k:=by rw[size_flatK];simp[YP]
    have hv:cu[i*k+j]=Lp ((e ((dK l).getD i default))[j]'(by rw[hk];exact EV)):=by
     subst hcu;simp only[putCells,Array.getElem_mapIdx,XS];rw[if_pos ⟨Nat.zero_le _,by omega⟩,Nat.sub_zero,id,get_flatK _ _ _ _ (by simpa[YP] using aH)];have e1:(i*k+j)/k=i:=by rw[Nat.mul_comm,Nat.mul_add_div k0,Nat.div_eq_of_lt EV];simp
     have e2:(i*k+j)%k=j:=by rw[Nat.mul_comm,Nat.mul_add_mod,Nat.mod_eq_of_lt EV]
     rw[e1,e2,gT,Wx i hi];have:j<(bK e ((dK l).getD i default)).length:=by rw[GN];exact EV
     rw[getElem!_pos (bK e ((dK l).getD i default)) j this];simp only[bK,List.getElem_map]
    rw[hv];exact⟨EU (Cm _ _ (List.getElem_mem _)),z8 (Cm _ _ (List.getElem_mem _))⟩) (.of (by rw[jT];exact Nat.le_add_right _ _))
 refine⟨_,_,rfl,⟨rfl,rfl,?_,bY.aU,bY.bP,bY.al,bY.au,bY.frame,bY.fh,bY.cV⟩⟩;intro j h h'
 match j,h with
 | 0,_ =>
  refine .own 1 cap (mkId p.aq cu.size (dK l).length k) ?_ ⟨?_,Co.2⟩ ?_
  ·rw[List.getElem?_set_self (by omega)]
  ·show(dK l).length<=cap;have:=Co.1;omega
  ·show cap*k=cu.size;rw[By,g4,<-Lr,g1]
end
end Go.Proofs.YtijddijloelacaaGreat.Am
namespace Go.Proofs.YtijddijloelacaaGreat
open Go.Proofs.YtijddijloelacaaGreat.Am Go.Sort Go.Proofs
variable [Inhabited cF]
variable {G:aK}
structure RS where
 p:Bool
 q:Bool
 x:Nat
 y:Nat
 w:Nat
 deriving Inhabited,DecidableEq
def Pa(r:RS):A:=.agg (dX r.p r.q (wW r.x) (wW r.y) (wW r.w))
def g3(r:RS):Nat:=Nat.gcd (Nat.gcd r.x r.y) r.w
def Sm(r:RS):Prop:=r.x<2 ^ 119/\r.y<2 ^ 119/\r.w<18446744073709551616
def dU(r:RS):Prop:=Sm r/\0<r.w/\g3 r=1/\(r.p=true->r.x≠0)/\(r.q=true->r.y≠0)
instance (r:RS):Decidable (dU r):=inferInstanceAs (Decidable ((_/\_/\_)/\_/\_/\_/\_))
theorem wU:(2:Nat) ^ 120<65536 ^ 32:=by decide
theorem yD:(2:Nat) ^ 119<2 ^ 120:=by decide
theorem Ng:18446744073709551616<2 ^ 120:=by decide
theorem U7{a b:Nat}(ha:a<65536 ^ 32)(hb:b<65536 ^ 32)(r:Bool):((((wW a 0:Nat):Int)==((wW b 0:Nat):Int))&&((((wW a 1:Nat):Int)==((wW b 1:Nat):Int))&&((((wW a 2:Nat):Int)==((wW b 2:Nat):Int))&&((((wW a 3:Nat):Int)==((wW b 3:Nat):Int))&&((((wW a 4:Nat):Int)==((wW b 4:Nat):Int))&&((((wW a 5:Nat):Int)==((wW b 5:Nat):Int))&&((((wW a 6:Nat):Int)==((wW b 6:Nat):Int))&&((((wW a 7:Nat):Int)==((wW b 7:Nat):Int))&&r))))))))=(decide (a=b)&&r):=by
 have h:=eqW ha hb;cases r
 ·simp
 ·rw[Bool.and_true (decide (a=b))];exact h
def Rk(r:RS):Prop:=r.x<65536 ^ 32/\r.y<65536 ^ 32/\r.w<65536 ^ 32
theorem Sm.rk{r:RS}(h:Sm r):Rk r:=⟨Nat.lt_trans (Nat.lt_trans h.1 yD) wU,Nat.lt_trans (Nat.lt_trans h.2.1 yD) wU,Nat.lt_trans (Nat.lt_trans h.2.2 Ng) wU⟩
theorem Fx{r s:RS}(hr:Rk r)(hs:Rk s):((r.p==s.p)&&((((wW r.x 0:Nat):Int)==((wW s.x 0:Nat):Int))&&((((wW r.x 1:Nat):Int)==((wW s.x 1:Nat):Int))&&((((wW r.x 2:Nat):Int)==((wW s.x 2:Nat):Int))&&((((wW r.x 3:Nat):Int)==((wW s.x 3:Nat):Int))&&((((wW r.x 4:Nat):Int)==((wW s.x 4:Nat):Int))&&((((wW r.x 5:Nat):Int)==((wW s.x 5:Nat):Int))&&((((wW r.x 6:Nat):Int)==((wW s.x 6:Nat):Int))&&((((wW r.x 7:Nat):Int)==((wW s.x 7:Nat):Int))&&((r.q==s.q)&&((((wW r.y 0:Nat):Int)==((wW s.y 0:Nat):Int))&&((((wW r.y 1:Nat):Int)==((wW s.y 1:Nat):Int))&&((((wW r.y 2:Nat):Int)==((wW s.y 2:Nat):Int))&&((((wW r.y 3:Nat):Int)==((wW s.y 3:Nat):Int))&&((((wW r.y 4:Nat):Int)==((wW s.y 4:Nat):Int))&&((((wW r.y 5:Nat):Int)==((wW s.y 5:Nat):Int))&&((((wW r.y 6:Nat):Int)==((wW s.y 6:Nat):Int))&&((((wW r.y 7:Nat):Int)==((wW s.y 7:Nat):Int))&&((((wW r.w 0:Nat):Int)==((wW s.w 0:Nat):Int))&&((((wW r.w 1:Nat):Int)==((wW s.w 1:Nat):Int))&&((((wW r.w 2:Nat):Int)==((wW s.w 2:Nat):Int))&&((((wW r.w 3:Nat):Int)==((wW s.w 3:Nat):Int))&&((((wW r.w 4:Nat):Int)==((wW s.w 4:Nat):Int))&&((((wW r.w 5:Nat):Int)==((wW s.w 5:Nat):Int))&&((((wW r.w 6:Nat):Int)==((wW s.w 6:Nat):Int))&&((((wW r.w 7:Nat):Int)==((wW s.w 7:Nat):Int))&&true))))))))))))))))))))))))))=decide (r=s):=by
 rw[U7 hr.2.2 hs.2.2,U7 hr.2.1 hs.2.1,U7 hr.1 hs.1];obtain⟨p,q,x,y,w⟩:=r;obtain⟨p',q',x',y',w'⟩:=s;rw[Bool.eq_iff_iff];simp only[Bool.and_eq_true,beq_iff_eq,decide_eq_true_iff,RS.mk.injEq,and_true];constructor
 ·rintro⟨a,b,c,d,e⟩;exact⟨a,c,b,d,e⟩
 ·rintro⟨a,b,c,d,e⟩;exact⟨a,c,b,d,e⟩
abbrev MS:Type:={ r:RS//dU r }
instance:Inhabited MS:=⟨⟨⟨false,false,0,0,1⟩,by decide⟩⟩
theorem MS.rk(x:MS):Rk x.1:=Sm.rk x.2.1
def fJ(r:RS):List A:=dX r.p r.q (wW r.x) (wW r.y) (wW r.w)
theorem wV(r:RS):Pa r=.agg (fJ r):=rfl
def Pb(p:Bool)(x:Nat):Int:=if p then -(x:Int) else x
def iT(r:RS):Int:=Pb r.p r.x
def pA(r:RS):Int:=Pb r.q r.y
theorem iG(p:Bool)(x:Nat):(Pb p x).natAbs=x:=by cases p<;>simp[Pb]
theorem uY{p:Bool}{x:Nat}(h:p=true->x≠0):decide (Pb p x<0)=p:=by
 cases p
 ·simp[Pb]
 ·have:=h rfl;simp[Pb];omega
theorem HF{p p':Bool}{x x':Nat}(h:p=true->x≠0)(h':p'=true->x'≠0)(e:Pb p x=Pb p' x'):p=p'/\x=x':=by
 refine⟨?_,?_⟩
 ·rw[<-uY h,<-uY h',e]
 ·rw[<-iG p x,<-iG p' x',e]
def ee(r s:RS):Int:=De (iT r) (pA r) r.w (iT s) (pA s) s.w
theorem HG{a b c x y z:Int}(hx:0<x)(hy:0<y)(hz:0<z)(h1:a*y<=b*x)(h2:b*z<=c*y):a*z<=c*x:=by
 have e1:=Int.mul_le_mul_of_nonneg_right h1 (Int.le_of_lt hz);have e2:=Int.mul_le_mul_of_nonneg_right h2 (Int.le_of_lt hx);have k1:a*z*y=a*y*z:=by grind
 have k2:b*x*z=b*z*x:=by grind
 have k3:c*x*y=c*y*x:=by grind
 exact Int.le_of_mul_le_mul_right (a:=y) (by omega) hy
theorem Fy{a b c x y z:Int}(hx:0<x)(hy:0<y)(hz:0<z)(h1:a*y<b*x)(h2:b*z<=c*y):a*z<c*x:=by
 have e1:=Int.mul_lt_mul_of_pos_right h1 hz;have e2:=Int.mul_le_mul_of_nonneg_right h2 (Int.le_of_lt hx);have k1:a*z*y=a*y*z:=by grind
 have k2:b*x*z=b*z*x:=by grind
 have k3:c*x*y=c*y*x:=by grind
 exact Int.lt_of_mul_lt_mul_right (a:=y) (by omega) (Int.le_of_lt hy)
theorem Nh{a b c x y z:Int}(hx:0<x)(hy:0<y)(hz:0<z)(h1:a*y<=b*x)(h2:b*z<c*y):a*z<c*x:=by
 have e1:=Int.mul_le_mul_of_nonneg_right h1 (Int.le_of_lt hz);have e2:=Int.mul_lt_mul_of_pos_right h2 hx;have k1:a*z*y=a*y*z:=by grind
 have k2:b*x*z=b*z*x:=by grind
 have k3:c*x*y=c*y*x:=by grind
 exact Int.lt_of_mul_lt_mul_right (a:=y) (by omega) (Int.le_of_lt hy)
theorem yE{a b:Int}:kE a b<0↔a<b:=by unfold kE;split<;>(try split)<;>omega
theorem Fz{a b:Int}:kE a b=0↔a=b:=by unfold kE;split<;>(try split)<;>omega
theorem U8(u v:Int):cO [u,v]<0↔u<0\/u=0/\v<0:=by
 show(if u=0 then (if v=0 then 0 else v) else u)<0↔_;split<;>(try split)<;>omega
theorem Q5(u v:Int):cO [u,v]=0↔u=0/\v=0:=by
 show(if u=0 then (if v=0 then 0 else v) else u)=0↔_;split<;>(try split)<;>omega
theorem AH(r s:RS):ee r s<0↔iT r*s.w<iT s*r.w\/iT r*s.w=iT s*r.w/\pA r*s.w<pA s*r.w:=by
 unfold ee De;rw[U8,yE,yE,Fz]
theorem AI(r s:RS):ee r s=0↔iT r*s.w=iT s*r.w/\pA r*s.w=pA s*r.w:=by
 unfold ee De;rw[Q5,Fz,Fz]
theorem qd{r s t:RS}(hr:0<r.w)(hs:0<s.w)(ht:0<t.w)(h1:ee r s<0)(h2:ee s t<0):ee r t<0:=by
 rw[AH] at *;have Gi:(0:Int)<r.w:=by omega
 have bY:(0:Int)<s.w:=by omega
 have Fw:(0:Int)<t.w:=by omega
 have a1:=fun u v=>Fy (a:=iT r) (b:=iT s) (c:=iT t) Gi bY Fw u v;have a2:=fun u v=>Nh (a:=iT r) (b:=iT s) (c:=iT t) Gi bY Fw u v;have a3:=fun u v=>HG (a:=iT r) (b:=iT s) (c:=iT t) Gi bY Fw u v;have a4:=fun u v=>HG (a:=iT t) (b:=iT s) (c:=iT r) Fw bY Gi u v;have b1:=fun u v=>Fy (a:=pA r) (b:=pA s) (c:=pA t) Gi bY Fw u v;rcases h1 with h1|⟨h1,h1'⟩<;>rcases h2 with h2|⟨h2,h2'⟩
 ·exact .inl (a1 h1 (by omega))
 ·exact .inl (a1 h1 (by omega))
 ·exact .inl (a2 (by omega) h2)
 ·have:=a3 (by omega) (by omega);have:=a4 (by omega) (by omega);exact .inr ⟨by omega,b1 h1' (by omega)⟩
theorem Dh{r s t:RS}(hr:0<r.w)(hs:0<s.w)(ht:0<t.w)(h1:¬ee r s<0)(h2:¬ee s t<0):¬ee r t<0:=by
 rw[AH] at *;have Gi:(0:Int)<r.w:=by omega
 have bY:(0:Int)<s.w:=by omega
 have Fw:(0:Int)<t.w:=by omega
 have a1:=fun u v=>Fy (a:=iT t) (b:=iT s) (c:=iT r) Fw bY Gi u v;have a2:=fun u v=>Nh (a:=iT t) (b:=iT s) (c:=iT r) Fw bY Gi u v;have a3:=fun u v=>HG (a:=iT t) (b:=iT s) (c:=iT r) Fw bY Gi u v;have b3:=fun u v=>HG (a:=pA t) (b:=pA s) (c:=pA r) Fw bY Gi u v;have c1:iT s*r.w<=iT r*s.w:=by omega
 have c2:iT t*s.w<=iT s*t.w:=by omega
 have c3:=a3 c2 c1;rintro(h|⟨h,h'⟩)
 ·omega
 ·have d1:¬iT s*r.w<iT r*s.w:=fun q=>by have:=a2 c2 q;omega
  have d2:¬iT t*s.w<iT s*t.w:=fun q=>by have:=a1 q c1;omega
  have e1:pA s*r.w<=pA r*s.w:=by omega
  have e2:pA t*s.w<=pA s*t.w:=by omega
  have:=b3 e2 e1;omega
theorem rz{x y w x' y' w':Nat}(hg:Nat.gcd (Nat.gcd x y) w=1)(h1:x*w'=x'*w)(h2:y*w'=y'*w):w ∣ w':=by
 have d1:w ∣ x*w':=⟨x',by rw[h1,Nat.mul_comm]⟩;have d2:w ∣ y*w':=⟨y',by rw[h2,Nat.mul_comm]⟩;have d3:w ∣ w*w':=⟨w',rfl⟩;have:=Nat.dvd_gcd (Nat.dvd_gcd d1 d2) d3;rw[Nat.gcd_mul_right,Nat.gcd_mul_right,hg,Nat.one_mul] at this;exact this
/-- Spots that may be, and are alike, are the same. -/
theorem Jr{r s:RS}(hr:dU r)(hs:dU s)(h:ee r s=0):r=s:=by
 rw[AI] at h;obtain⟨_,r1,r2,r3,r4⟩:=hr;obtain⟨_,s1,s2,s3,s4⟩:=hs;obtain⟨p,q,x,y,w⟩:=r;obtain⟨p',q',x',y',w'⟩:=s;obtain⟨h1,h2⟩:=h;unfold g3 at r2 s2;unfold iT at h1;unfold pA at h2;simp only at *
 have k1:x*w'=x'*w:=by
  have:=congrArg Int.natAbs h1;simpa[Int.natAbs_mul,iG] using this
 have k2:y*w'=y'*w:=by
  have:=congrArg Int.natAbs h2;simpa[Int.natAbs_mul,iG] using this
 have e:w=w':=Nat.dvd_antisymm (rz r2 k1 k2) (rz s2 k1.symm k2.symm);subst e;have hw:(w:Int)≠0:=by omega
 have i1:=HF r3 s3 (Int.eq_of_mul_eq_mul_right hw h1);have i2:=HF r4 s4 (Int.eq_of_mul_eq_mul_right hw h2);rw[i1.1,i1.2,i2.1,i2.2]
theorem sR(r:RS):ee r r=0:=(AI r r).2 ⟨rfl,rfl⟩
def xH(a b:MS):Int:=ee a.1 b.1
theorem FA(a b:MS):ltOf xH a b=true↔ee a.1 b.1<0:=by unfold ltOf xH;simp
theorem FB:SWO (ltOf xH):=by
 have e':∀a b,ltOf xH a b=false↔¬ee a.1 b.1<0:=fun a b=>by rw[<-FA];simp
 refine⟨fun x=>?_,fun x y z h1 h2=>?_,fun x y z h1 h2=>?_⟩
 ·rw[e',sR];omega
 ·rw[FA] at *;exact qd x.2.2.1 y.2.2.1 z.2.2.1 h1 h2
 ·rw[e'] at *;exact Dh x.2.2.1 y.2.2.1 z.2.2.1 h1 h2
theorem ku{r:RS}(h:dU r):Pa r=kr (iT r) (pA r) r.w:=by
 unfold Pa kr iT pA;rw[uY h.2.2.2.1,uY h.2.2.2.2,iG,iG]
theorem AJ{p:Bool}{x n:Nat}(h:x<n):(Pb p x).natAbs<n:=by rw[iG];exact h
theorem oo{r:RS}(h:dU r):rn (iT r) (pA r) r.w:=by
 obtain⟨⟨h1,h2,h3⟩,h4,h5,_,_⟩:=h;refine⟨?_,by unfold iT;rw[iG];exact h1,by unfold pA;rw[iG];exact h2,h4,h3⟩;unfold gg iT pA;rw[iG,iG];exact h5
theorem FC{r:RS}(h:dU r):aa Tryz.prog G 72 [Pa r] (.sb true):=by
 have:=Ft (G:=G) _ _ _ (oo h);rw[ku h];exact this
theorem Js{r s:RS}(hr:dU r)(hs:dU s):aa Tryz.prog G 146 [Pa r,Pa s] (.int .i64 (ee r s)):=by
 rw[ku hr,ku hs];exact yC _ _ _ _ _ _ (oo hr) (oo hs)
end Go.Proofs.YtijddijloelacaaGreat
namespace Go.Proofs.YtijddijloelacaaGreat
open Go.Proofs.YtijddijloelacaaGreat.Am Go.Sort Go.Proofs Go.Lib
variable [Inhabited cF]
variable {G:aK}
def dM(l:List RS):A:=.sl l.length 26 fun i=>fJ (l.getD i default)
theorem jP{l:List RS}(h:∀r∈l,dU r){i:Nat}(hi:i<l.length):dU (l.getD i default):=by
 rw[List.getD_eq_getElem?_getD,List.getElem?_eq_getElem hi];exact h _ (List.getElem_mem hi)
theorem U9(r:RS)(hk:dU r):aa Tryz.prog G 143 [.agg (fJ r)] (.sb false):=by
 have m:=FC (G:=G) hk;rw[wV] at m;unfold fJ dX at *;generalize wW r.x=X at *;generalize wW r.y=Y at *;generalize wW r.w=W at *;refine aa.af ak Tryz.func143 rfl rfl _ rfl ?_;(conv=>whnf);repeat' ((first|refine st ?_|(refine⟨fun h=>?_,fun h=>?_⟩<;>try simp only[ae] at h)|(refine .inl ?_;(conv=>whnf);refine⟨_,m,?_⟩)|refine wf ?_|refine ao ?_|refine nn ?_|fail)<;>conv=>whnf)
 all_goals first|contradiction|(exfalso;omega)|skip
 all_goals rfl
theorem U'(l:List RS)(hk:∀r∈l,dU r)(hl:l.length<=1000000):aa Tryz.prog G 169 [dM l,.fn 143 []] (.int .i64 (-1)):=by
 refine aa.af ak Tryz.func169 rfl rfl _ rfl ?_;(conv=>whnf);repeat' ((first|refine st ?_|(refine⟨fun h=>?_,fun h=>?_⟩<;>try simp only[ae] at h)|refine wf ?_|refine ao ?_|refine nn ?_|fail)<;>conv=>whnf)
 refine ah (fun i:Nat=>i<=l.length) (fun i=>[(8,.int .i64 (i:Int))]) (fun i=>[]) (fun i=>l.length-i) 0 (Nat.zero_le _) ?_ ?_
 ·conv=>whnf
  repeat (first|exact fa|((first|refine fb ?_|(refine And.intro ?_ ?_;rotate_left));conv=>whnf))
 ·intro i hi;have hi:i<=l.length:=hi;rcases Nat.lt_or_ge i l.length with bT|bT
  ·have h1:=U9 (G:=G) (l.getD i default) (jP hk bT);unfold fJ at *;(conv=>whnf);repeat' ((first|(exact Bool.noConfusion h)|(exfalso;omega)|refine st ?_|(refine⟨fun h=>?_,fun h=>?_⟩<;>try simp only[ae] at h)|(refine .inl ?_;(conv=>whnf);refine⟨_,h1,?_⟩)|refine wf ?_|refine ao ?_|refine nn ?_|fail)<;>conv=>whnf)
   refine⟨i+1,bT,(by show l.length-(i+1)<l.length-i;omega),?_⟩;exact ff
  ·(conv=>whnf);repeat' ((first|(exfalso;omega)|refine st ?_|(refine⟨fun h=>?_,fun h=>?_⟩<;>try simp only[ae] at h)|refine wf ?_|refine ao ?_|refine nn ?_|fail)<;>conv=>whnf)
theorem Ni(l:List RS)(hk:∀r∈l,dU r)(hl:l.length<=1000000):aa Tryz.prog G 117 [dM l,.fn 143 []] (.sb false):=by
 have h1:=U' (G:=G) l hk hl;refine aa.af ak Tryz.func117 rfl rfl _ rfl ?_;(conv=>whnf);repeat' ((first|refine st ?_|(refine⟨fun h=>?_,fun h=>?_⟩<;>try simp only[ae] at h)|(refine .inl ?_;(conv=>whnf);refine⟨_,h1,?_⟩)|refine wf ?_|refine ao ?_|refine nn ?_|fail)<;>conv=>whnf)
 all_goals rfl
theorem yF(dS:(default:cF).ns)(n:Nat)(row:Nat->List A)(hl:∀i,i<n->(row i).length=26)(hn:n<=1000000):
  aM Tryz.prog G 200 [.fn 202 [.bref [.sl n 26 row] 0]] [] (.own 0) [.row 57 26 n row]:=by
 have h:=CC (G:=G) dS n row hl hn;refine aM.af ak Tryz.func200 rfl rfl _ rfl ?_;(conv=>whnf);repeat' ((first|refine st ?_|(refine⟨fun h=>?_,fun h=>?_⟩<;>try simp only[ae] at h)|((first|refine .inr (.inr (.inr ?_))|refine .inr ?_);(conv=>whnf);refine⟨_,_,h,?_⟩)|refine wf ?_|refine ao ?_|refine nn ?_|fail)<;>conv=>whnf)
 exact .inl fun _ _=>rfl
theorem Di(n:Nat)(row:Nat->List A):
  aa Tryz.prog G 145 [.sl n 26 row] (.fn 202 [.bref [.sl n 26 row] 0]):=by
 refine aa.af ak Tryz.func145 rfl rfl _ rfl ?_;(conv=>whnf);repeat' ((first|refine st ?_|(refine⟨fun h=>?_,fun h=>?_⟩<;>try simp only[ae] at h)|refine wf ?_|refine ao ?_|refine nn ?_|fail)<;>conv=>whnf)
end Go.Proofs.YtijddijloelacaaGreat
namespace Go.Proofs
open Go.Shelf Go.Proofs.YtijddijloelacaaGreat.Am
def Tryz.tU:Go.Shelf.Ren:=⟨fun|43=>147|n=>n,fun|0=>0|3=>3|4=>4|22=>35|23=>57|n=>n,fun|n=>n⟩
theorem Tryz.Q6:HE Tryz.prog Tryz.tU:={
 mixed:=by kernel_rfl
 f43:=⟨Tryz.f147.name,by decide,Tryz.func147.trans (congrArg some (by kernel_rfl))⟩
 t0:=Tryz.underlying0
 a0:=Tryz.isAgg0
 z0:=Tryz.sizeOf0
 v0:=Tryz.zeroValue0
 t3:=Tryz.underlying3
 a3:=Tryz.isAgg3
 z3:=Tryz.sizeOf3
 v3:=Tryz.zeroValue3
 t4:=Tryz.underlying4
 a4:=Tryz.isAgg4
 z4:=Tryz.sizeOf4
 v4:=Tryz.zeroValue4
 t22:=Tryz.underlying35
 a22:=Tryz.isAgg35
 z22:=Tryz.sizeOf35
 v22:=Tryz.zeroValue35 }
end Go.Proofs
namespace Go.Proofs.YtijddijloelacaaGreat
open Go.Proofs.YtijddijloelacaaGreat.Am Go.Sort Go.Proofs Go.Lib
variable [Inhabited cF]
variable {G:aK}
def uZ(x:MS):List A:=fJ x.1
theorem HI(r:RS):∀a∈fJ r,qQ a:=by
 simp[fJ,dX,qQ]
theorem rk0:Rk ⟨false,false,0,0,0⟩:=⟨by decide,by decide,by decide⟩
abbrev RK:Type:={ r:RS//Rk r }
instance:Inhabited RK:=⟨⟨⟨false,false,0,0,0⟩,rk0⟩⟩
def xI(x:RK):List A:=fJ x.1
def YS:List Nat:=[6,5,5,5,5,5,5,5,5,6,5,5,5,5,5,5,5,5,5,5,5,5,5,5,5,5]
theorem Nj:br Tryz.prog 6 57=some YS:=by kernel_rfl
theorem Va(x y:RS)(hx:Rk x)(hy:Rk y):vh YS ((fJ x).map Lp) ((fJ y).map Lp) (decide (x=y)):=by
 rw[<-Fx hx hy];clear hx hy;obtain⟨p,q,a,b,c⟩:=x;obtain⟨p',q',a',b',c'⟩:=y;unfold fJ
 dsimp only
 generalize wW a=a at *;generalize wW b=b at *;generalize wW c=c at *;generalize wW a'=a' at *;generalize wW b'=b' at *;generalize wW c'=c' at *
 exact
  ⟨_,_,.inr (.inl ⟨rfl,_,_,rfl,rfl,rfl⟩),⟨_,_,.inl ⟨rfl,_,_,_,rfl,rfl,rfl⟩,⟨_,_,.inl ⟨rfl,_,_,_,rfl,rfl,rfl⟩,⟨_,_,.inl ⟨rfl,_,_,_,rfl,rfl,rfl⟩,⟨_,_,.inl ⟨rfl,_,_,_,rfl,rfl,rfl⟩,⟨_,_,.inl ⟨rfl,_,_,_,rfl,rfl,rfl⟩,⟨_,_,.inl ⟨rfl,_,_,_,rfl,rfl,rfl⟩,⟨_,_,.inl ⟨rfl,_,_,_,rfl,rfl,rfl⟩,⟨_,_,.inl ⟨rfl,_,_,_,rfl,rfl,rfl⟩,⟨_,_,.inr (.inl ⟨rfl,_,_,rfl,rfl,rfl⟩),⟨_,_,.inl ⟨rfl,_,_,_,rfl,rfl,rfl⟩,⟨_,_,.inl ⟨rfl,_,_,_,rfl,rfl,rfl⟩,⟨_,_,.inl ⟨rfl,_,_,_,rfl,rfl,rfl⟩,⟨_,_,.inl ⟨rfl,_,_,_,rfl,rfl,rfl⟩,⟨_,_,.inl ⟨rfl,_,_,_,rfl,rfl,rfl⟩,⟨_,_,.inl ⟨rfl,_,_,_,rfl,rfl,rfl⟩,⟨_,_,.inl ⟨rfl,_,_,_,rfl,rfl,rfl⟩,⟨_,_,.inl ⟨rfl,_,_,_,rfl,rfl,rfl⟩,⟨_,_,.inl ⟨rfl,_,_,_,rfl,rfl,rfl⟩,⟨_,_,.inl ⟨rfl,_,_,_,rfl,rfl,rfl⟩,⟨_,_,.inl ⟨rfl,_,_,_,rfl,rfl,rfl⟩,⟨_,_,.inl ⟨rfl,_,_,_,rfl,rfl,rfl⟩,⟨_,_,.inl ⟨rfl,_,_,_,rfl,rfl,rfl⟩,⟨_,_,.inl ⟨rfl,_,_,_,rfl,rfl,rfl⟩,⟨_,_,.inl ⟨rfl,_,_,_,rfl,rfl,rfl⟩,⟨_,_,.inl ⟨rfl,_,_,_,rfl,rfl,rfl⟩,rfl,rfl⟩,rfl⟩,rfl⟩,rfl⟩,rfl⟩,rfl⟩,rfl⟩,rfl⟩,rfl⟩,rfl⟩,rfl⟩,rfl⟩,rfl⟩,rfl⟩,rfl⟩,rfl⟩,rfl⟩,rfl⟩,rfl⟩,rfl⟩,rfl⟩,rfl⟩,rfl⟩,rfl⟩,rfl⟩,rfl⟩
theorem Vb(x y:RK):vh YS (bK xI x) (bK xI y) (decide (x=y)):=by
 have e:decide (x=y)=decide (x.1=y.1):=decide_eq_decide.2 Subtype.ext_iff;rw[e];exact Va x.1 y.1 x.2 y.2
theorem Nk(l:List Value):xp Tryz.prog 57 l=.agg l.toArray:=by
 have h:Tryz.prog.underlying 57=_:=Tryz.underlying57;unfold xp;rw[h]
theorem sS(x y:RK)(w:World)(op:BinOp)(X Y:Operand):(eqGuard op 57 X Y (.agg (bK xI x).toArray) (.agg (bK xI y).toArray)).run Tryz.prog w=.ok () w /\
  (binOp .eql 57 (.agg (bK xI x).toArray) (.agg (bK xI y).toArray)).run Tryz.prog w=.ok (.bool (decide (x=y))) w /\
  (binOp .neq 57 (.agg (bK xI x).toArray) (.agg (bK xI y).toArray)).run Tryz.prog w=.ok (.bool (!decide (x=y))) w:=by
 have Pn:6<=Tryz.prog.depth:=by unfold Program.depth Made.depth;omega
 have e2:(Op.equalIn 10000 57 (.agg (bK xI x).toArray) (.agg (bK xI y).toArray)).run Tryz.prog w=.ok (decide (x=y)) w:=by
  have:=gJ (P:=Tryz.prog) (w:=w) 6 57 YS _ _ _ (10000-6) Nj (Vb x y);rw[Nk,Nk] at this;exact this
 have hg:Tryz.prog.eqGuardType Tryz.prog.depth 57=false:=by
  have:=gi (P:=Tryz.prog) 6 57 YS (Tryz.prog.depth-6) Nj
  rwa [show 6+(Tryz.prog.depth-6)=Tryz.prog.depth by omega] at this
 refine⟨?_,?_,?_⟩
 ·unfold eqGuard;cases op<;>simp[hg]
 ·rw[run_eql_struct];simp[e2]
 ·rw[run_neq_struct];simp[e2]
theorem tV(z:Array Value):∀n,(Builtin.zeroCells z n).toList=(List.replicate n z.toList).flatten
 | 0=>by simp[Builtin.zeroCells]
 | n+1=>by
  have ih:=tV z n;rw[List.replicate_succ',List.flatten_append,<-ih];unfold Builtin.zeroCells;simp only[Array.toList_map,Array.toList_range];rw[Nat.add_mul,Nat.one_mul,List.range_add,List.map_append,List.map_map]
  congr 1
  simp only[List.flatten_cons,List.flatten_nil,List.append_nil];apply List.ext_getElem
  ·simp
  ·intro j h1 h2;simp only[List.length_map,List.length_range] at h1;simp only[List.getElem_map,List.getElem_range,Function.comp];rw[Nat.mul_comm,Nat.mul_add_mod,Nat.mod_eq_of_lt h1];simp[getElem!_pos z j h1]
theorem Q7:bK xI ⟨⟨false,false,0,0,0⟩,rk0⟩=[.bool false,.int .u64 0,.int .u64 0,.int .u64 0,.int .u64 0,.int .u64 0,.int .u64 0,.int .u64 0,.int .u64 0,.bool false,.int .u64 0,.int .u64 0,.int .u64 0,.int .u64 0,.int .u64 0,.int .u64 0,.int .u64 0,.int .u64 0,.int .u64 0,.int .u64 0,.int .u64 0,.int .u64 0,.int .u64 0,.int .u64 0,.int .u64 0,.int .u64 0]:=by
 show(fJ ⟨false,false,0,0,0⟩).map Lp=_;have h:∀k,wW 0 k=0:=O';unfold fJ dX;simp only[h];rfl
theorem Dj(l:List RK)(hl:l.length<=1000000)(h0:0<l.length):
  aM Tryz.prog G 147 [.own 1] [.ghost [.own 1,.aj],.row 57 26 l.length (cR xI l)] (.own 1) [.ghost [.aj,.aj],.row 57 26 (dK l).length (cR xI (dK l))] :=
 aM.Dg (ρ:=Tryz.tU) Tryz.Q6 26 (by omega) (fun w=>by kernel_rfl) (fun w=>by kernel_rfl) xI (fun x=>HI x.1) (fun _=>rfl)
  (fun x y w=>(sS x y w .eql default default).2.1) (fun x y w=>(sS x y w .eql default default).2.2) (fun op a b x y w=>(sS x y w op a b).1)
  ⟨⟨false,false,0,0,0⟩,rk0⟩ _ Tryz.zeroValue57 (fun n=>by rw[tV,List.flatMap_def,List.map_replicate,Q7];rfl)
  ⟨_,_,Tryz.func147,rfl,rfl⟩ 57 l hl h0
def oq(x:MS):RK:=⟨x.1,x.rk⟩
theorem Nl{x y:MS}(h:oq x=oq y):x=y:=Subtype.ext (show x.1=y.1 from congrArg (fun z:RK=>z.1) h)
theorem rA(l:List MS):∀m,m<=l.length->compactUpTo (l.map oq).toArray m=(compactUpTo l.toArray m).map oq
 | 0,_=>by simp[compactUpTo]
 | m+1,h=>by
  rw[compactUpTo_succ,compactUpTo_succ,List.map_append,rA l m (by omega)]
  congr 1
  have g:∀i,i<l.length->(l.map oq).toArray[i]! = oq (l.toArray[i]!):=fun i hi=>by
   rw[getElem!_pos _ _ (by simpa using hi),getElem!_pos _ _ (by simpa using hi)];simp
  have hk:keeps (l.map oq).toArray m=keeps l.toArray m:=by
   unfold keeps;rw[decide_eq_decide,g m (by omega),g (m-1) (by omega)];constructor
   ·rintro(h|h)
    ·exact .inl h
    ·exact .inr fun e=>h (congrArg oq e)
   ·rintro(h|h)
    ·exact .inl h
    ·exact .inr fun e=>h (Nl e)
  rw[hk];split
  ·rw[g m (by omega)];rfl
  ·rfl
theorem Dk(l:List MS)(i:Nat)(h:i<l.length):cR xI (l.map oq) i=cR uZ l i:=by
 unfold cR xI uZ oq;simp[List.getD_eq_getElem?_getD,h]
theorem Nn(l:List MS):dK (l.map oq)=(dK l).map oq:=by
 unfold dK;rw[List.length_map,rA l l.length (Nat.le_refl _)]
theorem Dl(l:List MS)(hl:l.length<=1000000)(h0:0<l.length):
  aM Tryz.prog G 147 [.own 1] [.ghost [.own 1,.aj],.row 57 26 l.length (cR uZ l)] (.own 1) [.ghost [.aj,.aj],.row 57 26 (dK l).length (cR xI ((dK l).map oq))]:=by
 have h2:=Dj (G:=G) (l.map oq) (by simpa using hl) (by simpa using h0);rw[Nn] at h2;have e1:=Dk l;have e2:=Dk (dK l);rw[List.length_map,List.length_map] at h2;refine aM.fit h2 rfl ?_;show eI _;(conv=>whnf)
 repeat (first|exact fa|((first|refine fb ?_|(refine And.intro ?_ ?_;rotate_left));conv=>whnf))
 all_goals first|exact Or.inl fun i hi=>(e1 i hi).symm
end Go.Proofs.YtijddijloelacaaGreat
/-
  DERIVED: THE SHELF's CONTRACTS AT THIS DUMP, IN PLAIN WORDS (tools/lay-plain.mjs out of 'TrySortShelf.lean', which tools/lay-shelf.mjs wrote): THE SAME DECLARATIONS UNDER THE SAME NAMES: 'import', 'namespace', 'open', 'def', 'theorem' AND NOTHING ELSE: no command of the shelf's: FOR A HAND-IN. Each laying: the table of numbers ('.._ren') and one theorem, a field a fact of the dump's own or the kernel's comparison; each contract: ONE APPLICATION.
-/
namespace Go.Proofs
open Go.Shelf
def Tryz.pB:Go.Shelf.Ren:=⟨fun|6=>201|15=>152|14=>267|28=>215|29=>216|20=>302|21=>303|22=>304|23=>305|24=>306|25=>307|26=>308|27=>309|46=>322|47=>270|48=>271|49=>323|50=>324|57=>335|n=>n,fun|22=>35|24=>57|25=>136|3=>3|39=>176|0=>0|53=>267|55=>51|4=>4|46=>261|45=>260|50=>68|5=>5|9=>9|66=>301|70=>305|76=>327|77=>242|n=>n,fun|n=>n⟩
theorem Tryz.Jt:Go.Proofs.SlLaysF0.n6 Tryz.prog Tryz.pB:={
 mixed:=by kernel_rfl
 f6:=⟨Tryz.f201.name,by decide,Tryz.func201.trans (congrArg some (by kernel_rfl))⟩
 f14:=⟨Tryz.f267.name,by decide,Tryz.func267.trans (congrArg some (by kernel_rfl))⟩
 f15:=Tryz.func152.trans (congrArg some (by kernel_rfl))
 f20:=⟨Tryz.f302.name,by decide,Tryz.func302.trans (congrArg some (by kernel_rfl))⟩
 f21:=⟨Tryz.f303.name,by decide,Tryz.func303.trans (congrArg some (by kernel_rfl))⟩
 f22:=⟨Tryz.f304.name,by decide,Tryz.func304.trans (congrArg some (by kernel_rfl))⟩
 f23:=⟨Tryz.f305.name,by decide,Tryz.func305.trans (congrArg some (by kernel_rfl))⟩
 f24:=⟨Tryz.f306.name,by decide,Tryz.func306.trans (congrArg some (by kernel_rfl))⟩
 f25:=⟨Tryz.f307.name,by decide,Tryz.func307.trans (congrArg some (by kernel_rfl))⟩
 f26:=⟨Tryz.f308.name,by decide,Tryz.func308.trans (congrArg some (by kernel_rfl))⟩
 f27:=⟨Tryz.f309.name,by decide,Tryz.func309.trans (congrArg some (by kernel_rfl))⟩
 f28:=Tryz.func215.trans (congrArg some (by kernel_rfl))
 f29:=Tryz.func216.trans (congrArg some (by kernel_rfl))
 f46:=⟨Tryz.f322.name,by decide,Tryz.func322.trans (congrArg some (by kernel_rfl))⟩
 f47:=Tryz.func270.trans (congrArg some (by kernel_rfl))
 f48:=Tryz.func271.trans (congrArg some (by kernel_rfl))
 f49:=⟨Tryz.f323.name,by decide,Tryz.func323.trans (congrArg some (by kernel_rfl))⟩
 f50:=⟨Tryz.f324.name,by decide,Tryz.func324.trans (congrArg some (by kernel_rfl))⟩
 f57:=⟨Tryz.f335.name,by decide,Tryz.func335.trans (congrArg some (by kernel_rfl))⟩
 t0:=Tryz.underlying0
 a0:=Tryz.isAgg0
 z0:=Tryz.sizeOf0
 v0:=Tryz.zeroValue0
 t3:=Tryz.underlying3
 a3:=Tryz.isAgg3
 z3:=Tryz.sizeOf3
 v3:=Tryz.zeroValue3
 t4:=Tryz.underlying4
 a4:=Tryz.isAgg4
 z4:=Tryz.sizeOf4
 v4:=Tryz.zeroValue4
 t5:=Tryz.underlying5
 a5:=Tryz.isAgg5
 z5:=Tryz.sizeOf5
 v5:=Tryz.zeroValue5
 t9:=Tryz.underlying9
 a9:=Tryz.isAgg9
 z9:=Tryz.sizeOf9
 v9:=Tryz.zeroValue9
 t22:=Tryz.underlying35
 a22:=Tryz.isAgg35
 z22:=Tryz.sizeOf35
 v22:=Tryz.zeroValue35
 t25:=Tryz.underlying136
 a25:=Tryz.isAgg136
 z25:=Tryz.sizeOf136
 v25:=Tryz.zeroValue136
 t39:=Tryz.underlying176
 a39:=Tryz.isAgg176
 z39:=Tryz.sizeOf176
 v39:=Tryz.zeroValue176
 t45:=Tryz.underlying260
 a45:=Tryz.isAgg260
 z45:=Tryz.sizeOf260
 v45:=Tryz.zeroValue260
 t46:=Tryz.underlying261
 a46:=Tryz.isAgg261
 z46:=Tryz.sizeOf261
 v46:=Tryz.zeroValue261
 t50:=Tryz.underlying68
 a50:=Tryz.isAgg68
 z50:=Tryz.sizeOf68
 v50:=Tryz.zeroValue68
 t53:=Tryz.underlying267
 a53:=Tryz.isAgg267
 z53:=Tryz.sizeOf267
 v53:=Tryz.zeroValue267
 t55:=Tryz.underlying51
 a55:=Tryz.isAgg51
 z55:=Tryz.sizeOf51
 v55:=Tryz.zeroValue51
 t66:=Tryz.underlying301
 a66:=Tryz.isAgg301
 z66:=Tryz.sizeOf301
 v66:=Tryz.zeroValue301
 t70:=Tryz.underlying305
 a70:=Tryz.isAgg305
 z70:=Tryz.sizeOf305
 v70:=Tryz.zeroValue305
 t76:=Tryz.underlying327
 a76:=Tryz.isAgg327
 z76:=Tryz.sizeOf327
 v76:=Tryz.zeroValue327
 t77:=Tryz.underlying242
 a77:=Tryz.isAgg242
 z77:=Tryz.sizeOf242
 v77:=Tryz.zeroValue242 }
end Go.Proofs
namespace Go.Proofs.YtijddijloelacaaGreat
open Go.Proofs.YtijddijloelacaaGreat.Am Go.Sort Go.Proofs Go.Lib
variable [Inhabited cF]
variable {G:aK}
theorem No(l:List MS)(hl:l.length<=1000000)(h0:0<l.length):
  @aM J9 Tryz.prog G 201 [.own 1,.fn 146 []] [.ghost [.own 1,.aj,.aj],.row 57 26 l.length (cR uZ l)] (.tup []) [.ghost [.own 1,.aj,.aj],.row 57 26 l.length (cR uZ (fQ xH l))] :=
 @aM.yo J9 Tryz.prog Tryz.pB G MS _ (fun h=>h) Tryz.Jt 26 (by omega) (fun w=>by kernel_rfl) (fun w=>by kernel_rfl) uZ (fun x=>HI x.1) (fun _=>rfl) xH FB 146 [] rfl
  (fun x y=>@Js J9 G x.1 y.1 x.2 y.2) ⟨_,_,Tryz.func201,rfl,rfl⟩ 57 l hl h0
theorem Np(dS:(default:cF).ns)(l:List MS)(hl:l.length<=1000000)(h0:0<l.length):
  aM Tryz.prog G 201 [.own 1,.fn 146 []] [.ghost [.own 1,.aj,.aj],.row 57 26 l.length (cR uZ l)] (.tup []) [.ghost [.own 1,.aj,.aj],.row 57 26 l.length (cR uZ (fQ xH l))] :=
 tI dS (No l hl h0)
theorem Ju(dS:(default:cF).ns)(row:Nat->List A):
  aa Tryz.prog G 144 [.fn 202 [.bref [.sl 0 26 row] 0],.fn 146 []] (.sl 0 26 row):=by
 have h1:=yF (G:=G) dS 0 row (fun i h=>absurd h (Nat.not_lt_zero i)) (by omega);have h2:=Mi (G:=G) row;refine aa.af ak Tryz.func144 rfl rfl _ rfl ?_;(conv=>whnf);repeat' ((first|refine st ?_|(refine⟨fun h=>?_,fun h=>?_⟩<;>try simp only[ae] at h)|(refine .inr (.inr (.inl ?_));(conv=>whnf);refine⟨_,h2,?_⟩)|((first|refine .inr (.inr (.inr ?_))|refine .inr ?_);(conv=>whnf);refine⟨_,_,h1,?_⟩)|refine wf ?_|refine ao ?_|refine nn ?_|fail)<;>conv=>whnf)
 exact .inl fun _ _=>rfl
theorem Jv(dS:(default:cF).ns)(l:List MS)(row:Nat->List A)(hr:∀i,i<l.length->row i=cR uZ l i)(hl:l.length<=1000000)(h0:0<l.length):
  aM Tryz.prog G 144 [.fn 202 [.bref [.sl l.length 26 row] 0],.fn 146 []] [] (.own 0) [.row 57 26 l.length (cR uZ (fQ xH l))]:=by
 have h1:=yF (G:=G) dS l.length row (fun i h=>by rw[hr i h];rfl) hl;have h2:=Np (G:=G) dS l hl h0;generalize cR uZ (fQ xH l)=r2 at *;generalize cR uZ l=r1 at *
 have h3:aM Tryz.prog G 201 [.own 1,.fn 146 []] [.ghost [.own 1,.aj,.aj],.row 57 26 l.length row] (.tup []) [.ghost [.own 1,.aj,.aj],.row 57 26 l.length r2]:=by
  refine aM.fit h2 rfl ?_;show eI _;(conv=>whnf)
  repeat (first|exact fa|((first|refine fb ?_|(refine And.intro ?_ ?_;rotate_left));conv=>whnf))
  all_goals first|exact Or.inl hr
 refine aM.af ak Tryz.func144 rfl rfl _ rfl ?_;(conv=>whnf);repeat' ((first|refine st ?_|(refine⟨fun h=>?_,fun h=>?_⟩<;>try simp only[ae] at h)|(refine .inr (.inl ?_);(conv=>whnf);refine⟨_,_,h3,?_⟩)|((first|refine .inr (.inr (.inr ?_))|refine .inr ?_);(conv=>whnf);refine⟨_,_,h1,?_⟩)|refine wf ?_|refine ao ?_|refine nn ?_|fail)<;>conv=>whnf)
 exact .inl fun _ _=>rfl
/-- The spots that may be, as a list of such. -/
def fU(l:List RS)(h:∀r∈l,dU r):List MS:=l.pmap Subtype.mk h
theorem rB(l:List RS)(h:∀r∈l,dU r):(fU l h).length=l.length:=by simp[fU]
theorem Dm(l:List RS)(h:∀r∈l,dU r)(i:Nat)(hi:i<l.length):cR uZ (fU l h) i=fJ (l.getD i default):=by
 unfold cR uZ fU;simp[List.getD_eq_getElem?_getD,hi]
def HJ(l:List RS)(h:∀r∈l,dU r):List MS:=dK (fQ xH (fU l h))
theorem Q8(dS:(default:cF).ns)(l:List RS)(hl:l.length<=1000000)(h:∀r∈l,dU r)(h0:0<l.length):
  aa Tryz.prog G 96 [dM l] (.tup [.sl (HJ l h).length 26 (cR xI ((HJ l h).map oq)),.int .i64 0]):=by
 have h1:=Ni (G:=G) l h hl;have hlen:=rB l h;have dj:=Dm l h;have D7:=iY xH FB (fU l h);have h2:=Di (G:=G) l.length (fun i=>fJ (l.getD i default));have h3:=Jv (G:=G) dS (fU l h) (fun i=>fJ (l.getD i default)) (fun i q=>(dj i (by omega)).symm) (by omega) (by omega);have h4:=Dl (G:=G) (fQ xH (fU l h)) (by omega) (by omega);rw[hlen] at h3;rw[D7,hlen] at h4;unfold HJ;unfold dM at *;generalize cR xI ((dK (fQ xH (fU l h))).map oq)=r3 at *;generalize (dK (fQ xH (fU l h))).length=n3 at *;generalize cR uZ (fQ xH (fU l h))=r2 at *;clear dj;refine aa.af ak Tryz.func96 rfl rfl _ rfl ?_;(conv=>whnf);repeat' ((first|refine st ?_|(refine⟨fun h=>?_,fun h=>?_⟩<;>try simp only[ae] at h)|(refine .inl ?_;(conv=>whnf);(first|refine⟨_,h1,?_⟩|refine⟨_,h2,?_⟩))|(refine .inr (.inl ?_);(conv=>whnf);refine⟨_,_,h4,?_⟩)|((first|refine .inr (.inr (.inr ?_))|refine .inr ?_);(conv=>whnf);refine⟨_,_,h3,?_⟩)|refine wf ?_|refine ao ?_|refine nn ?_|fail)<;>conv=>whnf)
 all_goals first|contradiction|skip
 all_goals first|exact⟨.inl fun _ _=>rfl,rfl⟩|exact⟨.inl fun _ _=>rfl,rfl,trivial⟩
theorem Nq(dS:(default:cF).ns):
  aa Tryz.prog G 96 [dM []] (.tup [dM [],.int .i64 0]):=by
 have h1:=Ni (G:=G) [] (fun r q=>absurd q (by simp)) (by simp);have h2:=Di (G:=G) 0 (fun i=>fJ (([]:List RS).getD i default));have h3:=Ju (G:=G) dS (fun i=>fJ (([]:List RS).getD i default));have h4:=I' (G:=G) (fun i=>fJ (([]:List RS).getD i default));unfold dM at *;refine aa.af ak Tryz.func96 rfl rfl _ rfl ?_;(conv=>whnf);repeat' ((first|refine st ?_|(refine⟨fun h=>?_,fun h=>?_⟩<;>try simp only[ae] at h)|(refine .inl ?_;(conv=>whnf);(first|refine⟨_,h1,?_⟩|refine⟨_,h2,?_⟩|refine⟨_,h3,?_⟩|refine⟨_,h4,?_⟩))|refine wf ?_|refine ao ?_|refine nn ?_|fail)<;>conv=>whnf)
 all_goals first|contradiction|skip
 all_goals first|exact⟨.inl fun _ _=>rfl,rfl⟩|exact⟨.inl fun _ _=>rfl,rfl,trivial⟩
end Go.Proofs.YtijddijloelacaaGreat
namespace Go.Proofs.YtijddijloelacaaGreat
open Go.Proofs.YtijddijloelacaaGreat.Am Go.Sort Go.Proofs
variable [Inhabited cF]
variable {G:aK}
theorem SV{a b:Nat}(ha:a<2 ^ 120)(hb:b<2 ^ 120):a*b<65536 ^ 32/\b<65536 ^ 16:=by
 refine⟨Nat.lt_of_lt_of_le (Nat.mul_lt_mul'' ha hb) (by decide),Nat.lt_trans hb (by decide)⟩
theorem Q9(x:Int)(hx:x.natAbs<65536 ^ 32):aa Tryz.prog G 232 [cB x] (cB (-x)):=by
 have f:=yB (G:=G) (!decide (x<0)) x.natAbs hx
 have e:cE ((!decide (x<0))&&decide (x.natAbs≠0)) x.natAbs=cB (-x):=qb (by omega) (by
  rw[Bool.eq_iff_iff,Bool.and_eq_true,decide_eq_true_iff,decide_eq_true_iff,Bool.not_eq_true',decide_eq_false_iff_not];omega)
 rw[e] at f;clear e hx;unfold cB cE at *;generalize wW x.natAbs=X at *;generalize wW (-x).natAbs=Y at *;generalize decide (x<0)=p at *;generalize decide (-x<0)=q at *;refine aa.af ak Tryz.func232 rfl rfl _ rfl ?_;(conv=>whnf);repeat' ((first|refine st ?_|(refine⟨fun h=>?_,fun h=>?_⟩<;>try simp only[ae] at h)|(refine .inl ?_;(conv=>whnf);refine⟨_,f,?_⟩)|refine wf ?_|refine ao ?_|refine nn ?_|fail)<;>conv=>whnf)
 all_goals first|contradiction|(exfalso;omega)|skip
theorem Vc(x:Int)(h:x.natAbs<65536 ^ 32):aa Tryz.prog G 128 [cB x] (cB x):=by
 have c:=yB (G:=G) (decide (x<0)) x.natAbs h
 have e:cE (decide (x<0)&&decide (x.natAbs≠0)) x.natAbs=cB x:=qb rfl (by
  rw[Bool.eq_iff_iff,Bool.and_eq_true,decide_eq_true_iff,decide_eq_true_iff];omega)
 rw[e] at c;exact c
theorem Vd(x y:Int)(h:x.natAbs+y.natAbs<65536 ^ 32):aa Tryz.prog G 231 [cB x,cB y] (.tup [cB (x+y),.sb true]):=by
 have s:=MH (G:=G) (decide (x<0)) (decide (y<0)) x.natAbs y.natAbs (by omega) (by omega) h;rw[HD] at s;exact s
theorem Ra(x y:Int)(h:x.natAbs+y.natAbs<65536 ^ 32):aa Tryz.prog G 168 [cB x,cB y] (.int .i64 (kE x y)):=by
 have f:=Vc (G:=G) x (by omega);have l:=Q9 (G:=G) y (by omega);have a:=Vd (G:=G) x (-y) (by rw[Int.natAbs_neg];exact h);have hu:(x + -y).natAbs<65536 ^ 32:=by omega
 have hz:=eqW hu (show 0<65536 ^ 32 by decide);have w0:∀k,wW 0 k=0:=O';rw[w0,w0,w0,w0,w0,w0,w0,w0] at hz
 have hc:kE x y=if x + -y<0 then -1 else if (x + -y).natAbs=0 then 0 else 1:=by
  unfold kE;split<;>(repeat' split)<;>omega
 rw[hc];generalize x + -y=d at *;by_cases h1:d<0
 ·rw[if_pos h1];unfold cB cE at *;rw[decide_eq_true h1] at a;clear hz w0 hc h hu;generalize wW x.natAbs=X at *;generalize wW y.natAbs=Y at *;generalize wW (-y).natAbs=Z at *;generalize wW d.natAbs=D at *;generalize decide (x<0)=p at *;generalize decide (y<0)=q at *;generalize decide (-y<0)=q' at *;clear h1;refine aa.af ak Tryz.func168 rfl rfl _ rfl ?_;(conv=>whnf);repeat' ((first|refine st ?_|(refine⟨fun h=>?_,fun h=>?_⟩<;>try simp only[ae] at h)|(refine .inl ?_;(conv=>whnf);(first|refine⟨_,f,?_⟩|refine⟨_,l,?_⟩|refine⟨_,a,?_⟩))|refine wf ?_|refine ao ?_|refine nn ?_|fail)<;>conv=>whnf)
  all_goals first|contradiction|(exfalso;omega)|skip
 ·rw[if_neg h1];unfold cB cE at *;rw[decide_eq_false h1] at a;by_cases h2:d.natAbs=0
  ·rw[if_pos h2];rw[decide_eq_true h2] at hz;clear w0 hc h hu h1 h2;generalize wW x.natAbs=X at *;generalize wW y.natAbs=Y at *;generalize wW (-y).natAbs=Z at *;generalize wW d.natAbs=D at *;generalize decide (x<0)=p at *;generalize decide (y<0)=q at *;generalize decide (-y<0)=q' at *;refine aa.af ak Tryz.func168 rfl rfl _ rfl ?_;(conv=>whnf);repeat' ((first|(exact Bool.noConfusion (hz.symm.trans (by assumption)))|refine st ?_|(refine⟨fun h=>?_,fun h=>?_⟩<;>try simp only[ae] at h)|(refine .inl ?_;(conv=>whnf);(first|refine⟨_,f,?_⟩|refine⟨_,l,?_⟩|refine⟨_,a,?_⟩))|refine wf ?_|refine ao ?_|refine nn ?_|fail)<;>conv=>whnf)
   all_goals first|contradiction|(exfalso;omega)|skip
  ·rw[if_neg h2];rw[decide_eq_false h2] at hz;clear w0 hc h hu h1 h2;generalize wW x.natAbs=X at *;generalize wW y.natAbs=Y at *;generalize wW (-y).natAbs=Z at *;generalize wW d.natAbs=D at *;generalize decide (x<0)=p at *;generalize decide (y<0)=q at *;generalize decide (-y<0)=q' at *;refine aa.af ak Tryz.func168 rfl rfl _ rfl ?_;(conv=>whnf);repeat' ((first|(exact Bool.noConfusion (hz.symm.trans (by assumption)))|refine st ?_|(refine⟨fun h=>?_,fun h=>?_⟩<;>try simp only[ae] at h)|(refine .inl ?_;(conv=>whnf);(first|refine⟨_,f,?_⟩|refine⟨_,l,?_⟩|refine⟨_,a,?_⟩))|refine wf ?_|refine ao ?_|refine nn ?_|fail)<;>conv=>whnf)
   all_goals first|contradiction|(exfalso;omega)|skip
theorem HK(a b:Int)(v w:Nat)(ha:a.natAbs<2 ^ 120)(hb:b.natAbs<2 ^ 120)(hv:v<2 ^ 120)(hw:w<2 ^ 120):
  aa Tryz.prog G 115 [cB a,cB b,az v,az w] (.int .i64 (kE (a*w) (b*v))):=by
 have m1:=Az (G:=G) (decide (a<0)) (decide ((w:Int)<0)) a.natAbs (w:Int).natAbs (Nat.lt_trans ha wU) (by rw[Int.natAbs_natCast];exact Nat.lt_trans hw wU) (by rw[Int.natAbs_natCast];exact(SV ha hw).1);have m2:=Az (G:=G) (decide (b<0)) (decide ((v:Int)<0)) b.natAbs (v:Int).natAbs (Nat.lt_trans hb wU) (by rw[Int.natAbs_natCast];exact Nat.lt_trans hv wU) (by rw[Int.natAbs_natCast];exact(SV hb hv).1);rw[HC] at m1 m2;rw[decide_eq_false (show ¬((w:Int)<0) by omega),Int.natAbs_natCast] at m1;rw[decide_eq_false (show ¬((v:Int)<0) by omega),Int.natAbs_natCast] at m2
 have k:=Ra (G:=G) (a*w) (b*v) (by
  rw[Int.natAbs_mul,Int.natAbs_mul,Int.natAbs_natCast,Int.natAbs_natCast];have e1:=Nat.mul_lt_mul'' ha hw;have e2:=Nat.mul_lt_mul'' hb hv;have e3:(2:Nat) ^ 120*2 ^ 120+2 ^ 120*2 ^ 120<65536 ^ 32:=by decide
  omega)
 clear ha hb hv hw;generalize kE (a*w) (b*v)=z at *;unfold cB cE at *;unfold az aF;generalize wW (a*(w:Int)).natAbs=V1 at *;generalize wW (b*(v:Int)).natAbs=V2 at *;generalize decide (a*(w:Int)<0)=p1 at *;generalize decide (b*(v:Int)<0)=p2 at *;generalize wW a.natAbs=V3 at *;generalize wW b.natAbs=V4 at *;generalize decide (a<0)=p3 at *;generalize decide (b<0)=p4 at *;generalize wW v=V5 at *;generalize wW w=V6 at *
 have m1:=m1.fit (qO:=[.agg [.sb p3,.int .u64 (V3 0:Nat),.int .u64 (V3 1:Nat),.int .u64 (V3 2:Nat),.int .u64 (V3 3:Nat),.int .u64 (V3 4:Nat),.int .u64 (V3 5:Nat),.int .u64 (V3 6:Nat),.int .u64 (V3 7:Nat)],.agg [.bool false,.int .u64 (V6 0:Nat),.int .u64 (V6 1:Nat),.int .u64 (V6 2:Nat),.int .u64 (V6 3:Nat),.int .u64 (V6 4:Nat),.int .u64 (V6 5:Nat),.int .u64 (V6 6:Nat),.int .u64 (V6 7:Nat)]]) (by
  conv=>whnf
  repeat (first|exact fa|((first|refine fb ?_|(refine And.intro ?_ ?_;rotate_left));conv=>whnf)))
 have m2:=m2.fit (qO:=[.agg [.sb p4,.int .u64 (V4 0:Nat),.int .u64 (V4 1:Nat),.int .u64 (V4 2:Nat),.int .u64 (V4 3:Nat),.int .u64 (V4 4:Nat),.int .u64 (V4 5:Nat),.int .u64 (V4 6:Nat),.int .u64 (V4 7:Nat)],.agg [.bool false,.int .u64 (V5 0:Nat),.int .u64 (V5 1:Nat),.int .u64 (V5 2:Nat),.int .u64 (V5 3:Nat),.int .u64 (V5 4:Nat),.int .u64 (V5 5:Nat),.int .u64 (V5 6:Nat),.int .u64 (V5 7:Nat)]]) (by
  conv=>whnf
  repeat (first|exact fa|((first|refine fb ?_|(refine And.intro ?_ ?_;rotate_left));conv=>whnf)))
 refine aa.af ak Tryz.func115 rfl rfl _ rfl ?_;(conv=>whnf);repeat' ((first|refine st ?_|(refine⟨fun h=>?_,fun h=>?_⟩<;>try simp only[ae] at h)|(refine .inl ?_;(conv=>whnf);(first|refine⟨_,m1,?_⟩|refine⟨_,m2,?_⟩|refine⟨_,k,?_⟩))|refine wf ?_|refine ao ?_|refine nn ?_|fail)<;>conv=>whnf)
 all_goals first|contradiction|(exfalso;omega)|skip
theorem Ve{r s:RS}(hr:dU r)(hs:dU s):aa Tryz.prog G 79 [Pa r,Pa s] (.int .i64 (ee r s)):=by
 have k1:=HK (G:=G) (iT r) (iT s) r.w s.w (AJ (Nat.lt_trans hr.1.1 yD)) (AJ (Nat.lt_trans hs.1.1 yD)) (Nat.lt_trans hr.1.2.2 Ng) (Nat.lt_trans hs.1.2.2 Ng);have k2:=HK (G:=G) (pA r) (pA s) r.w s.w (AJ (Nat.lt_trans hr.1.2.1 yD)) (AJ (Nat.lt_trans hs.1.2.1 yD)) (Nat.lt_trans hr.1.2.2 Ng) (Nat.lt_trans hs.1.2.2 Ng);rw[ku hr,ku hs]
 have hc:ee r s=if kE (iT r*s.w) (iT s*r.w)=0 then kE (pA r*s.w) (pA s*r.w) else kE (iT r*s.w) (iT s*r.w):=by
  unfold ee De;show(if _=0 then (if _=0 then 0 else _) else _)=_;split
  ·split
   ·rename_i h;exact h.symm
   ·rfl
  ·rfl
 rw[hc];clear hc hr hs;generalize kE (iT r*s.w) (iT s*r.w)=z1 at *;generalize kE (pA r*s.w) (pA s*r.w)=z2 at *;unfold kr dX at *;unfold cB cE az aF at *;generalize decide (iT r<0)=p1 at *;generalize decide (pA r<0)=p2 at *;generalize decide (iT s<0)=p3 at *;generalize decide (pA s<0)=p4 at *;generalize wW (iT r).natAbs=V1 at *;generalize wW (pA r).natAbs=V2 at *;generalize wW r.w=V3 at *;generalize wW (iT s).natAbs=V4 at *;generalize wW (pA s).natAbs=V5 at *;generalize wW s.w=V6 at *;by_cases h0:z1=0
 ·rw[if_pos h0];subst h0;refine aa.af ak Tryz.func79 rfl rfl _ rfl ?_;(conv=>whnf);repeat' ((first|refine st ?_|(refine⟨fun h=>?_,fun h=>?_⟩<;>try simp only[ae] at h)|(refine .inl ?_;(conv=>whnf);(first|refine⟨_,k1,?_⟩|refine⟨_,k2,?_⟩))|refine wf ?_|refine ao ?_|refine nn ?_|fail)<;>conv=>whnf)
  all_goals first|contradiction|(exfalso;omega)|skip
 ·rw[if_neg h0];refine aa.af ak Tryz.func79 rfl rfl _ rfl ?_;(conv=>whnf);repeat' ((first|(exact absurd (by assumption) h0)|refine st ?_|(refine⟨fun h=>?_,fun h=>?_⟩<;>try simp only[ae] at h)|(refine .inl ?_;(conv=>whnf);(first|refine⟨_,k1,?_⟩|refine⟨_,k2,?_⟩))|refine wf ?_|refine ao ?_|refine nn ?_|fail)<;>conv=>whnf)
  all_goals first|contradiction|(exfalso;omega)|skip
end Go.Proofs.YtijddijloelacaaGreat
namespace Go.Proofs.YtijddijloelacaaGreat.Am
open Go.Lib
section
variable {α : Type} [Inhabited α] [DecidableEq α] {R : α -> α -> Prop}
/-- What is sorted, each once. -/
theorem ot(L:List α)(ht:∀x y z,R x y->R y z->R x z)(hs:∀i j,i<j->j<L.length->¬R (L.getD j default) (L.getD i default))(hi:∀x∈L,∀y∈L,¬R x y->¬R y x->x=y):
  ∀m,m<=L.length->(compactUpTo L.toArray m).Pairwise R/\∀x,x∈compactUpTo L.toArray m↔∃i,i<m/\L.getD i default=x:=by
 have gT:∀i:Nat,L.toArray[i]! = L.getD i default:=fun i=>by
  rw[List.getD_eq_getElem?_getD];simp[Array.getElem!_eq_getD,Array.getD_eq_getD_getElem?]
 have k9:∀i,i<L.length->L.getD i default∈L:=fun i h=>by
  rw[List.getD_eq_getElem?_getD,List.getElem?_eq_getElem h];exact List.getElem_mem _
 intro m
 induction m with
 | zero=>intro _;exact⟨by simp[compactUpTo],fun x=>by simp[compactUpTo]⟩
 | succ m ih =>
  intro hm;obtain⟨h1,h2⟩:=ih (by omega);rw[compactUpTo_succ];by_cases hk:keeps L.toArray m
  ·rw[if_pos hk,gT];refine⟨List.pairwise_append.2 ⟨h1,by simp,fun x hx y hy=>?_⟩,fun x=>?_⟩
   ·obtain⟨i,pk,rfl⟩:=(h2 x).1 hx;rw[List.mem_singleton.1 hy];refine Classical.byContradiction fun hn=>?_;have e:=hi _ (k9 i (by omega)) _ (k9 m (by omega)) hn (hs i m pk (by omega));have hm0:m≠0:=by omega
    have iu:L.getD m default≠L.getD (m-1) default:=by
     unfold keeps at hk;rw[gT,gT] at hk;simpa[hm0] using hk
    refine iu ?_;refine hi _ (k9 m (by omega)) _ (k9 (m-1) (by omega)) (hs (m-1) m (by omega) (by omega)) ?_;intro hr;rcases Nat.lt_or_ge i (m-1) with h|h
    ·rw[<-e] at hr;exact hs i (m-1) h (by omega) hr
    ·have:i=m-1:=by omega
     subst this;exact hn hr
   ·rw[List.mem_append,h2,List.mem_singleton];constructor
    ·rintro(⟨i,h,e⟩|h)
     ·exact⟨i,by omega,e⟩
     ·exact⟨m,by omega,h.symm⟩
    ·rintro⟨i,h,e⟩;rcases Nat.lt_or_ge i m with h'|h'
     ·exact .inl ⟨i,h',e⟩
     ·have:i=m:=by omega
      subst this;exact .inr e.symm
  ·rw[if_neg hk,List.append_nil]
   have iu:m≠0/\L.getD m default=L.getD (m-1) default:=by
    unfold keeps at hk;rw[gT,gT] at hk;simpa using hk
   refine⟨h1,fun x=>?_⟩;rw[h2];constructor
   ·rintro⟨i,h,e⟩;exact⟨i,by omega,e⟩
   ·rintro⟨i,h,e⟩;rcases Nat.lt_or_ge i m with h'|h'
    ·exact⟨i,h',e⟩
    ·have:i=m:=by omega
     subst this;exact⟨i-1,by omega,by rw[<-iu.2];exact e⟩
theorem sT(hr:∀x,¬R x x)(ha:∀x y,R x y->R y x->False):∀(l m:List α),l.Pairwise R->m.Pairwise R->(∀x,x∈l↔x∈m)->l=m
 | [],[],_,_,_=>rfl
 | [],b::m,_,_,h=>by have:=(h b).2 (List.mem_cons_self ..);cases this
 | a::l,[],_,_,h=>by have:=(h a).1 (List.mem_cons_self ..);cases this
 | a::l,b::m,h1,h2,h=>by
  have g1:=List.pairwise_cons.1 h1;have g2:=List.pairwise_cons.1 h2;have Yo:∀p q,R p q->p≠q:=fun p q h e=>by subst e;exact hr _ h
  have e:a=b:=by
   rcases List.mem_cons.1 ((h a).1 (List.mem_cons_self ..)) with e|WD
   ·exact e
   ·rcases List.mem_cons.1 ((h b).2 (List.mem_cons_self ..)) with e|hb
    ·exact e.symm
    ·exact(ha _ _ (g2.1 a WD) (g1.1 b hb)).elim
  subst e;rw[sT hr ha l m g1.2 g2.2 fun x=>?_];constructor
  ·intro hx;rcases List.mem_cons.1 ((h x).1 (List.mem_cons_of_mem _ hx)) with e|h'
   ·exact absurd e.symm (Yo _ _ (g1.1 x hx))
   ·exact h'
  ·intro hx;rcases List.mem_cons.1 ((h x).2 (List.mem_cons_of_mem _ hx)) with e|h'
   ·exact absurd e.symm (Yo _ _ (g2.1 x hx))
   ·exact h'
variable [DecidableRel R]
/-- How far what is put in goes, of the first k. -/
def nv(R:α->α->Prop)[DecidableRel R](l:List α)(c:α):Nat->Nat
 | 0=>0
 | k+1=>if R (l.getD k default) c then k+1 else nv R l c k
theorem mZ(l:List α)(c:α):∀k,nv R l c k<=k
 | 0=>Nat.le_refl _
 | k+1=>by
  have:=mZ l c k;unfold nv;split<;>omega
theorem Nr(l:List α)(c:α):∀k i,nv R l c k<=i->i<k->¬R (l.getD i default) c
 | 0,i,_,h=>by omega
 | k+1,i,h,hi=>by
  unfold nv at h;split at h
  ·omega
  ·rcases Nat.lt_or_ge i k with h'|h'
   ·exact Nr l c k i h h'
   ·have:i=k:=by omega
    subst this;assumption
theorem Ns(l:List α)(c:α):∀k,0<nv R l c k->R (l.getD (nv R l c k-1) default) c
 | 0,h=>by simp[nv] at h
 | k+1,h=>by
  unfold nv at h ⊢;split
  ·simpa using by assumption
  ·rename_i hn;rw[if_neg hn] at h;exact Ns l c k h
def jn(R:α->α->Prop)[DecidableRel R](l:List α)(c:α):List α:=if c∈l then l else l.take (nv R l c l.length)++c::l.drop (nv R l c l.length)
theorem wX(ht:∀x y z,R x y->R y z->R x z)(l:List α)(c:α)(hl:l.Pairwise R)(hi:∀x∈l,¬R x c->¬R c x->x=c):
  (jn R l c).Pairwise R/\∀x,x∈jn R l c↔x=c\/x∈l:=by
 unfold jn;by_cases hc:c∈l
 ·rw[if_pos hc];refine⟨hl,fun x=>⟨.inr,?_⟩⟩;rintro(rfl|h)
  ·exact hc
  ·exact h
 ·rw[if_neg hc];have hle:=mZ (R:=R) l c l.length;have Ir:=Nr (R:=R) l c l.length;have gE:=Ns (R:=R) l c l.length;generalize nv R l c l.length=a at *;have hp:=List.pairwise_iff_getElem.1 hl;have gd:∀i (h:i<l.length),l.getD i default=l[i]:=fun i h=>by rw[List.getD_eq_getElem?_getD,List.getElem?_eq_getElem h];rfl
  have hlow:∀x∈l.take a,R x c:=fun x hx=>by
   obtain⟨i,h,rfl⟩:=List.getElem_of_mem hx;rw[List.length_take] at h;rw[List.getElem_take];have h3:=gE (by omega);rw[gd (a-1) (by omega)] at h3;rcases Nat.lt_or_ge i (a-1) with h4|h4
   ·exact ht _ _ _ (hp i (a-1) (by omega) (by omega) h4) h3
   ·have:i=a-1:=by omega
    subst this;exact h3
  have YT:∀x∈l.drop a,R c x:=fun x hx=>by
   obtain⟨i,h,rfl⟩:=List.getElem_of_mem hx;rw[List.length_drop] at h;rw[List.getElem_drop];have h3:=Ir (a+i) (by omega) (by omega);rw[gd (a+i) (by omega)] at h3;refine Classical.byContradiction fun hn=>?_;have e:=hi _ (List.getElem_mem (by omega:a+i<l.length)) h3 hn;exact hc (by rw[<-e];exact List.getElem_mem _)
  have Nt:l.take a++l.drop a=l:=List.take_append_drop a l;have hpa:(l.take a++l.drop a).Pairwise R:=by rw[Nt];exact hl
  obtain⟨p1,p2,p3⟩:=List.pairwise_append.1 hpa;refine⟨List.pairwise_append.2 ⟨p1,List.pairwise_cons.2 ⟨YT,p2⟩,fun x hx y hy=>?_⟩,fun x=>?_⟩
  ·rcases List.mem_cons.1 hy with rfl|hy
   ·exact hlow x hx
   ·exact p3 x hx y hy
  ·rw[List.mem_append,List.mem_cons];have hx:x∈l↔x∈l.take a\/x∈l.drop a:=by rw[<-List.mem_append,Nt]
   rw[hx];constructor
   ·rintro(h|h|h)
    ·exact .inr (.inl h)
    ·exact .inl h
    ·exact .inr (.inr h)
   ·rintro(h|h|h)
    ·exact .inr (.inl h)
    ·exact .inl h
    ·exact .inr (.inr h)
end
end Go.Proofs.YtijddijloelacaaGreat.Am
namespace Go.Proofs.YtijddijloelacaaGreat
open Go.Proofs.YtijddijloelacaaGreat.Am Go.Sort Go.Proofs Go.Lib
variable [Inhabited cF]
variable {G:aK}
def u5(a b:MS):Prop:=ee a.1 b.1<0
instance:DecidableRel u5:=fun a b=>inferInstanceAs (Decidable (ee a.1 b.1 < 0))
def AK(c:MS)(L:List MS):Bool:=L.any fun x=>decide (ee x.1 c.1=0)
def wY(L:List MS)(c:MS):List MS:=if AK c L=true then L else L.take (nv u5 L c L.length)++c::L.drop (nv u5 L c L.length)
theorem Nu(L:List MS)(c:MS):(wY L c).length<=L.length+1:=by
 unfold wY;split
 ·omega
 ·have:=mZ (R:=u5) L c L.length;simp;omega
theorem Rb(c:MS)(L:List MS)(k:Nat):nv u5 L c (k+1)=if ee (L.getD k default).1 c.1<0 then k+1 else nv u5 L c k:=rfl
theorem Nv(c:MS)(L:List MS)(k:Nat)(h:k<L.length):AK c (L.take (k+1))=(AK c (L.take k)||decide (ee (L.getD k default).1 c.1=0)):=by
 unfold AK;rw[List.take_add_one,List.any_append,List.getElem?_eq_getElem h,List.getD_eq_getElem?_getD,List.getElem?_eq_getElem h];simp
def cw(l:List MS):List MS:=l.foldl wY []
theorem ou(l:List MS)(i:Nat)(h:i<l.length):cw (l.take (i+1))=wY (cw (l.take i)) (l.getD i default):=by
 unfold cw;rw[List.take_add_one,List.foldl_append,List.getElem?_eq_getElem h,List.getD_eq_getElem?_getD,List.getElem?_eq_getElem h];rfl
theorem wZ(l:List MS):∀k,k<=l.length->(cw (l.take k)).length<=k
 | 0,_=>by simp[cw]
 | k+1,h=>by
  rw[ou l k (by omega)];exact Nat.le_trans (Nu _ _) (by have:=wZ l k (by omega);omega)
theorem sU(n:Nat)(r1 r2:Nat->List A)(i:Nat):aO n r1 r2 i=if i<n then r1 i else r2 (i-n):=by
 unfold aO;by_cases h:i<n
 ·have e:Nat.blt i n=true:=Nat.ble_eq_true_of_le h;rw[if_pos h,e]
 ·have e:Nat.blt i n=false:=by
   cases q:Nat.blt i n with
   | false=>rfl
   | true=>exact absurd (Nat.le_of_ble_eq_true q) h
  rw[if_neg h,e]
theorem Nw(L:List MS)(c:MS)(a:Nat)(ha:a<=L.length)(Z:Nat->List A)(j:Nat)(hj:j<L.length+1):
  aO (a+1) (aO a (cR uZ L) fun k=>il 26 (List.drop (k*26) (fJ c.1))) (aO 0 Z fun k=>cR uZ L (a+k)) j=cR uZ (L.take a++c::L.drop a) j:=by
 have aH:(L.take a).length=a:=by simp;omega
 rw[sU,sU,sU];unfold cR;by_cases h1:j<a+1
 ·rw[if_pos h1];by_cases h2:j<a
  ·rw[if_pos h2]
   congr 1
   rw[List.getD_eq_getElem?_getD,List.getD_eq_getElem?_getD,List.getElem?_append_left (by omega),List.getElem?_take,if_pos h2]
  ·rw[if_neg h2];have e:j=a:=by omega
   subst e;rw[List.getD_eq_getElem?_getD,List.getElem?_append_right (by omega),aH,Nat.sub_self];rfl
 ·rw[if_neg h1,if_neg (Nat.not_lt_zero _)]
  congr 1
  rw[List.getD_eq_getElem?_getD,List.getD_eq_getElem?_getD,List.getElem?_append_right (by omega),aH];obtain⟨q,rfl⟩:∃q,j=a+1+q:=⟨j-(a+1),by omega⟩;rw[show a+1+q-a=q+1 by omega,List.getElem?_cons_succ,List.getElem?_drop]
  congr 2
  omega
theorem Jw(L:List MS)(i:Nat)(h:i<L.length):cR uZ L i=fJ ((L.map (·.1)).getD i default):=by
 unfold cR uZ
 congr 1
 rw[List.getD_eq_getElem?_getD,List.getD_eq_getElem?_getD,List.getElem?_map,List.getElem?_eq_getElem h];rfl
theorem Re(l:List MS)(hl:l.length<=10000):
  aa Tryz.prog G 61 [.sl l.length 26 (cR uZ l)] (.sl (cw l).length 26 fun i=>fJ (((cw l).map (·.1)).getD i default)):=by
 refine aa.af ak Tryz.func61 rfl rfl _ rfl ?_;(conv=>whnf);repeat' ((first|refine st ?_|(refine⟨fun h=>?_,fun h=>?_⟩<;>try simp only[ae] at h)|refine wf ?_|refine ao ?_|refine nn ?_|fail)<;>conv=>whnf)
 refine ah (fun x:Nat×List MS=>x.1<=l.length/\x.2=cw (l.take x.1)/\x.2.length<=x.1) (fun x=>match x with|(i,_)=>[(3,.own 0),(4,.int .i64 (i:Int)),(10,.aj)]) (fun x=>match x with|(_,L)=>[.row 57 26 L.length (cR uZ L)]) (fun x=>l.length-x.1) (0,[]) ⟨Nat.zero_le _,rfl,Nat.zero_le _⟩ ?_ ?_
 ·conv=>whnf
  repeat (first|exact fa|((first|refine fb ?_|(refine And.intro ?_ ?_;rotate_left));conv=>whnf))
 ·rintro⟨i,L⟩ ⟨hi,hL,hn⟩;have hi:i<=l.length:=hi;have hL:L=cw (l.take i):=hL;have hn:L.length<=i:=hn;(conv=>whnf)
  repeat (first|(refine st ?_;conv=>whnf))
  refine⟨fun h=>?_,fun h=>?_⟩
  ·have h:=of_decide_eq_true h;have hc:i<l.length:=by omega
   conv=>whnf
   repeat (first|(refine st ?_;conv=>whnf))
   refine ah (fun x:Nat×Nat×Bool=>x.1<=L.length/\x.2.1=nv u5 L (l.getD i default) x.1/\x.2.2=AK (l.getD i default) (L.take x.1)) (fun x=>match x with|(k,a,b)=>[(5,.int .i64 (a:Int)),(6,.sb b),(7,.int .i64 (k:Int)),(8,.aj)]) (fun _=>[.row 57 26 L.length (cR uZ L)]) (fun x=>L.length-x.1) (0,0,false) ⟨Nat.zero_le _,rfl,rfl⟩ ?_ ?_
   ·conv=>whnf
    repeat (first|exact fa|((first|refine fb ?_|(refine And.intro ?_ ?_;rotate_left));conv=>whnf))
   ·rintro⟨k,a,b⟩ ⟨hk,ha,hb⟩;have hk:k<=L.length:=hk;have ha:a=nv u5 L (l.getD i default) k:=ha;have hb:b=AK (l.getD i default) (L.take k):=hb;have Tv:=Ve (G:=G) (L.getD k default).2 (l.getD i default).2;have hna:=Rb (l.getD i default) L k;have YU:=Nv (l.getD i default) L k;have hle:a<=k:=by rw[ha];exact mZ _ _ _
    rw[wV,wV] at Tv;(conv=>whnf)
    repeat (first|(refine st ?_;conv=>whnf))
    refine⟨fun h=>?_,fun h=>?_⟩
    ·have h:=of_decide_eq_true h;have hkc:k<L.length:=by omega
     (conv=>whnf);repeat' ((first|refine st ?_|(refine⟨fun h=>?_,fun h=>?_⟩<;>try simp only[ae] at h)|(refine .inl ?_;(conv=>whnf);refine⟨_,Tv,?_⟩)|refine wf ?_|refine ao ?_|refine nn ?_|fail)<;>conv=>whnf)
     all_goals have YU:=YU hkc
     all_goals rw[<-ha] at hna
     all_goals rw[<-hb] at YU
     all_goals refine⟨(k+1,nv u5 L (l.getD i default) (k+1),AK (l.getD i default) (L.take (k+1))),⟨hkc,rfl,rfl⟩,(by show L.length-(k+1)<L.length-k;omega),?_⟩
     all_goals rw[hna,YU]
     all_goals subst h
     ·rw[if_pos (by assumption)];(conv=>whnf)
      repeat (first|exact fa|((first|refine fb ?_|(refine And.intro ?_ ?_;rotate_left));conv=>whnf))
     ·rw[if_pos (by assumption)];(conv=>whnf)
      repeat (first|exact fa|((first|refine fb ?_|(refine And.intro ?_ ?_;rotate_left));conv=>whnf))
     ·rw[if_neg (by assumption)];(conv=>whnf)
      repeat (first|exact fa|((first|refine fb ?_|(refine And.intro ?_ ?_;rotate_left));conv=>whnf))
     ·rw[if_neg (by assumption)];(conv=>whnf)
      repeat (first|exact fa|((first|refine fb ?_|(refine And.intro ?_ ?_;rotate_left));conv=>whnf))
    ·have h:=of_decide_eq_false h;have e:k=L.length:=by omega
     subst e;rw[List.take_length] at hb;clear Tv hna YU;(conv=>whnf)
     repeat (first|(refine st ?_;conv=>whnf))
     refine⟨fun h=>?_,fun h=>?_⟩
     ·conv=>whnf
      iterate 2 (first|(refine st ?_;conv=>whnf))
      refine⟨⟨by omega,by omega⟩,?_⟩;(conv=>whnf)
      repeat (first|(refine st ?_;conv=>whnf))
      have Qe:L.length<=10000:=by omega
      refine⟨⟨by omega,Nat.le_trans (Nat.mul_le_mul (show 0+(L.length-(a:Int).toNat)<=10000 by omega) (Nat.le_refl _)) (by decide)⟩,?_⟩;(conv=>whnf);repeat' ((first|(refine qN (id:=16) [(2,1)] ak mixed ?_)|(exact Nat.le_trans (Nat.mul_le_mul (show _<=30000 by omega) (Nat.le_refl _)) (by decide))|((refine eO (id:=4) 6 [5] rfl rfl ?_;conv=>whnf))|refine st ?_|(refine⟨fun h=>?_,fun h=>?_⟩<;>try simp only[ae] at h)|refine wf ?_|refine ao ?_|refine nn ?_|fail)<;>conv=>whnf)
      have e:cw (l.take (i+1))=L.take a++l.getD i default::L.drop a:=by
       rw[ou l i hc,<-hL];unfold wY;rw[<-hb,<-ha,if_neg (by cases b<;>simp_all)]
      have hlen:(L.take a++l.getD i default::L.drop a).length=L.length+1:=by simp;omega
      refine⟨(i+1,L.take a++l.getD i default::L.drop a),⟨hc,e.symm,(by show(L.take a++l.getD i default::L.drop a).length<=i+1;omega)⟩,(by show l.length-(i+1)<l.length-i;omega),?_⟩;(conv=>whnf)
      repeat (first|exact fa|((first|refine fb ?_|(refine And.intro ?_ ?_;rotate_left));conv=>whnf))
      ·exact .inl fun j hj=>Nw L (l.getD i default) a hle _ j (by omega)
      ·rw[hlen];omega
     ·(conv=>whnf);repeat' ((first|refine st ?_|(refine⟨fun h=>?_,fun h=>?_⟩<;>try simp only[ae] at h)|refine wf ?_|refine ao ?_|refine nn ?_|fail)<;>conv=>whnf)
      have e:cw (l.take (i+1))=L:=by
       rw[ou l i hc,<-hL];unfold wY;rw[<-hb,if_pos (by cases b<;>simp_all)]
      refine⟨(i+1,L),⟨hc,e.symm,(by show L.length<=i+1;omega)⟩,(by show l.length-(i+1)<l.length-i;omega),?_⟩;(conv=>whnf)
      repeat (first|exact fa|((first|refine fb ?_|(refine And.intro ?_ ?_;rotate_left));conv=>whnf))
  ·have h:=of_decide_eq_false h;have e:i=l.length:=by omega
   subst e;rw[List.take_length] at hL;subst hL;(conv=>whnf);repeat' ((first|refine st ?_|(refine⟨fun h=>?_,fun h=>?_⟩<;>try simp only[ae] at h)|refine wf ?_|refine ao ?_|refine nn ?_|fail)<;>conv=>whnf)
   exact .inl fun j hj=>Jw (cw l) j hj
end Go.Proofs.YtijddijloelacaaGreat
namespace Go.Proofs.YtijddijloelacaaGreat
open Go.Proofs.YtijddijloelacaaGreat.Am Go.Sort Go.Proofs Go.Lib
variable [Inhabited cF]
theorem sV(x y z:MS)(h1:u5 x y)(h2:u5 y z):u5 x z:=qd x.2.2.1 y.2.2.1 z.2.2.1 h1 h2
theorem AL(x:MS):¬u5 x x:=by unfold u5;rw[sR];omega
theorem Rf(x y:MS)(h1:u5 x y)(h2:u5 y x):False:=AL x (sV x y x h1 h2)
theorem Nx{x y:MS}(h:ee x.1 y.1=0):x=y:=Subtype.ext (Jr x.2 y.2 h)
theorem SW{x y:MS}(h1:¬u5 x y)(h2:¬u5 y x):x=y:=by
 unfold u5 at *;rw[AH] at h1 h2;exact Nx ((AI _ _).2 ⟨by omega,by omega⟩)
theorem HL(c:MS)(L:List MS):AK c L=true↔c∈L:=by
 unfold AK;rw[List.any_eq_true];constructor
 ·rintro⟨x,h1,h2⟩;rw[<-Nx (of_decide_eq_true h2)];exact h1
 ·intro h;exact⟨c,h,decide_eq_true (sR _)⟩
theorem Rg(L:List MS)(c:MS):wY L c=jn u5 L c:=by
 unfold wY jn;by_cases h:c∈L
 ·rw[if_pos ((HL c L).2 h),if_pos h]
 ·rw[if_neg (fun q=>h ((HL c L).1 q)),if_neg h]
theorem gw:∀(M L:List MS),L.Pairwise u5->(M.foldl wY L).Pairwise u5/\(∀x,x∈M.foldl wY L↔x∈L\/x∈M)
 | [],L,h=>⟨h,fun x=>by simp⟩
 | c::M,L,h=>by
  obtain⟨p1,p2⟩:=wX sV L c h (fun x _=>SW);rw[<-Rg] at p1 p2;obtain⟨q1,q2⟩:=gw M (wY L c) p1;refine⟨q1,fun x=>?_⟩;rw[List.foldl_cons,q2,p2,List.mem_cons];constructor
  ·rintro((h|h)|h)
   ·exact .inr (.inl h)
   ·exact .inl h
   ·exact .inr (.inr h)
  ·rintro(h|h|h)
   ·exact .inl (.inr h)
   ·exact .inl (.inl h)
   ·exact .inr h
theorem Dn(L:List MS):(dK (fQ xH L)).Pairwise u5/\∀x,x∈dK (fQ xH L)↔x∈L:=by
 obtain⟨hp,hs⟩:=du xH FB L;have hlen:=hp.length_eq
 obtain⟨c1,c2⟩:=ot (R:=u5) (fQ xH L) sV (fun i j lB hj hr=>by
  have:=hs i j lB (by omega);rw[(FA _ _).2 hr] at this;exact Bool.noConfusion this) (fun x _ y _=>SW) (fQ xH L).length (Nat.le_refl _)
 refine⟨c1,fun x=>?_⟩;show x∈compactUpTo _ _↔_;rw[c2,<-hp.mem_iff];constructor
 ·rintro⟨i,hi,rfl⟩;rw[List.getD_eq_getElem?_getD,List.getElem?_eq_getElem hi];exact List.getElem_mem _
 ·intro hx;obtain⟨i,hi,e⟩:=List.getElem_of_mem hx;exact⟨i,hi,by rw[List.getD_eq_getElem?_getD,List.getElem?_eq_getElem hi];exact e⟩
/-- The program's list is the document's. -/
theorem FD(L:List MS):dK (fQ xH L)=cw L:=by
 obtain⟨a1,a2⟩:=Dn L;obtain⟨b1,b2⟩:=gw L [] List.Pairwise.nil;refine sT AL Rf _ _ a1 b1 fun x=>?_;rw[a2,show(x∈cw L↔x∈L) from by unfold cw;rw[b2];simp]
end Go.Proofs.YtijddijloelacaaGreat
namespace Go.Proofs.YtijddijloelacaaGreat
open Go.Proofs.YtijddijloelacaaGreat.Am Go.Sort Go.Proofs Go.Lib
variable [Inhabited cF]
variable {G:aK}
def kF(L:List MS):List RS:=L.map (·.1)
theorem Ny(L:List MS):cR xI (L.map oq)=fun i=>fJ ((kF L).getD i default):=by
 funext i
 unfold cR xI kF
 congr 1
 rw[List.getD_eq_getElem?_getD,List.getD_eq_getElem?_getD,List.getElem?_map,List.getElem?_map];cases L[i]?<;>rfl
theorem Vf(dS:(default:cF).ns)(l:List RS)(hl:l.length<=10000)(h:∀r∈l,dU r):
  aa Tryz.prog G 96 [dM l] (.tup [dM (kF (cw (fU l h))),.int .i64 0]):=by
 by_cases h0:l=[]
 ·subst h0;exact Nq dS
 ·have k:=Q8 (G:=G) dS l (by omega) h (List.length_pos_iff.2 h0);rw[Ny] at k;unfold HJ at k;rw[FD] at k;have e:(cw (fU l h)).length=(kF (cw (fU l h))).length:=by simp[kF]
  rw[e] at k;exact k
theorem Rh(l:List RS)(hl:l.length<=10000)(h:∀r∈l,dU r):
  aa Tryz.prog G 61 [dM l] (dM (kF (cw (fU l h)))):=by
 have k:=Re (G:=G) (fU l h) (by rw[rB];exact hl);have dj:=Dm l h;have e:(cw (fU l h)).length=(kF (cw (fU l h))).length:=by simp[kF]
 rw[e,rB] at k;refine k.fit ?_;unfold dM;generalize cR uZ (fU l h)=r1 at *;(conv=>whnf)
 repeat (first|exact fa|((first|refine fb ?_|(refine And.intro ?_ ?_;rotate_left));conv=>whnf))
 all_goals first|exact .inl fun i hi=>(dj i hi).symm
end Go.Proofs.YtijddijloelacaaGreat
namespace Go.Proofs.YtijddijloelacaaGreat
open Go.Proofs.YtijddijloelacaaGreat.Am
variable [Inhabited cF]
variable {G:aK}
def sW(n d:Int):Prop:=n<0\/d<1\/d<n
instance (n d:Int):Decidable (sW n d):=inferInstanceAs (Decidable (_\/_))
def gP(n d:Int):Nat:=Nat.gcd n.toNat d.toNat
def cG(n d:Int):Int:=if sW n d then 0 else ((n.toNat/gP n d:Nat):Int)
def bJ(n d:Int):Int:=if sW n d then 1 else ((d.toNat/gP n d:Nat):Int)
theorem lx(n d:Int)(hd:d<=9223372036854775807):0<=cG n d/\cG n d<=bJ n d/\1<=bJ n d/\bJ n d<=9223372036854775807:=by
 unfold cG bJ;by_cases h:sW n d
 ·rw[if_pos h,if_pos h];decide
 ·rw[if_neg h,if_neg h];unfold sW at h;have hp:0<gP n d:=Nat.gcd_pos_of_pos_right _ (by omega);have h1:n.toNat/gP n d<=d.toNat/gP n d:=Nat.div_le_div_right (by omega);have h2:0<d.toNat/gP n d:=Nat.div_pos (Nat.le_of_dvd (by omega) (Nat.gcd_dvd_right _ _)) hp;have h3:d.toNat/gP n d<=d.toNat:=Nat.div_le_self _ _;generalize n.toNat/gP n d=u at *;generalize d.toNat/gP n d=v at *;omega
theorem Ri{a b D:Nat}(ha:0<a)(hb:0<b)(hp:a*b*2 ^ 200<=D*D)(hD:D<=9223372036854775807):False:=by
 have e1:1<=a*b:=Nat.mul_pos ha hb;have e3:D*D<=9223372036854775807*9223372036854775807:=Nat.mul_le_mul hD hD;have e4:9223372036854775807*9223372036854775807<2 ^ 200:=by decide
 generalize hz:2 ^ 200=z at *;have e2:=Nat.mul_le_mul_right z e1;omega
theorem AM(N g D:Nat)(h:N<=D)(hD:(D:Int)<=9223372036854775807):IntKind.i64.wrap ((N:Int).tdiv (g:Int))=((N/g:Nat):Int):=by
 have e:(N:Int).tdiv (g:Int)=((N/g:Nat):Int):=rfl;have:=Nat.div_le_self N g;rw[e];generalize N/g=q at *;rw[IntKind.wrap_i64];omega
theorem Vg(n d:Int)(hd:d<=9223372036854775807):aa Tryz.prog G 188 [.int .i64 n,.int .i64 d] (.tup [.int .i64 (cG n d),.int .i64 (bJ n d)]):=by
 unfold cG bJ;by_cases hB:sW n d
 ·rw[if_pos hB,if_pos hB];unfold sW at hB;refine aa.af ak Tryz.func188 rfl rfl _ rfl ?_;(conv=>whnf);repeat' ((first|refine st ?_|(refine⟨fun h=>?_,fun h=>?_⟩<;>try simp only[ae] at h)|refine wf ?_|refine ao ?_|refine nn ?_|fail)<;>conv=>whnf)
  all_goals first|contradiction|(exfalso;omega)|skip
 ·rw[if_neg hB,if_neg hB];have h1:0<=n/\1<=d/\n<=d:=by unfold sW at hB;omega
  obtain⟨N,rfl⟩:∃N:Nat,n=N:=⟨n.toNat,by omega⟩;obtain⟨D,rfl⟩:∃D:Nat,d=D:=⟨d.toNat,by omega⟩;unfold gP;rw[Int.toNat_natCast,Int.toNat_natCast];refine aa.af ak Tryz.func188 rfl rfl _ rfl ?_;(conv=>whnf);repeat' ((first|(exact absurd (show((N:Nat):Int)<0 by assumption) (by omega))|(exact absurd (show((D:Nat):Int)<1 by assumption) (by omega))|(exact absurd (show((D:Nat):Int)<N by assumption) (by omega))|refine st ?_|(refine⟨fun h=>?_,fun h=>?_⟩<;>try simp only[ae] at h)|refine wf ?_|refine ao ?_|refine nn ?_|fail)<;>conv=>whnf)
  refine ah (fun x:Nat×Nat=>Nat.gcd x.1 x.2=Nat.gcd N D/\0<x.2/\x.1<=D/\x.2<=D) (fun x=>match x with|(a,b)=>[(6,.int .i64 (a:Int)),(7,.int .i64 (b:Int))]) (fun _=>[]) (fun x=>x.1) (N,D) ⟨rfl,by omega,by omega,Nat.le_refl _⟩ ?_ ?_
  ·conv=>whnf
   repeat (first|exact fa|((first|refine fb ?_|(refine And.intro ?_ ?_;rotate_left));conv=>whnf))
  ·rintro⟨a,b⟩ ⟨hg,hb,Z7,oI⟩;simp only at hg hb Z7 oI;(conv=>whnf);repeat' ((first|refine st ?_|(refine⟨fun h=>?_,fun h=>?_⟩<;>try simp only[ae] at h)|refine wf ?_|refine ao ?_|refine nn ?_|fail)<;>conv=>whnf)
   ·have ha:0<a:=by omega
    have hm:=Nat.mod_lt b ha;refine⟨(b%a,a),⟨by show Nat.gcd (b%a) a=_;rw[<-hg,<-Nat.gcd_rec],ha,(by show b%a<=D;omega),Z7⟩,hm,?_⟩;(conv=>whnf)
    repeat (first|exact fa|((first|refine fb ?_|(refine And.intro ?_ ?_;rotate_left));conv=>whnf))
   ·have ha:a=0:=by omega
    subst ha;rw[Nat.gcd_zero_left] at hg;subst hg;repeat' ((first|refine st ?_|(refine⟨fun h=>?_,fun h=>?_⟩<;>try simp only[ae] at h)|refine wf ?_|refine ao ?_|refine nn ?_|fail)<;>conv=>whnf)
    refine⟨AM N _ D (by omega) hd,?_⟩;(conv=>whnf)
    first|exact AM D _ D (Nat.le_refl _) hd|exact⟨AM D _ D (Nat.le_refl _) hd,trivial⟩
theorem Rj(n d:Int)(hd:d<=9223372036854775807):aa Tryz.prog G 217 [.int .i64 n,.int .i64 d] (.tup [.int .i64 (cG n d),.int .i64 (bJ n d)]):=by
 unfold cG bJ;by_cases hB:sW n d
 ·rw[if_pos hB,if_pos hB];unfold sW at hB;refine aa.af ak Tryz.func217 rfl rfl _ rfl ?_;(conv=>whnf);repeat' ((first|refine st ?_|(refine⟨fun h=>?_,fun h=>?_⟩<;>try simp only[ae] at h)|refine wf ?_|refine ao ?_|refine nn ?_|fail)<;>conv=>whnf)
  all_goals first|contradiction|(exfalso;omega)|skip
 ·rw[if_neg hB,if_neg hB];have h1:0<=n/\1<=d/\n<=d:=by unfold sW at hB;omega
  obtain⟨N,rfl⟩:∃N:Nat,n=N:=⟨n.toNat,by omega⟩;obtain⟨D,rfl⟩:∃D:Nat,d=D:=⟨d.toNat,by omega⟩;have hND:N<=D:=by omega
  have hD2:D<=9223372036854775807:=by omega
  unfold gP;rw[Int.toNat_natCast,Int.toNat_natCast];refine aa.af ak Tryz.func217 rfl rfl _ rfl ?_;(conv=>whnf);repeat' ((first|(exact absurd (show((N:Nat):Int)<0 by assumption) (by omega))|(exact absurd (show((D:Nat):Int)<1 by assumption) (by omega))|(exact absurd (show((D:Nat):Int)<N by assumption) (by omega))|refine st ?_|(refine⟨fun h=>?_,fun h=>?_⟩<;>try simp only[ae] at h)|refine wf ?_|refine ao ?_|refine nn ?_|fail)<;>conv=>whnf)
  refine ah (fun x:Nat×Nat×Nat=>Nat.gcd x.2.2 x.2.1=Nat.gcd N D/\x.2.2<=x.2.1/\x.2.1<=D/\x.1<=200/\0<x.2.1/\x.2.1*x.2.2*2 ^ x.1<=D*D) (fun x=>match x with|(k,a,b)=>[(8,.int .i64 (k:Int)),(6,.int .i64 (a:Int)),(7,.int .i64 (b:Int))]) (fun _=>[]) (fun x=>200-x.1) (0,D,N) ⟨rfl,by show N<=D;omega,Nat.le_refl _,by show 0<=200;omega,by show 0<D;omega,by show D*N*2 ^ 0<=D*D;rw[Nat.pow_zero,Nat.mul_one];exact Nat.mul_le_mul_left _ (by omega)⟩ ?_ ?_
  ·conv=>whnf
   repeat (first|exact fa|((first|refine fb ?_|(refine And.intro ?_ ?_;rotate_left));conv=>whnf))
  ·rintro⟨k,a,b⟩ ⟨hg,hba,Z7,hk,ha0,hp⟩;simp only at hg hba Z7 hk ha0 hp;(conv=>whnf);repeat' ((first|refine st ?_|(refine⟨fun h=>?_,fun h=>?_⟩<;>try simp only[ae] at h)|refine wf ?_|refine ao ?_|refine nn ?_|fail)<;>conv=>whnf)
   ·have hb:0<b:=by omega
    have hm:=Nat.mod_lt a hb;have hq:1<=a/b:=Nat.div_pos hba hb;have hdm:=Nat.div_add_mod a b
    have h2:a%b*2<=a:=by
     have:b*1<=b*(a/b):=Nat.mul_le_mul_left _ hq;omega
    refine⟨(k+1,b,a%b),⟨by show Nat.gcd (a%b) b=_;rw[<-hg,Nat.gcd_comm b a,<-Nat.gcd_rec b a,Nat.gcd_comm b a],(by show a%b<=b;omega),(by show b<=D;omega),(by show k+1<=200;omega),hb,?_⟩,(by show 200-(k+1)<200-k;omega),?_⟩
    ·show b*(a%b)*2 ^ (k+1)<=D*D;refine Nat.le_trans ?_ hp;rw[Nat.pow_succ,Nat.mul_comm (2 ^ k) 2,<-Nat.mul_assoc];refine Nat.mul_le_mul_right _ ?_;rw[Nat.mul_assoc,Nat.mul_comm a b];exact Nat.mul_le_mul_left _ h2
    ·conv=>whnf
     repeat (first|exact fa|((first|refine fb ?_|(refine And.intro ?_ ?_;rotate_left));conv=>whnf))
   ·have hb:b=0:=by omega
    subst hb;rw[Nat.gcd_zero_left] at hg;subst hg;refine⟨AM N _ D hND hd,?_⟩;(conv=>whnf)
    first|exact AM D _ D (Nat.le_refl _) hd|exact⟨AM D _ D (Nat.le_refl _) hd,trivial⟩
   ·have nu:k=200:=by omega
    subst nu
    have hb:b=0:=by
     rcases Nat.eq_zero_or_pos b with h0|h0
     ·exact h0
     ·exfalso;exact Ri ha0 h0 hp hD2
    subst hb;rw[Nat.gcd_zero_left] at hg;subst hg;refine⟨AM N _ D hND hd,?_⟩;(conv=>whnf)
    first|exact AM D _ D (Nat.le_refl _) hd|exact⟨AM D _ D (Nat.le_refl _) hd,trivial⟩
structure W8 where
 a:Nat
 b:Nat
 c:Nat
 d:Nat
 e:Nat
 f:Nat
 g:Nat
 h:Nat
 deriving Inhabited,DecidableEq
structure Ct where
 n:Int
 d:Int
 p:Bool
 q:Bool
 X:W8
 Y:W8
 W:W8
 deriving Inhabited,DecidableEq
def w8(f:Nat->Nat):W8:=⟨f 0,f 1,f 2,f 3,f 4,f 5,f 6,f 7⟩
def FE(c:Ct):List A:=[.sb c.p,.int .u64 (c.X.a:Nat),.int .u64 (c.X.b:Nat),.int .u64 (c.X.c:Nat),.int .u64 (c.X.d:Nat),.int .u64 (c.X.e:Nat),.int .u64 (c.X.f:Nat),.int .u64 (c.X.g:Nat),.int .u64 (c.X.h:Nat),
 .sb c.q,.int .u64 (c.Y.a:Nat),.int .u64 (c.Y.b:Nat),.int .u64 (c.Y.c:Nat),.int .u64 (c.Y.d:Nat),.int .u64 (c.Y.e:Nat),.int .u64 (c.Y.f:Nat),.int .u64 (c.Y.g:Nat),.int .u64 (c.Y.h:Nat),
 .int .u64 (c.W.a:Nat),.int .u64 (c.W.b:Nat),.int .u64 (c.W.c:Nat),.int .u64 (c.W.d:Nat),.int .u64 (c.W.e:Nat),.int .u64 (c.W.f:Nat),.int .u64 (c.W.g:Nat),.int .u64 (c.W.h:Nat)]
def yG(c:Ct):List A:=[.int .i64 c.n,.int .i64 c.d,.sb c.p,.int .u64 (c.X.a:Nat),.int .u64 (c.X.b:Nat),.int .u64 (c.X.c:Nat),.int .u64 (c.X.d:Nat),.int .u64 (c.X.e:Nat),.int .u64 (c.X.f:Nat),.int .u64 (c.X.g:Nat),.int .u64 (c.X.h:Nat),
 .sb c.q,.int .u64 (c.Y.a:Nat),.int .u64 (c.Y.b:Nat),.int .u64 (c.Y.c:Nat),.int .u64 (c.Y.d:Nat),.int .u64 (c.Y.e:Nat),.int .u64 (c.Y.f:Nat),.int .u64 (c.Y.g:Nat),.int .u64 (c.Y.h:Nat),
 .int .u64 (c.W.a:Nat),.int .u64 (c.W.b:Nat),.int .u64 (c.W.c:Nat),.int .u64 (c.W.d:Nat),.int .u64 (c.W.e:Nat),.int .u64 (c.W.f:Nat),.int .u64 (c.W.g:Nat),.int .u64 (c.W.h:Nat)]
def w4(c:Ct):Prop:=0<=c.n/\c.n<=c.d/\1<=c.d/\c.d<=9223372036854775807
instance (c:Ct):Decidable (w4 c):=inferInstanceAs (Decidable (_/\_))
abbrev Cu:Type:={ c:Ct//w4 c }

instance:Inhabited Cu:=⟨⟨⟨0,1,false,false,default,default,default⟩,by decide⟩⟩
def qj(c:Cu):List A:=yG c.1
/-- A cut of parts, at a spot that is made lowest. -/
def YV(n d x y:Int)(w:Nat):Ct:=⟨n,d,decide (qz x (gg x y w)<0),decide (qz y (gg x y w)<0),w8 (wW (qz x (gg x y w)).natAbs),w8 (wW (qz y (gg x y w)).natAbs),w8 (wW (w/gg x y w))⟩
def Dp(s:Sg)(n d:Int):Ct:=YV (cG n d) (bJ n d) (xS s (cG n d) (bJ n d)) (yS s (cG n d) (bJ n d)) (bJ n d).toNat
theorem Nz(s:Sg)(n d:Int)(h:d<=9223372036854775807):w4 (Dp s n d):=lx n d h
def ox(s:Sg)(n d:Int):Cu:=if h:d<=9223372036854775807 then ⟨Dp s n d,Nz s n d h⟩ else default
theorem eo{s:Sg}{n d:Int}(h:d<=9223372036854775807):(ox s n d).1=Dp s n d:=by unfold ox;rw[dif_pos h]
theorem oX(c:Ct):∃n d p q X Y W,c=⟨n,d,p,q,X,Y,W⟩:=⟨_,_,_,_,_,_,_,rfl⟩
theorem Dq(s:Sg)(n d:Int):∃c:Ct,Dp s n d=c/\xG (xS s (cG n d) (bJ n d)) (yS s (cG n d) (bJ n d)) (bJ n d).toNat=.agg (FE c)/\c.n=cG n d/\c.d=bJ n d:=⟨_,rfl,rfl,rfl,rfl⟩
theorem u6(s:Sg)(n d:Int)(hL:bQ s)(hd:d<=9223372036854775807):aa Tryz.prog G 137 [.agg (gZ s),.int .i64 n,.int .i64 d] (.agg (qj (ox s n d))):=by
 have c1:=Vg (G:=G) n d hd;obtain⟨l1,l2,l3,l4⟩:=lx n d hd;have c2:=U1 (G:=G) s (cG n d) (bJ n d) ⟨hL,l3,l1,l2⟩ l4;unfold qj;rw[eo hd];obtain⟨c,e1,e2,e3,e4⟩:=Dq s n d;rw[e1];rw[e2] at c2;rw[<-e3,<-e4] at c1 c2;clear e1 e2 e3 e4 l1 l2 l3 l4;obtain⟨N,D,p,q,X,Y,W,rfl⟩:=oX c;refine aa.af ak Tryz.func137 rfl rfl _ rfl ?_;(conv=>whnf);repeat' ((first|refine st ?_|(refine⟨fun h=>?_,fun h=>?_⟩<;>try simp only[ae] at h)|(refine .inl ?_;(conv=>whnf);(first|refine⟨_,c1,?_⟩|refine⟨_,c2,?_⟩))|refine wf ?_|refine ao ?_|refine nn ?_|fail)<;>conv=>whnf)
 all_goals first|contradiction|(exfalso;omega)|skip
theorem u7(s:Sg)(n d:Int)(hL:bQ s)(hd:d<=9223372036854775807):aa Tryz.prog G 154 [.agg (gZ s),.int .i64 n,.int .i64 d] (.agg (qj (ox s n d))):=by
 have c1:=Rj (G:=G) n d hd;obtain⟨l1,l2,l3,l4⟩:=lx n d hd;have c2:=U2 (G:=G) s (cG n d) (bJ n d) ⟨hL,l3,l1,l2⟩ l4;unfold qj;rw[eo hd];obtain⟨c,e1,e2,e3,e4⟩:=Dq s n d;rw[e1];rw[e2] at c2;rw[<-e3,<-e4] at c1 c2;clear e1 e2 e3 e4 l1 l2 l3 l4;obtain⟨N,D,p,q,X,Y,W,rfl⟩:=oX c;refine aa.af ak Tryz.func154 rfl rfl _ rfl ?_;(conv=>whnf);repeat' ((first|refine st ?_|(refine⟨fun h=>?_,fun h=>?_⟩<;>try simp only[ae] at h)|(refine .inl ?_;(conv=>whnf);(first|refine⟨_,c1,?_⟩|refine⟨_,c2,?_⟩))|refine wf ?_|refine ao ?_|refine nn ?_|fail)<;>conv=>whnf)
 all_goals first|contradiction|(exfalso;omega)|skip
def AN(s:Sg)(p:Pt):Cu:=ox s (b9 s.a s.b p) (b9 s.a s.b s.b)
theorem YW(a b:Pt):aa Tryz.prog G 196 [.agg (ki a),.agg (ki b)] (.int .i64 (b9 a b b)):=by
 have h:=Ah (G:=G) a b b;refine aa.af ak Tryz.func196 rfl rfl _ rfl ?_;(conv=>whnf);repeat' ((first|refine st ?_|(refine⟨fun h=>?_,fun h=>?_⟩<;>try simp only[ae] at h)|(refine .inl ?_;(conv=>whnf);refine⟨_,h,?_⟩)|refine wf ?_|refine ao ?_|refine nn ?_|fail)<;>conv=>whnf)
theorem rE(a b c:Pt):b9 a b c<=9223372036854775807:=by
 unfold b9;split
 ·rename_i h;have:=(sL h).2.2.2.1;omega
 ·omega
def ct0:Ct:=⟨0,0,false,false,default,default,default⟩
theorem SX(s:Sg)(p:Pt):aa Tryz.prog G 139 [.agg (gZ s),.agg (ki p)] (if jV s p then .tup [.agg (qj (AN s p)),.int .i64 0] else .tup [.agg (yG ct0),.int .i64 1]):=by
 have h0:=Ak (G:=G) s p;have h1:=Ah (G:=G) s.a s.b p;have h2:=YW (G:=G) s.a s.b;by_cases hO:jV s p
 ·rw[if_pos hO];rw[decide_eq_true hO] at h0;have h3:=u6 (G:=G) s (b9 s.a s.b p) (b9 s.a s.b s.b) hO.1 (rE _ _ _);unfold AN qj at *;generalize (ox s (b9 s.a s.b p) (b9 s.a s.b s.b)).1=c at *;generalize b9 s.a s.b p=D1 at *;generalize b9 s.a s.b s.b=D2 at *;refine aa.af ak Tryz.func139 rfl rfl _ rfl ?_;(conv=>whnf);repeat' ((first|refine st ?_|(refine⟨fun h=>?_,fun h=>?_⟩<;>try simp only[ae] at h)|(refine .inl ?_;(conv=>whnf);(first|refine⟨_,h0,?_⟩|refine⟨_,h1,?_⟩|refine⟨_,h2,?_⟩|refine⟨_,h3,?_⟩))|refine wf ?_|refine ao ?_|refine nn ?_|fail)<;>conv=>whnf)
  all_goals first|contradiction|(exfalso;omega)|skip
 ·rw[if_neg hO];rw[decide_eq_false hO] at h0;refine aa.af ak Tryz.func139 rfl rfl _ rfl ?_;(conv=>whnf);repeat' ((first|refine st ?_|(refine⟨fun h=>?_,fun h=>?_⟩<;>try simp only[ae] at h)|(refine .inl ?_;(conv=>whnf);refine⟨_,h0,?_⟩)|refine wf ?_|refine ao ?_|refine nn ?_|fail)<;>conv=>whnf)
  all_goals first|contradiction|(exfalso;omega)|rfl|skip
theorem NA(s:Sg)(p:Pt)(hL:bQ s):aa Tryz.prog G 157 [.agg (gZ s),.agg (ki p)] (.agg (qj (AN s p))):=by
 have h1:=pX (G:=G) s.a s.b p;have h2:=pX (G:=G) s.a s.b s.b;have h3:=u7 (G:=G) s (b9 s.a s.b p) (b9 s.a s.b s.b) hL (rE _ _ _);unfold AN qj at *;generalize (ox s (b9 s.a s.b p) (b9 s.a s.b s.b)).1=c at *;generalize b9 s.a s.b p=D1 at *;generalize b9 s.a s.b s.b=D2 at *;refine aa.af ak Tryz.func157 rfl rfl _ rfl ?_;(conv=>whnf);repeat' ((first|refine st ?_|(refine⟨fun h=>?_,fun h=>?_⟩<;>try simp only[ae] at h)|(refine .inl ?_;(conv=>whnf);(first|refine⟨_,h1,?_⟩|refine⟨_,h2,?_⟩|refine⟨_,h3,?_⟩))|refine wf ?_|refine ao ?_|refine nn ?_|fail)<;>conv=>whnf)
 all_goals first|contradiction|(exfalso;omega)|skip
theorem YX{s t:Sg}(h:(aT s t).k=2):jV s (aT s t).p/\jV s (aT s t).q/\jV t (aT s t).p/\jV t (aT s t).q:=by
 have hT:cM s t:=(pZ s t).1 (by omega);unfold aT at *;rw[if_pos hT] at *;by_cases hd:rD s t=0
 ·rw[if_pos hd] at *;obtain⟨f,l,hE,hR⟩:=exts hT ((lW s t hT).2 hd);rw[hR] at h ⊢;unfold Z1 at h ⊢;by_cases hf:f=l
  ·rw[if_neg (fun q=>q hf)] at h;exact absurd (show(1:Int)=2 from h) (by decide)
  ·rw[if_pos hf];exact⟨hE.fb.1,hE.lb.1,hE.fb.2,hE.lb.2⟩
 ·rw[if_neg hd] at h;have:=(wm hT hd).2.2.2.2;omega
theorem yH(s t:Sg):(aT s t).k=0\/(aT s t).k=1\/(aT s t).k=2:=by
 by_cases hT:cM s t
 ·unfold aT;rw[if_pos hT];by_cases hd:rD s t=0
  ·rw[if_pos hd];obtain⟨f,l,hE,hR⟩:=exts hT ((lW s t hT).2 hd);rw[hR];unfold Z1;split
   ·exact .inr (.inr rfl)
   ·exact .inr (.inl rfl)
  ·rw[if_neg hd];exact .inr (.inl (wm hT hd).2.2.2.2)
 ·exact .inl (Classical.byContradiction fun h=>hT ((pZ s t).1 h))
def oy(s t:Sg):List Cu:=if (aT s t).k=1 then [ox s (aT s t).n (aT s t).d] else if (aT s t).k=2 then [AN s (aT s t).p,AN s (aT s t).q] else []
def jG(l:List Cu):Nat->List A:=fun i=>qj (l.getD i default)
def kv(l:List Cu):A:=.sl l.length 28 (jG l)
theorem SY(s t:Sg):aa Tryz.prog G 94 [.agg (gZ s),.agg (gZ t)] (kv (oy s t)):=by
 have hm:=of_c (G:=G) s t;rcases yH s t with hk|hk|hk
 ·have e:oy s t=[]:=by unfold oy;rw[if_neg (by omega),if_neg (by omega)]
  rw[e];generalize aT s t=m at *;obtain⟨k,n,mm,d,p,q⟩:=m;simp only at hk;subst hk;refine aa.af ak Tryz.func94 rfl rfl _ rfl ?_;(conv=>whnf);repeat' ((first|refine st ?_|(refine⟨fun h=>?_,fun h=>?_⟩<;>try simp only[ae] at h)|(refine .inl ?_;(conv=>whnf);refine⟨_,hm,?_⟩)|refine wf ?_|refine ao ?_|refine nn ?_|fail)<;>conv=>whnf)
  all_goals first|contradiction|(exfalso;omega)|rfl|(refine Or.inl fun i hi=>?_;rcases i with _|_|_|_|i<;>first|rfl|omega)
 ·have e:oy s t=[ox s (aT s t).n (aT s t).d]:=by unfold oy;rw[if_pos hk]
  obtain⟨hT,_,_,_,_,_,hd,_⟩:=qc s t hk;have h1:=u6 (G:=G) s (aT s t).n (aT s t).d hT.1 hd;rw[e];generalize ox s (aT s t).n (aT s t).d=c at *;generalize aT s t=m at *;obtain⟨k,n,mm,d,p,q⟩:=m;simp only at hk h1;subst hk;unfold qj at h1;refine aa.af ak Tryz.func94 rfl rfl _ rfl ?_;(conv=>whnf);repeat' ((first|refine st ?_|(refine⟨fun h=>?_,fun h=>?_⟩<;>try simp only[ae] at h)|(refine .inl ?_;(conv=>whnf);(first|refine⟨_,hm,?_⟩|refine⟨_,h1,?_⟩))|refine wf ?_|refine ao ?_|refine nn ?_|fail)<;>conv=>whnf)
  all_goals first|contradiction|(exfalso;omega)|rfl|(refine Or.inl fun i hi=>?_;rcases i with _|_|_|_|i<;>first|rfl|omega)
 ·have e:oy s t=[AN s (aT s t).p,AN s (aT s t).q]:=by unfold oy;rw[if_neg (by omega),if_pos hk]
  obtain⟨o1,o2,_,_⟩:=YX hk;have h1:=SX (G:=G) s (aT s t).p;have h2:=SX (G:=G) s (aT s t).q;rw[if_pos o1] at h1;rw[if_pos o2] at h2;rw[e];generalize AN s (aT s t).p=c1 at *;generalize AN s (aT s t).q=c2 at *;generalize aT s t=m at *;obtain⟨k,n,mm,d,p,q⟩:=m;simp only at hk h1 h2;subst hk;unfold qj at h1 h2;refine aa.af ak Tryz.func94 rfl rfl _ rfl ?_;(conv=>whnf);repeat' ((first|refine st ?_|(refine⟨fun h=>?_,fun h=>?_⟩<;>try simp only[ae] at h)|(refine .inl ?_;(conv=>whnf);(first|refine⟨_,hm,?_⟩|refine⟨_,h1,?_⟩|refine⟨_,h2,?_⟩))|refine wf ?_|refine ao ?_|refine nn ?_|fail)<;>conv=>whnf)
  all_goals first|contradiction|(exfalso;omega)|rfl|(refine Or.inl fun i hi=>?_;rcases i with _|_|_|_|i<;>first|rfl|omega)
end Go.Proofs.YtijddijloelacaaGreat
namespace Go.Proofs.YtijddijloelacaaGreat
open Go.Proofs.YtijddijloelacaaGreat.Am Go.Sort
variable [Inhabited cF]
variable {G:aK}
def HM(a b:Cu):Nat:=a.1.n.toNat*b.1.d.toNat
def gN(a b:Cu):Prop:=HM a b<HM b a
instance (a b:Cu):Decidable (gN a b):=inferInstanceAs (Decidable (_ < _))
def xn(a b:Cu):Int:=cO [eZ (HM a b/18446744073709551616) (HM b a/18446744073709551616),eZ (HM a b%18446744073709551616) (HM b a%18446744073709551616)]
theorem Jx(x y:Nat):cO [eZ (x/18446744073709551616) (y/18446744073709551616),eZ (x%18446744073709551616) (y%18446744073709551616)]<0↔x<y:=by
 unfold eZ;simp only[cO];repeat' split
 all_goals omega
theorem FF(a b:Cu):ltOf xn a b=true↔gN a b:=by
 unfold ltOf gN xn;rw[decide_eq_true_iff];exact Jx _ _
theorem sX(a:Cu):0<a.1.d.toNat:=by have:=a.2;unfold w4 at this;omega
theorem sY(a b c:Cu)(h1:gN a b)(h2:gN b c):gN a c:=by
 unfold gN HM at *;have pa:=sX a;have pb:=sX b;have pc:=sX c;generalize a.1.n.toNat=an at *;generalize b.1.n.toNat=bn at *;generalize c.1.n.toNat=cn at *;generalize a.1.d.toNat=ad at *;generalize b.1.d.toNat=bd at *;generalize c.1.d.toNat=cd at *;have e1:=Nat.mul_lt_mul_of_pos_right h1 pc;have e2:=Nat.mul_lt_mul_of_pos_right h2 pa;have k1:an*cd*bd=an*bd*cd:=by grind
 have k2:cn*ad*bd=cn*bd*ad:=by grind
 have k3:bn*ad*cd=bn*cd*ad:=by grind
 refine Nat.lt_of_mul_lt_mul_right (a:=bd) ?_;omega
theorem FH(a b c:Cu)(h1:¬gN a b)(h2:¬gN b c):¬gN a c:=by
 unfold gN HM at *;have pa:=sX a;have pb:=sX b;have pc:=sX c;generalize a.1.n.toNat=an at *;generalize b.1.n.toNat=bn at *;generalize c.1.n.toNat=cn at *;generalize a.1.d.toNat=ad at *;generalize b.1.d.toNat=bd at *;generalize c.1.d.toNat=cd at *;have e1:=Nat.mul_le_mul_right cd (Nat.le_of_not_lt h1);have e2:=Nat.mul_le_mul_right ad (Nat.le_of_not_lt h2);have k1:an*cd*bd=an*bd*cd:=by grind
 have k2:cn*ad*bd=cn*bd*ad:=by grind
 have k3:bn*ad*cd=bn*cd*ad:=by grind
 refine Nat.not_lt.2 (Nat.le_of_mul_le_mul_right (c:=bd) ?_ pb);omega
theorem FJ:SWO (ltOf xn):=by
 have e':∀a b,ltOf xn a b=false↔¬gN a b:=fun a b=>by rw[<-FF];simp
 refine⟨fun x=>?_,fun x y z h1 h2=>?_,fun x y z h1 h2=>?_⟩
 ·rw[e'];unfold gN;omega
 ·rw[FF] at *;exact sY x y z h1 h2
 ·rw[e'] at *;exact FH x y z h1 h2
theorem NB(a b:Cu):aa Tryz.prog G 141 [.agg (qj a),.agg (qj b)] (.int .i64 (xn a b)):=by
 obtain⟨a,ha⟩:=a;obtain⟨b,hb⟩:=b;unfold xn HM qj;simp only;obtain⟨n,d,p,q,X,Y,W,rfl⟩:=oX a;obtain⟨n',d',p',q',X',Y',W',rfl⟩:=oX b;unfold w4 at ha hb;simp only at ha hb ⊢;obtain⟨N,rfl⟩:∃N:Nat,n=N:=⟨n.toNat,by omega⟩;obtain⟨D,rfl⟩:∃D:Nat,d=D:=⟨d.toNat,by omega⟩;obtain⟨N',rfl⟩:∃N:Nat,n'=N:=⟨n'.toNat,by omega⟩;obtain⟨D',rfl⟩:∃D:Nat,d'=D:=⟨d'.toNat,by omega⟩;simp only[Int.toNat_natCast];have m1:=lY (G:=G) N D' (by omega) (by omega);have m2:=lY (G:=G) N' D (by omega) (by omega);have m1:aa Tryz.prog G 198 [.int .u64 (IntKind.u64.wrap (N:Int)),.int .u64 (IntKind.u64.wrap (D':Int))] (.tup [.int .u64 ((N*D'/18446744073709551616:Nat):Int),.int .u64 ((N*D'%18446744073709551616:Nat):Int)]):=by rw[dI N (by omega),dI D' (by omega)];exact m1
 have m2:aa Tryz.prog G 198 [.int .u64 (IntKind.u64.wrap (N':Int)),.int .u64 (IntKind.u64.wrap (D:Int))] (.tup [.int .u64 ((N'*D/18446744073709551616:Nat):Int),.int .u64 ((N'*D%18446744073709551616:Nat):Int)]):=by rw[dI N' (by omega),dI D (by omega)];exact m2
 have k1:=Fo (G:=G) (N*D'/18446744073709551616) (N'*D/18446744073709551616);have k2:=Fo (G:=G) (N*D'%18446744073709551616) (N'*D%18446744073709551616);generalize N*D'/18446744073709551616=h1 at *;generalize N*D'%18446744073709551616=l1 at *;generalize N'*D/18446744073709551616=h2 at *;generalize N'*D%18446744073709551616=l2 at *;have k3:=LA (G:=G) [eZ h1 h2,eZ l1 l2] (by simp);generalize eZ h1 h2=z1 at *;generalize eZ l1 l2=z2 at *
 have k4:aa Tryz.prog G 102 [.sl 2 1 (fun i=>il 1 (List.drop (i*1) [.int .i64 z1,.int .i64 z2]))] (.int .i64 (cO [z1,z2])):=k3.fit (by
  conv=>whnf
  repeat (first|exact fa|((first|refine fb ?_|(refine And.intro ?_ ?_;rotate_left));conv=>whnf))
  all_goals (refine Or.inl fun i hi=>?_;rcases i with _|_|_|_|i<;>first|rfl|omega))
 generalize cO [z1,z2]=z at *;refine aa.af ak Tryz.func141 rfl rfl _ rfl ?_;(conv=>whnf);repeat' ((first|refine st ?_|(refine⟨fun h=>?_,fun h=>?_⟩<;>try simp only[ae] at h)|(refine .inl ?_;(conv=>whnf);(first|refine⟨_,m1,?_⟩|refine⟨_,m2,?_⟩|refine⟨_,k1,?_⟩|refine⟨_,k2,?_⟩|refine⟨_,k4,?_⟩))|refine wf ?_|refine ao ?_|refine nn ?_|fail)<;>conv=>whnf)
 all_goals first|contradiction|(exfalso;omega)|rfl|skip
end Go.Proofs.YtijddijloelacaaGreat
/-
  DERIVED: THE SHELF's CONTRACTS AT THIS DUMP, IN PLAIN WORDS (tools/lay-plain.mjs out of 'TrySortShelf.lean', which tools/lay-shelf.mjs wrote): THE SAME DECLARATIONS UNDER THE SAME NAMES: 'import', 'namespace', 'open', 'def', 'theorem' AND NOTHING ELSE: no command of the shelf's: FOR A HAND-IN. Each laying: the table of numbers ('.._ren') and one theorem, a field a fact of the dump's own or the kernel's comparison; each contract: ONE APPLICATION.
-/
namespace Go.Proofs
open Go.Shelf
def Tryz.oz:Go.Shelf.Ren:=⟨fun|6=>140|15=>152|14=>197|28=>215|29=>216|20=>256|21=>257|22=>258|23=>259|24=>260|25=>261|26=>262|27=>263|46=>299|47=>270|48=>271|49=>300|50=>301|57=>321|n=>n,fun|22=>103|24=>123|25=>207|3=>3|39=>176|0=>0|53=>267|55=>51|4=>4|46=>261|45=>260|50=>68|5=>5|9=>9|66=>301|70=>305|76=>327|77=>242|n=>n,fun|n=>n⟩
theorem Tryz.FK:Go.Proofs.SlLaysF0.n6 Tryz.prog Tryz.oz:={
 mixed:=by kernel_rfl
 f6:=⟨Tryz.f140.name,by decide,Tryz.func140.trans (congrArg some (by kernel_rfl))⟩
 f14:=⟨Tryz.f197.name,by decide,Tryz.func197.trans (congrArg some (by kernel_rfl))⟩
 f15:=Tryz.func152.trans (congrArg some (by kernel_rfl))
 f20:=⟨Tryz.f256.name,by decide,Tryz.func256.trans (congrArg some (by kernel_rfl))⟩
 f21:=⟨Tryz.f257.name,by decide,Tryz.func257.trans (congrArg some (by kernel_rfl))⟩
 f22:=⟨Tryz.f258.name,by decide,Tryz.func258.trans (congrArg some (by kernel_rfl))⟩
 f23:=⟨Tryz.f259.name,by decide,Tryz.func259.trans (congrArg some (by kernel_rfl))⟩
 f24:=⟨Tryz.f260.name,by decide,Tryz.func260.trans (congrArg some (by kernel_rfl))⟩
 f25:=⟨Tryz.f261.name,by decide,Tryz.func261.trans (congrArg some (by kernel_rfl))⟩
 f26:=⟨Tryz.f262.name,by decide,Tryz.func262.trans (congrArg some (by kernel_rfl))⟩
 f27:=⟨Tryz.f263.name,by decide,Tryz.func263.trans (congrArg some (by kernel_rfl))⟩
 f28:=Tryz.func215.trans (congrArg some (by kernel_rfl))
 f29:=Tryz.func216.trans (congrArg some (by kernel_rfl))
 f46:=⟨Tryz.f299.name,by decide,Tryz.func299.trans (congrArg some (by kernel_rfl))⟩
 f47:=Tryz.func270.trans (congrArg some (by kernel_rfl))
 f48:=Tryz.func271.trans (congrArg some (by kernel_rfl))
 f49:=⟨Tryz.f300.name,by decide,Tryz.func300.trans (congrArg some (by kernel_rfl))⟩
 f50:=⟨Tryz.f301.name,by decide,Tryz.func301.trans (congrArg some (by kernel_rfl))⟩
 f57:=⟨Tryz.f321.name,by decide,Tryz.func321.trans (congrArg some (by kernel_rfl))⟩
 t0:=Tryz.underlying0
 a0:=Tryz.isAgg0
 z0:=Tryz.sizeOf0
 v0:=Tryz.zeroValue0
 t3:=Tryz.underlying3
 a3:=Tryz.isAgg3
 z3:=Tryz.sizeOf3
 v3:=Tryz.zeroValue3
 t4:=Tryz.underlying4
 a4:=Tryz.isAgg4
 z4:=Tryz.sizeOf4
 v4:=Tryz.zeroValue4
 t5:=Tryz.underlying5
 a5:=Tryz.isAgg5
 z5:=Tryz.sizeOf5
 v5:=Tryz.zeroValue5
 t9:=Tryz.underlying9
 a9:=Tryz.isAgg9
 z9:=Tryz.sizeOf9
 v9:=Tryz.zeroValue9
 t22:=Tryz.underlying103
 a22:=Tryz.isAgg103
 z22:=Tryz.sizeOf103
 v22:=Tryz.zeroValue103
 t25:=Tryz.underlying207
 a25:=Tryz.isAgg207
 z25:=Tryz.sizeOf207
 v25:=Tryz.zeroValue207
 t39:=Tryz.underlying176
 a39:=Tryz.isAgg176
 z39:=Tryz.sizeOf176
 v39:=Tryz.zeroValue176
 t45:=Tryz.underlying260
 a45:=Tryz.isAgg260
 z45:=Tryz.sizeOf260
 v45:=Tryz.zeroValue260
 t46:=Tryz.underlying261
 a46:=Tryz.isAgg261
 z46:=Tryz.sizeOf261
 v46:=Tryz.zeroValue261
 t50:=Tryz.underlying68
 a50:=Tryz.isAgg68
 z50:=Tryz.sizeOf68
 v50:=Tryz.zeroValue68
 t53:=Tryz.underlying267
 a53:=Tryz.isAgg267
 z53:=Tryz.sizeOf267
 v53:=Tryz.zeroValue267
 t55:=Tryz.underlying51
 a55:=Tryz.isAgg51
 z55:=Tryz.sizeOf51
 v55:=Tryz.zeroValue51
 t66:=Tryz.underlying301
 a66:=Tryz.isAgg301
 z66:=Tryz.sizeOf301
 v66:=Tryz.zeroValue301
 t70:=Tryz.underlying305
 a70:=Tryz.isAgg305
 z70:=Tryz.sizeOf305
 v70:=Tryz.zeroValue305
 t76:=Tryz.underlying327
 a76:=Tryz.isAgg327
 z76:=Tryz.sizeOf327
 v76:=Tryz.zeroValue327
 t77:=Tryz.underlying242
 a77:=Tryz.isAgg242
 z77:=Tryz.sizeOf242
 v77:=Tryz.zeroValue242 }
end Go.Proofs
namespace Go.Proofs
open Go.Shelf Go.Proofs.YtijddijloelacaaGreat.Am
def Tryz.tW:Go.Shelf.Ren:=⟨fun|43=>142|n=>n,fun|0=>0|3=>3|4=>4|22=>103|23=>123|n=>n,fun|n=>n⟩
theorem Tryz.Rl:HE Tryz.prog Tryz.tW:={
 mixed:=by kernel_rfl
 f43:=⟨Tryz.f142.name,by decide,Tryz.func142.trans (congrArg some (by kernel_rfl))⟩
 t0:=Tryz.underlying0
 a0:=Tryz.isAgg0
 z0:=Tryz.sizeOf0
 v0:=Tryz.zeroValue0
 t3:=Tryz.underlying3
 a3:=Tryz.isAgg3
 z3:=Tryz.sizeOf3
 v3:=Tryz.zeroValue3
 t4:=Tryz.underlying4
 a4:=Tryz.isAgg4
 z4:=Tryz.sizeOf4
 v4:=Tryz.zeroValue4
 t22:=Tryz.underlying103
 a22:=Tryz.isAgg103
 z22:=Tryz.sizeOf103
 v22:=Tryz.zeroValue103 }
end Go.Proofs
namespace Go.Proofs.YtijddijloelacaaGreat
open Go.Proofs.YtijddijloelacaaGreat.Am Go.Sort Go.Proofs Go.Lib
variable [Inhabited cF]
variable {G:aK}
def Z8:List Nat:=[5,5,6,5,5,5,5,5,5,5,5,6,5,5,5,5,5,5,5,5,5,5,5,5,5,5,5,5]
theorem NC:br Tryz.prog 6 123=some Z8:=by kernel_rfl
theorem AO(x y:Ct):(x.n==y.n&&(x.d==y.d&&(x.p==y.p&&(((x.X.a:Nat):Int)==((y.X.a:Nat):Int)&&(((x.X.b:Nat):Int)==((y.X.b:Nat):Int)&&(((x.X.c:Nat):Int)==((y.X.c:Nat):Int)&&(((x.X.d:Nat):Int)==((y.X.d:Nat):Int)&&(((x.X.e:Nat):Int)==((y.X.e:Nat):Int)&&(((x.X.f:Nat):Int)==((y.X.f:Nat):Int)&&(((x.X.g:Nat):Int)==((y.X.g:Nat):Int)&&(((x.X.h:Nat):Int)==((y.X.h:Nat):Int)&&(x.q==y.q&&(((x.Y.a:Nat):Int)==((y.Y.a:Nat):Int)&&(((x.Y.b:Nat):Int)==((y.Y.b:Nat):Int)&&(((x.Y.c:Nat):Int)==((y.Y.c:Nat):Int)&&(((x.Y.d:Nat):Int)==((y.Y.d:Nat):Int)&&(((x.Y.e:Nat):Int)==((y.Y.e:Nat):Int)&&(((x.Y.f:Nat):Int)==((y.Y.f:Nat):Int)&&(((x.Y.g:Nat):Int)==((y.Y.g:Nat):Int)&&(((x.Y.h:Nat):Int)==((y.Y.h:Nat):Int)&&(((x.W.a:Nat):Int)==((y.W.a:Nat):Int)&&(((x.W.b:Nat):Int)==((y.W.b:Nat):Int)&&(((x.W.c:Nat):Int)==((y.W.c:Nat):Int)&&(((x.W.d:Nat):Int)==((y.W.d:Nat):Int)&&(((x.W.e:Nat):Int)==((y.W.e:Nat):Int)&&(((x.W.f:Nat):Int)==((y.W.f:Nat):Int)&&(((x.W.g:Nat):Int)==((y.W.g:Nat):Int)&&(((x.W.h:Nat):Int)==((y.W.h:Nat):Int)&&true))))))))))))))))))))))))))))=decide (x=y):=by
 obtain⟨n,d,p,q,⟨a1,a2,a3,a4,a5,a6,a7,a8⟩,⟨b1,b2,b3,b4,b5,b6,b7,b8⟩,⟨c1,c2,c3,c4,c5,c6,c7,c8⟩⟩:=x;obtain⟨n',d',p',q',⟨a1',XU,a3',a4',a5',a6',a7',a8'⟩,⟨b1',b2',b3',b4',b5',b6',b7',b8'⟩,⟨c1',c2',c3',c4',c5',c6',c7',c8'⟩⟩:=y;rw[Bool.eq_iff_iff];simp only[Bool.and_eq_true,beq_iff_eq,decide_eq_true_iff,Ct.mk.injEq,W8.mk.injEq,Int.natCast_inj,and_true,and_assoc];constructor
 ·rintro⟨h1,h2,h3,g1,g2,g3,g4,g5,g6,g7,g8,h4,k1,k2,k3,k4,k5,k6,k7,k8,l1,l2,l3,l4,l5,l6,l7,l8⟩;exact⟨h1,h2,h3,h4,g1,g2,g3,g4,g5,g6,g7,g8,k1,k2,k3,k4,k5,k6,k7,k8,l1,l2,l3,l4,l5,l6,l7,l8⟩
 ·rintro⟨h1,h2,h3,h4,g1,g2,g3,g4,g5,g6,g7,g8,k1,k2,k3,k4,k5,k6,k7,k8,l1,l2,l3,l4,l5,l6,l7,l8⟩;exact⟨h1,h2,h3,g1,g2,g3,g4,g5,g6,g7,g8,h4,k1,k2,k3,k4,k5,k6,k7,k8,l1,l2,l3,l4,l5,l6,l7,l8⟩
theorem Vh(x y:Ct):vh Z8 (bK yG x) (bK yG y) (decide (x=y)):=by
 rw[<-AO]
 refine 
  ⟨_,_,.inl ⟨rfl,_,_,_,rfl,rfl,rfl⟩,⟨_,_,.inl ⟨rfl,_,_,_,rfl,rfl,rfl⟩,⟨_,_,.inr (.inl ⟨rfl,_,_,rfl,rfl,rfl⟩),⟨_,_,.inl ⟨rfl,_,_,_,rfl,rfl,rfl⟩,⟨_,_,.inl ⟨rfl,_,_,_,rfl,rfl,rfl⟩,⟨_,_,.inl ⟨rfl,_,_,_,rfl,rfl,rfl⟩,⟨_,_,.inl ⟨rfl,_,_,_,rfl,rfl,rfl⟩,⟨_,_,.inl ⟨rfl,_,_,_,rfl,rfl,rfl⟩,⟨_,_,.inl ⟨rfl,_,_,_,rfl,rfl,rfl⟩,⟨_,_,.inl ⟨rfl,_,_,_,rfl,rfl,rfl⟩,⟨_,_,.inl ⟨rfl,_,_,_,rfl,rfl,rfl⟩,⟨_,_,.inr (.inl ⟨rfl,_,_,rfl,rfl,rfl⟩),⟨_,_,.inl ⟨rfl,_,_,_,rfl,rfl,rfl⟩,⟨_,_,.inl ⟨rfl,_,_,_,rfl,rfl,rfl⟩,⟨_,_,.inl ⟨rfl,_,_,_,rfl,rfl,rfl⟩,⟨_,_,.inl ⟨rfl,_,_,_,rfl,rfl,rfl⟩,⟨_,_,.inl ⟨rfl,_,_,_,rfl,rfl,rfl⟩,⟨_,_,.inl ⟨rfl,_,_,_,rfl,rfl,rfl⟩,⟨_,_,.inl ⟨rfl,_,_,_,rfl,rfl,rfl⟩,⟨_,_,.inl ⟨rfl,_,_,_,rfl,rfl,rfl⟩,⟨_,_,.inl ⟨rfl,_,_,_,rfl,rfl,rfl⟩,⟨_,_,.inl ⟨rfl,_,_,_,rfl,rfl,rfl⟩,⟨_,_,.inl ⟨rfl,_,_,_,rfl,rfl,rfl⟩,⟨_,_,.inl ⟨rfl,_,_,_,rfl,rfl,rfl⟩,⟨_,_,.inl ⟨rfl,_,_,_,rfl,rfl,rfl⟩,⟨_,_,.inl ⟨rfl,_,_,_,rfl,rfl,rfl⟩,⟨_,_,.inl ⟨rfl,_,_,_,rfl,rfl,rfl⟩,⟨_,_,.inl ⟨rfl,_,_,_,rfl,rfl,rfl⟩,rfl,rfl⟩,rfl⟩,rfl⟩,rfl⟩,rfl⟩,rfl⟩,rfl⟩,rfl⟩,rfl⟩,rfl⟩,rfl⟩,rfl⟩,rfl⟩,rfl⟩,rfl⟩,rfl⟩,rfl⟩,rfl⟩,rfl⟩,rfl⟩,rfl⟩,rfl⟩,rfl⟩,rfl⟩,rfl⟩,rfl⟩,rfl⟩,rfl⟩
theorem ND(l:List Value):xp Tryz.prog 123 l=.agg l.toArray:=by
 have h:Tryz.prog.underlying 123=_:=Tryz.underlying123;unfold xp;rw[h]
theorem w5(x y:Ct)(w:World)(op:BinOp)(X Y:Operand):(eqGuard op 123 X Y (.agg (bK yG x).toArray) (.agg (bK yG y).toArray)).run Tryz.prog w=.ok () w /\
  (binOp .eql 123 (.agg (bK yG x).toArray) (.agg (bK yG y).toArray)).run Tryz.prog w=.ok (.bool (decide (x=y))) w /\
  (binOp .neq 123 (.agg (bK yG x).toArray) (.agg (bK yG y).toArray)).run Tryz.prog w=.ok (.bool (!decide (x=y))) w:=by
 have Pn:6<=Tryz.prog.depth:=by unfold Program.depth Made.depth;omega
 have e2:(Op.equalIn 10000 123 (.agg (bK yG x).toArray) (.agg (bK yG y).toArray)).run Tryz.prog w=.ok (decide (x=y)) w:=by
  have:=gJ (P:=Tryz.prog) (w:=w) 6 123 Z8 _ _ _ (10000-6) NC (Vh x y);rw[ND,ND] at this;exact this
 have hg:Tryz.prog.eqGuardType Tryz.prog.depth 123=false:=by
  have:=gi (P:=Tryz.prog) 6 123 Z8 (Tryz.prog.depth-6) NC
  rwa [show 6+(Tryz.prog.depth-6)=Tryz.prog.depth by omega] at this
 refine⟨?_,?_,?_⟩
 ·unfold eqGuard;cases op<;>simp[hg]
 ·rw[run_eql_struct];simp[e2]
 ·rw[run_neq_struct];simp[e2]
theorem w6(z:Array Value):∀n,(Builtin.zeroCells z n).toList=(List.replicate n z.toList).flatten
 | 0=>by simp[Builtin.zeroCells]
 | n+1=>by
  have ih:=w6 z n;rw[List.replicate_succ',List.flatten_append,<-ih];unfold Builtin.zeroCells;simp only[Array.toList_map,Array.toList_range];rw[Nat.add_mul,Nat.one_mul,List.range_add,List.map_append,List.map_map]
  congr 1
  simp only[List.flatten_cons,List.flatten_nil,List.append_nil];apply List.ext_getElem
  ·simp
  ·intro j h1 h2;simp only[List.length_map,List.length_range] at h1;simp only[List.getElem_map,List.getElem_range,Function.comp];rw[Nat.mul_comm,Nat.mul_add_mod,Nat.mod_eq_of_lt h1];simp[getElem!_pos z j h1]
theorem HN(x:Ct):∀a∈yG x,qQ a:=by
 simp[yG,qQ]
theorem NF(dS:¬(default:cF).ns)(l:List Cu)(hl:l.length<=1000000)(h0:0<l.length):
  aM Tryz.prog G 140 [.own 1,.fn 141 []] [.ghost [.own 1,.aj,.aj],.row 123 28 l.length (cR qj l)] (.tup []) [.ghost [.own 1,.aj,.aj],.row 123 28 l.length (cR qj (fQ xn l))] :=
 aM.yo dS (ρ:=Tryz.oz) Tryz.FK 28 (by omega) (fun w=>by kernel_rfl) (fun w=>by kernel_rfl) qj (fun x=>HN x.1) (fun _=>rfl) xn FJ 141 [] rfl
  (fun x y=>NB (G:=G) x y) ⟨_,_,Tryz.func140,rfl,rfl⟩ 123 l hl h0
theorem Jy(l:List Ct)(hl:l.length<=1000000)(h0:0<l.length):
  aM Tryz.prog G 142 [.own 1] [.ghost [.own 1,.aj],.row 123 28 l.length (cR yG l)] (.own 1) [.ghost [.aj,.aj],.row 123 28 (dK l).length (cR yG (dK l))] :=
 aM.Dg (ρ:=Tryz.tW) Tryz.Rl 28 (by omega) (fun w=>by kernel_rfl) (fun w=>by kernel_rfl) yG HN (fun _=>rfl)
  (fun x y w=>(w5 x y w .eql default default).2.1) (fun x y w=>(w5 x y w .eql default default).2.2) (fun op a b x y w=>(w5 x y w op a b).1)
  ct0 _ Tryz.zeroValue123 (fun n=>by rw[w6,List.flatMap_def,List.map_replicate];rfl)
  ⟨_,_,Tryz.func142,rfl,rfl⟩ 123 l hl h0
theorem tX(l:List Cu):∀m,m<=l.length->compactUpTo (l.map (·.1)).toArray m=(compactUpTo l.toArray m).map (·.1)
 | 0,_=>by simp[compactUpTo]
 | m+1,h=>by
  rw[compactUpTo_succ,compactUpTo_succ,List.map_append,tX l m (by omega)]
  congr 1
  have g:∀i,i<l.length->(l.map (·.1)).toArray[i]! = (l.toArray[i]!).1:=fun i hi=>by
   rw[getElem!_pos _ _ (by simpa using hi),getElem!_pos _ _ (by simpa using hi)];simp
  have hk:keeps (l.map (·.1)).toArray m=keeps l.toArray m:=by
   unfold keeps;rw[decide_eq_decide,g m (by omega),g (m-1) (by omega)];constructor
   ·rintro(h|h)
    ·exact .inl h
    ·exact .inr fun e=>h (congrArg Subtype.val e)
   ·rintro(h|h)
    ·exact .inl h
    ·exact .inr fun e=>h (Subtype.ext e)
  rw[hk];split
  ·rw[g m (by omega)];rfl
  ·rfl
def xJ(l:List Cu):List Cu:=dK (fQ xn l)
theorem HO(l:List Cu)(i:Nat)(h:i<l.length):cR yG (l.map (·.1)) i=cR qj l i:=by
 unfold cR qj;simp[List.getD_eq_getElem?_getD,h]
theorem Rm(l:List Cu):dK (l.map (·.1))=(dK l).map (·.1):=by
 unfold dK;rw[List.length_map,tX l l.length (Nat.le_refl _)]
theorem Jz(dS:¬(default:cF).ns)(l:List Cu)(hl:l.length<=1000000)(h0:0<l.length):
  aM Tryz.prog G 95 [.own 1] [.ghost [.own 1,.aj],.row 123 28 l.length (jG l)] (.own 1) [.ghost [.aj,.aj],.row 123 28 (xJ l).length (jG (xJ l))]:=by
 have h1:=NF (G:=G) dS l hl h0;have hlen:=iY xn FJ l;have h2:=Jy (G:=G) ((fQ xn l).map (·.1)) (by simpa[hlen] using hl) (by simpa[hlen] using h0);rw[Rm] at h2;have e1:=HO (fQ xn l);have e2:=HO (dK (fQ xn l));rw[List.length_map,List.length_map,hlen] at h2;rw[hlen] at e1
 have h3:aM Tryz.prog G 142 [.own 1] [.ghost [.own 1,.aj],.row 123 28 l.length (cR qj (fQ xn l))] (.own 1) [.ghost [.aj,.aj],.row 123 28 (dK (fQ xn l)).length (cR yG ((dK (fQ xn l)).map (·.1)))]:=by
  refine aM.fit h2 rfl ?_;show eI _;(conv=>whnf)
  repeat (first|exact fa|((first|refine fb ?_|(refine And.intro ?_ ?_;rotate_left));conv=>whnf))
  all_goals first|exact Or.inl fun i hi=>(e1 i hi).symm
 unfold xJ;generalize cR yG ((dK (fQ xn l)).map (·.1))=r3 at *;generalize dK (fQ xn l)=L2 at *;refine aM.af ak Tryz.func95 rfl rfl _ rfl ?_;(conv=>whnf);repeat' ((first|refine st ?_|(refine⟨fun h=>?_,fun h=>?_⟩<;>try simp only[ae] at h)|(refine .inr (.inl ?_);(conv=>whnf);(first|refine⟨_,_,h1,?_⟩|refine⟨_,_,h3,?_⟩))|refine wf ?_|refine ao ?_|refine nn ?_|fail)<;>conv=>whnf)
 all_goals first|contradiction|exact Or.inl e2
end Go.Proofs.YtijddijloelacaaGreat
namespace Go.Proofs.YtijddijloelacaaGreat
open Go.Proofs.YtijddijloelacaaGreat.Am Go.Sort Go.Proofs
variable [Inhabited cF]
variable {G:aK}
theorem NG{α:Type}[Inhabited α](e:α->List Int)(L:List α)(x:α)(r:Nat->List A)(hr:r 0=(e x).map fun n=>.int .i64 n)(i:Nat)(hi:i<L.length+1):aO L.length (bW e L) r i=bW e (L++[x]) i:=by
 unfold aO;split
 ·rename_i h;have h:i<L.length:=Nat.le_of_ble_eq_true h;simp only[bW,List.getD_eq_getElem?_getD,List.getElem?_append_left h]
 ·rename_i h;have h:¬i<L.length:=fun h'=>by rw[show Nat.blt i L.length=true from Nat.ble_eq_true_of_le h'] at h;cases h
  have:i=L.length:=by omega
  subst this;simp[hr,bW,List.getD_eq_getElem?_getD]
theorem yI{α:Type}[Inhabited α]{L:List α}{i:Nat}(h:i<L.length):L.drop i=L.getD i default::L.drop (i+1):=by
 rw[List.drop_eq_getElem_cons h,List.getD_eq_getElem?_getD,List.getElem?_eq_getElem h];rfl
theorem JA(l:List Sg):(jh (sB l)).length<=l.length*l.length:=by
 have:=CJ (sB l);rw[wz] at this;exact this
theorem Ro(dS:¬(default:cF).ns)(l:List Sg)(h0:0<l.length)(hk:zq l=0):aa Tryz.prog G 92 [p9 l] (.tup [.sl (dT l).length 2 (bW Ar (dT l)),.int .i64 0]):=by
 have hc:=Hc (G:=G) l;rw[hk] at hc;have hb:aa Tryz.prog G 133 [p9 l] (.sl l.length 5 (bW SN (sB l))):=Qv (G:=G) dS l (wu hk).1 h0 (wu hk).2;have I6:=(wu hk).1;have hSl:=wz l;have hol:(jh (sB l)).length<=160000:=Nat.le_trans (JA l) (Nat.mul_le_mul I6 I6);have hpe:=Mg l;generalize hS:sB l=S at *;refine aa.af ak Tryz.func92 rfl rfl _ rfl ?_;(conv=>whnf);repeat' ((first|refine st ?_|(refine⟨fun h=>?_,fun h=>?_⟩<;>try simp only[ae] at h)|(refine .inl ?_;(conv=>whnf);(first|refine⟨_,hc,?_⟩|refine⟨_,hb,?_⟩))|refine wf ?_|refine ao ?_|refine nn ?_|fail)<;>conv=>whnf)
 ·exact absurd trivial h
 refine jB 5 76 2 rfl ?_;(conv=>whnf);refine ah (fun x:Nat×List Pr=>x.1<=l.length/\x.2++jh (S.drop x.1)=jh S) (fun x=>match x with|(i,cur)=>[(20,.int .i64 (i:Int)),(5,.own 0)]) (fun x=>match x with|(i,cur)=>[.row 76 2 cur.length (bW Ar cur)]) (fun x=>l.length-x.1) (0,[]) ⟨by omega,by simp⟩ ?_ ?_
 ·exact ff
 ·rintro⟨i,cur⟩ ⟨hi,hI⟩;simp only at hi hI;(conv=>whnf)
  repeat (first|(refine st ?_;conv=>whnf))
  refine⟨fun h=>?_,fun h=>?_⟩
  ·have h:=of_decide_eq_true h;have Bu:=yI (L:=S) (i:=i) (by omega);rw[Bu,jh] at hI;(conv=>whnf);repeat' ((first|refine st ?_|(refine⟨fun h=>?_,fun h=>?_⟩<;>try simp only[ae] at h)|refine wf ?_|refine ao ?_|refine nn ?_|fail)<;>conv=>whnf)
   refine ah (fun x:Nat×List Pr=>x.1<=l.length-(i+1)/\x.2++E6 (S.getD i default) (S.drop (i+1+x.1))=cur++E6 (S.getD i default) (S.drop (i+1))) (fun x=>match x with|(j,cur)=>[(30,.int .i64 (j:Int)),(5,.own 0)]) (fun x=>match x with|(j,cur)=>[.row 76 2 cur.length (bW Ar cur),.box 196 (Z2 (S.getD i default))]) (fun x=>l.length-(i+1)-x.1) (0,cur) ⟨by omega,rfl⟩ ?_ ?_
   ·exact ff
   ·rintro⟨j,cu⟩ ⟨hj,hJ⟩;simp only at hj hJ;(conv=>whnf)
    repeat (first|(refine st ?_;conv=>whnf))
    refine⟨fun h2=>?_,fun h2=>?_⟩
    ·have h2:=of_decide_eq_true h2;have hdr2:=yI (L:=S) (i:=i+1+j) (by omega);rw[hdr2,E6] at hJ
     have Iq:cu.length<=160000:=by
      have e1:=congrArg List.length hJ;have e2:=congrArg List.length hI;simp only[List.length_append] at e1 e2;omega
     have Z9:((i:Int)+1).toNat+(j:Int).toNat=i+1+j:=by omega
     have Vi:=UE (G:=G) (S.getD i default).at' (S.getD (i+1+j) default).at';(conv=>whnf);repeat' ((first|refine st ?_|(refine⟨fun h=>?_,fun h=>?_⟩<;>try simp only[ae] at h)|(refine .inl ?_;(conv=>whnf);refine⟨_,Vi,?_⟩)|refine wf ?_|refine ao ?_|refine nn ?_|fail)<;>conv=>whnf)
     ·rw[Z9] at h;rw[if_pos h,List.append_nil] at hJ;refine⟨(i+1,cu),⟨by show i+1<=l.length;omega,by show cu++jh (S.drop (i+1))=jh S;rw[hJ,List.append_assoc];exact hI⟩,(by show l.length-(i+1)<l.length-i;omega),?_⟩;exact ff
     ·rename_i g1 g2;rw[Z9] at g1 g2 h;rw[if_neg g1,if_pos (show SO (S.getD i default) (S.getD (i+1+j) default) from⟨g2,h⟩)] at hJ;refine⟨(j+1,cu++[wA (S.getD i default) (S.getD (i+1+j) default)]),⟨by show j+1<=l.length-(i+1);omega,by rw[<-hJ,List.append_assoc];rfl⟩,(by show l.length-(i+1)-(j+1)<l.length-(i+1)-j;omega),?_⟩;(conv=>whnf)
      repeat (first|exact fa|((first|refine fb ?_|(refine And.intro ?_ ?_;rotate_left));conv=>whnf))
      all_goals first|(refine Or.inl fun t ht=>?_;exact NG Ar cu (wA (S.getD i default) (S.getD (i+1+j) default)) _ rfl t ht)|(simp;done)
     ·rename_i g1 g2;rw[Z9] at g1 g2 h;rw[if_neg g1,if_neg (show ¬SO (S.getD i default) (S.getD (i+1+j) default) from fun q=>h q.2)] at hJ;refine⟨(j+1,cu),⟨by show j+1<=l.length-(i+1);omega,hJ⟩,(by show l.length-(i+1)-(j+1)<l.length-(i+1)-j;omega),?_⟩;exact ff
     ·rename_i g1;rw[Z9] at g1 h;rw[if_neg g1,if_neg (show ¬SO (S.getD i default) (S.getD (i+1+j) default) from fun q=>h q.1)] at hJ;refine⟨(j+1,cu),⟨by show j+1<=l.length-(i+1);omega,hJ⟩,(by show l.length-(i+1)-(j+1)<l.length-(i+1)-j;omega),?_⟩;exact ff
    ·have h2:=of_decide_eq_false h2;rw[List.drop_eq_nil_of_le (show S.length<=i+1+j by omega),E6,List.append_nil] at hJ;(conv=>whnf);repeat' ((first|refine st ?_|(refine⟨fun h=>?_,fun h=>?_⟩<;>try simp only[ae] at h)|refine wf ?_|refine ao ?_|refine nn ?_|fail)<;>conv=>whnf)
     refine⟨(i+1,cu),⟨by show i+1<=l.length;omega,by show cu++jh (S.drop (i+1))=jh S;rw[hJ,List.append_assoc];exact hI⟩,(by show l.length-(i+1)<l.length-i;omega),?_⟩;exact ff
  ·have h:=of_decide_eq_false h;have e:i=l.length:=by omega
   subst e;rw[List.drop_eq_nil_of_le (by omega),jh,List.append_nil] at hI;subst hI;by_cases hz:(jh S).length=0
   ·have D3:jh S=[]:=List.length_eq_zero_iff.1 hz;have Mp:dT l=[]:=by rw[<-hpe,D3,<-List.length_eq_zero_iff,iY pg mU];rfl
    rw[Mp];refine gL 0 ?_;(conv=>whnf);have hs:aa Tryz.prog G 135 [.sl (jh S).length 2 (bW Ar (jh S)),.fn 136 []] (.tup []):=by rw[hz];exact CI _
    repeat' ((first|refine st ?_|(refine⟨fun h=>?_,fun h=>?_⟩<;>try simp only[ae] at h)|(refine .inl ?_;(conv=>whnf);refine⟨_,hs,?_⟩)|refine wf ?_|refine ao ?_|refine nn ?_|fail)<;>conv=>whnf)
    exact⟨Or.inl fun i hi=>by omega,rfl⟩
   ·have hs:=Mj (G:=G) dS (jh S) (by omega) (by omega);rw[hpe] at hs;(conv=>whnf);repeat' ((first|refine st ?_|(refine⟨fun h=>?_,fun h=>?_⟩<;>try simp only[ae] at h)|(refine .inr (.inl ?_);(conv=>whnf);refine⟨_,_,hs,?_⟩)|refine wf ?_|refine ao ?_|refine nn ?_|fail)<;>conv=>whnf)
    refine⟨?_,Or.inl fun _ _=>rfl,rfl⟩;rw[<-hpe,iY pg mU]
theorem FL:aa Tryz.prog G 135 [.aC,.fn 136 []] (.tup []):=(CI (fun _=>[])).fit ⟨rfl,rfl⟩
theorem JB(l:List Sg)(h0:l.length=0):aa Tryz.prog G 92 [p9 l] (.tup [.aC,.int .i64 0]):=by
 have hc:=Hc (G:=G) l;have hk:zq l=0:=by unfold zq;rw[if_neg (show ¬400<l.length by omega),if_pos (show Be l from fun i hi=>by omega)]
 rw[hk] at hc;have hb:=Ja (G:=G) l h0;have hs:=FL (G:=G);refine aa.af ak Tryz.func92 rfl rfl _ rfl ?_;(conv=>whnf);repeat' ((first|refine st ?_|(refine⟨fun h=>?_,fun h=>?_⟩<;>try simp only[ae] at h)|(refine .inl ?_;(conv=>whnf);(first|refine⟨_,hc,?_⟩|refine⟨_,hb,?_⟩))|refine wf ?_|refine ao ?_|refine nn ?_|fail)<;>conv=>whnf)
 refine ah (fun _:Nat=>True) (fun _=>[(20,.int .i64 0),(5,.aC)]) (fun _=>[]) (fun _=>0) 0 trivial ?_ ?_
 ·exact ff
 ·intro k _;(conv=>whnf)
  repeat (first|(refine st ?_;conv=>whnf))
  refine⟨fun h=>?_,fun h=>?_⟩
  ·exact absurd (of_decide_eq_true h) (by decide)
  ·(conv=>whnf);repeat' ((first|refine st ?_|(refine⟨fun h=>?_,fun h=>?_⟩<;>try simp only[ae] at h)|(refine .inl ?_;(conv=>whnf);refine⟨_,hs,?_⟩)|refine wf ?_|refine ao ?_|refine nn ?_|fail)<;>conv=>whnf)
theorem Dr(l:List Sg)(i:Nat):∀n k,(um l i n k).length<=n
 | 0,k=>by simp[um]
 | n+1,k=>by
  have:=Dr l i n (k+1);rw[um,List.length_append];split<;>simp<;>omega
theorem Ds(l:List Sg):∀n i,(wE l n i).length<=n*l.length
 | 0,i=>by simp[wE]
 | n+1,i=>by
  have h1:=Dr l i (l.length-(i+1)) (i+1);have h2:=Ds l n (i+1);rw[wE,List.length_append,Nat.add_mul];omega
theorem Dt(l:List Sg):(dT l).length<=l.length*l.length:=Ds l l.length 0
theorem Rp{w1 w2 u v M m:Int}(h1:0<=w1)(h2:0<=w2)(u1:u<=M)(v1:v<=M)(u2:m<=u)(v2:m<=v):
  w1*u+w2*v<=(w1+w2)*M/\(w1+w2)*m<=w1*u+w2*v:=by
 have a1:=Int.mul_le_mul_of_nonneg_left u1 h1;have a2:=Int.mul_le_mul_of_nonneg_left v1 h2;have a3:=Int.mul_le_mul_of_nonneg_left u2 h1;have a4:=Int.mul_le_mul_of_nonneg_left v2 h2;rw[Int.add_mul,Int.add_mul];omega
/-- Two weighted means that are alike: their bounds meet. -/
theorem SZ{w1 w2 z1 z2 u v p q lu hu lp hp:Int}(hw:(0<w1/\0<w2/\0<z1/\0<z2)\/(w1<0/\w2<0/\z1<0/\z2<0))(hs:w1+w2=z1+z2)(he:w1*u+w2*v=z1*p+z2*q)
  (Kk:u<=hu) (D4:v<=hu) (Bb:lu<=u) (Kj:lu<=v) (hp1:p<=hp) (D8:q<=hp) (SR:lp<=p) (BB:lp<=q):lu<=hp/\lp<=hu:=by
 rcases hw with⟨h1,h2,h3,h4⟩|⟨h1,h2,h3,h4⟩
 ·obtain⟨a1,a2⟩:=Rp (M:=hu) (m:=lu) (Int.le_of_lt h1) (Int.le_of_lt h2) Kk D4 Bb Kj;obtain⟨a3,a4⟩:=Rp (M:=hp) (m:=lp) (Int.le_of_lt h3) (Int.le_of_lt h4) hp1 D8 SR BB;rw[<-hs] at a3 a4;exact⟨Int.le_of_mul_le_mul_left (a:=w1+w2) (by omega) (by omega),Int.le_of_mul_le_mul_left (a:=w1+w2) (by omega) (by omega)⟩
 ·obtain⟨a1,a2⟩:=Rp (w1:=-w1) (w2:=-w2) (M:=hu) (m:=lu) (by omega) (by omega) Kk D4 Bb Kj;obtain⟨a3,a4⟩:=Rp (w1:=-z1) (w2:=-z2) (M:=hp) (m:=lp) (by omega) (by omega) hp1 D8 SR BB;rw[show -z1 + -z2 = -w1 + -w2 by omega] at a3 a4;simp only[Int.neg_mul] at a1 a2 a3 a4;exact⟨Int.le_of_mul_le_mul_left (a:=-w1 + -w2) (by omega) (by omega),Int.le_of_mul_le_mul_left (a:=-w1 + -w2) (by omega) (by omega)⟩
theorem YY(ax ay bx Kc px py qx qy:Int):
  ((qx-px)*(ay-py)-(qy-py)*(ax-px))*bx+(-((qx-px)*(Kc-py)-(qy-py)*(bx-px)))*ax =
  ((bx-ax)*(qy-ay)-(Kc-ay)*(qx-ax))*px+(-((bx-ax)*(py-ay)-(Kc-ay)*(px-ax)))*qx:=by grind
theorem YZ(ax ay bx Kc px py qx qy:Int):
  ((qx-px)*(ay-py)-(qy-py)*(ax-px))*Kc+(-((qx-px)*(Kc-py)-(qy-py)*(bx-px)))*ay =
  ((bx-ax)*(qy-ay)-(Kc-ay)*(qx-ax))*py+(-((bx-ax)*(py-ay)-(Kc-ay)*(px-ax)))*qy:=by grind
theorem Y0(ax ay bx Kc px py qx qy:Int):
  ((qx-px)*(ay-py)-(qy-py)*(ax-px))+(-((qx-px)*(Kc-py)-(qy-py)*(bx-px))) =
  ((bx-ax)*(qy-ay)-(Kc-ay)*(qx-ax))+(-((bx-ax)*(py-ay)-(Kc-ay)*(px-ax))):=by grind
theorem FM{s t:Sg}(h1:GV (eP s.a s.b t.a) (eP s.a s.b t.b))(h2:GV (eP t.a t.b s.a) (eP t.a t.b s.b)):lX s t:=by
 have ex:eP t.a t.b s.a*s.b.x + -eP t.a t.b s.b*s.a.x=eP s.a s.b t.b*t.a.x + -eP s.a s.b t.a*t.b.x:=YY s.a.x s.a.y s.b.x s.b.y t.a.x t.a.y t.b.x t.b.y;have ey:eP t.a t.b s.a*s.b.y + -eP t.a t.b s.b*s.a.y=eP s.a s.b t.b*t.a.y + -eP s.a s.b t.a*t.b.y:=YZ s.a.x s.a.y s.b.x s.b.y t.a.x t.a.y t.b.x t.b.y;have es:eP t.a t.b s.a + -eP t.a t.b s.b=eP s.a s.b t.b + -eP s.a s.b t.a:=Y0 s.a.x s.a.y s.b.x s.b.y t.a.x t.a.y t.b.x t.b.y;generalize eP t.a t.b s.a=c1 at *;generalize eP t.a t.b s.b=c2 at *;generalize eP s.a s.b t.a=c3 at *;generalize eP s.a s.b t.b=c4 at *;have hw:(0<c1/\0 < -c2/\0<c4/\0 < -c3)\/(c1<0 /\ -c2<0/\c4<0 /\ -c3<0):=by unfold GV at h1 h2;omega
 have rx:=SZ (lu:=(gV s).x) (hu:=(dg s).x) (lp:=(gV t).x) (hp:=(dg t).x) hw es ex (by simp only[dg];omega) (by simp only[dg];omega) (by simp only[gV];omega) (by simp only[gV];omega) (by simp only[dg];omega) (by simp only[dg];omega) (by simp only[gV];omega) (by simp only[gV];omega);have ry:=SZ (lu:=(gV s).y) (hu:=(dg s).y) (lp:=(gV t).y) (hp:=(dg t).y) hw es ey (by simp only[dg];omega) (by simp only[dg];omega) (by simp only[gV];omega) (by simp only[gV];omega) (by simp only[dg];omega) (by simp only[dg];omega) (by simp only[gV];omega) (by simp only[gV];omega);exact⟨rx.1,rx.2,ry.1,ry.2⟩
theorem AP{s:Sg}{p:Pt}(h:jV s p):((gV s).x<=p.x/\p.x<=(dg s).x)/\(gV s).y<=p.y/\p.y<=(dg s).y:=(GU s p h.1.2.2 h.2.2.1).2 h.2.2.2
theorem FN{s t:Sg}(h:cM s t):lX s t:=by
 obtain⟨hs,ht,h⟩:=h;rcases h with h|h|h|h|⟨h1,h2⟩
 ·have:=AP h;simp only[lX,gV,dg] at *;omega
 ·have:=AP h;simp only[lX,gV,dg] at *;omega
 ·have:=AP h;simp only[lX,gV,dg] at *;omega
 ·have:=AP h;simp only[lX,gV,dg] at *;omega
 ·unfold gU at h1 h2;rw[if_pos (bF hs ht.1),if_pos (bF hs ht.2.1)] at h1;rw[if_pos (bF ht hs.1),if_pos (bF ht hs.2.1)] at h2;exact FM h1 h2
theorem aa.res{P:Program}{G:aK}{f:FuncId}{args:List A}{r r':A}(h:aa P G f args r)(hr:∀im w v,aA im w r v->aA im w r' v):aa P G f args r':=by
 refine⟨h.1,fun im w vs h1 h2 h3 h4=>?_⟩;refine bD (h.2 im w vs h1 h2 h3 h4) ?_;rintro e w' ⟨v,e1,e2,e3⟩;exact⟨v,e1,hr _ _ _ e2,e3⟩
theorem JC(dS:¬(default:cF).ns)(l:List Sg)(hk:zq l=0):aa Tryz.prog G 92 [p9 l] (.tup [.sl (dT l).length 2 (bW Ar (dT l)),.int .i64 0]):=by
 by_cases h0:l.length=0
 ·have hz:(dT l).length=0:=by have:=Dt l;rw[h0] at this;omega
  rw[hz];refine aa.res (JB l h0) fun im w v h=>?_;cases h with
  | tup _ vs hl hr =>
   refine .tup _ vs (by simpa using hl) fun j h h'=>?_
   match j,h with
   | 0,_ =>
    have:=hr 0 (by simp) h';show aA im w (.sl 0 2 _) vs[0];have this:aA im w .aC vs[0]:=this;generalize vs[0]=x at this;cases this;exact .uu _ _
   | 1,_=>exact hr 1 (by simp) h'
 ·exact Ro dS l (by omega) hk
def fY(s:Sg):List Cu:=[ox s 0 1,ox s 1 1]
theorem NH(L M:List Cu)(r:Nat->List A)(hr:∀i,i<M.length->r i=jG M i)(i:Nat)(hi:i<L.length+M.length):aO L.length (jG L) r i=jG (L++M) i:=by
 unfold aO;split
 ·rename_i h;have h:i<L.length:=Nat.le_of_ble_eq_true h;simp only[jG,List.getD_eq_getElem?_getD,List.getElem?_append_left h]
 ·rename_i h;have h:¬i<L.length:=fun h'=>by rw[show Nat.blt i L.length=true from Nat.ble_eq_true_of_le h'] at h;cases h
  rw[hr (i-L.length) (by omega)];simp only[jG,List.getD_eq_getElem?_getD,List.getElem?_append_right (show L.length<=i by omega)]
theorem Rq(s:Sg)(hL:bQ s):aM Tryz.prog G 93 [.agg (gZ s)] [] (.own 0) [.row 123 28 2 (jG (fY s))]:=by
 have h1:=u6 (G:=G) s 0 1 hL (by omega);have h2:=u6 (G:=G) s 1 1 hL (by omega);unfold fY;generalize ox s 0 1=c1 at *;generalize ox s 1 1=c2 at *;unfold qj at h1 h2;refine aM.af ak Tryz.func93 rfl rfl _ rfl ?_;(conv=>whnf);repeat' ((first|refine st ?_|(refine⟨fun h=>?_,fun h=>?_⟩<;>try simp only[ae] at h)|(refine .inl ?_;(conv=>whnf);(first|refine⟨_,h1,?_⟩|refine⟨_,h2,?_⟩))|refine wf ?_|refine ao ?_|refine nn ?_|fail)<;>conv=>whnf)
 all_goals (refine Or.inl fun i hi=>?_;rcases i with _|_|_|_|i<;>first|rfl|omega)
theorem u9(s t:Sg):(oy s t).length<=2:=by unfold oy;split<;>(try split)<;>simp
theorem jo(a:Nat):(ck a).length=4:=rfl
theorem NI(a b:Cu):aa Tryz.prog G 222 [.agg (qj a),.agg (qj b)] (.sb (decide (gN a b))):=by
 obtain⟨a,ha⟩:=a;obtain⟨b,hb⟩:=b;unfold gN HM qj;simp only;obtain⟨n,d,p,q,X,Y,W,rfl⟩:=oX a;obtain⟨n',d',p',q',X',Y',W',rfl⟩:=oX b;unfold w4 at ha hb;simp only at ha hb ⊢;obtain⟨N,rfl⟩:∃N:Nat,n=N:=⟨n.toNat,by omega⟩;obtain⟨D,rfl⟩:∃D:Nat,d=D:=⟨d.toNat,by omega⟩;obtain⟨N',rfl⟩:∃N:Nat,n'=N:=⟨n'.toNat,by omega⟩;obtain⟨D',rfl⟩:∃D:Nat,d'=D:=⟨d'.toNat,by omega⟩;simp only[Int.toNat_natCast];have d1:aa Tryz.prog G 158 [.int .u64 (IntKind.u64.wrap (N:Int))] (fS (ck N)):=by rw[dI N (by omega)];exact ji N (by omega)
 have d2:aa Tryz.prog G 158 [.int .u64 (IntKind.u64.wrap (D:Int))] (fS (ck D)):=by rw[dI D (by omega)];exact ji D (by omega)
 have d3:aa Tryz.prog G 158 [.int .u64 (IntKind.u64.wrap (N':Int))] (fS (ck N')):=by rw[dI N' (by omega)];exact ji N' (by omega)
 have d4:aa Tryz.prog G 158 [.int .u64 (IntKind.u64.wrap (D':Int))] (fS (ck D')):=by rw[dI D' (by omega)];exact ji D' (by omega)
 have o1:=kX (a:=N) (by omega);have o2:=kX (a:=D) (by omega);have o3:=kX (a:=N') (by omega);have o4:=kX (a:=D') (by omega);have v1:=gv (a:=N) (by omega);have v2:=gv (a:=D) (by omega);have v3:=gv (a:=N') (by omega);have v4:=gv (a:=D') (by omega);have t1:=uR (G:=G) (ck N) (ck D') o1 o4 (by rw[jo];omega) (by rw[jo];omega);have t2:=uR (G:=G) (ck N') (ck D) o3 o2 (by rw[jo];omega) (by rw[jo];omega);have l1:=mW o1 o4;have l2:=mW o3 o2;have k:=sQ (G:=G) (fI (ck N) (ck D')) (fI (ck N') (ck D)) (oS o1 o4) (oS o3 o2) (by rw[iQ,jo,jo];omega) (by rw[iQ,jo,jo];omega);rw[l1,l2,v1,v2,v3,v4] at k;clear l1 l2 v1 v2 v3 v4 o1 o2 o3 o4;generalize fI (ck N) (ck D')=T1 at *;generalize fI (ck N') (ck D)=T2 at *;generalize ck N=G1 at *;generalize ck D=G2 at *;generalize ck N'=G3 at *;generalize ck D'=G4 at *;obtain⟨bb,su⟩:∃bb,bb=decide (N*D'<N'*D):=⟨_,rfl⟩;rw[<-su] at k;refine aa.af ak Tryz.func222 rfl rfl _ rfl ?_;(conv=>whnf);repeat' ((first|refine st ?_|(refine⟨fun h=>?_,fun h=>?_⟩<;>try simp only[ae] at h)|(refine .inl ?_;(conv=>whnf);(first|refine⟨_,d1,?_⟩|refine⟨_,d2,?_⟩|refine⟨_,d3,?_⟩|refine⟨_,d4,?_⟩|refine⟨_,t1,?_⟩|refine⟨_,t2,?_⟩|refine⟨_,k,?_⟩))|refine wf ?_|refine ao ?_|refine nn ?_|fail)<;>conv=>whnf)
 all_goals first|contradiction|exact su
theorem Rr(l:List Cu)(c:Cu)(a:Nat)(ha:a<=l.length)(r0 r1 rC:Nat->List A)(hc:rC 0=qj c):∀i,i<0+(a-0)+1+(0+(l.length-a)) ->
  aO (0+(a-0)+1) (aO (0+(a-0)) (aO 0 r0 (fun i=>jG l (0+i))) rC) (aO 0 r1 (fun i=>jG l (a+i))) i=jG (l.take a++c::l.drop a) i:=by
 intro i hi;have lt:∀(n:Nat) (f g:Nat->List A) (k:Nat),k<n->aO n f g k=f k:=fun n f g k h=>by unfold aO;rw[show Nat.blt k n=true from Nat.ble_eq_true_of_le h]
 have ge:∀(n:Nat) (f g:Nat->List A) (k:Nat),n<=k->aO n f g k=g (k-n):=fun n f g k h=>by
  unfold aO;split
  ·rename_i h';have:k<n:=Nat.le_of_ble_eq_true h';omega
  ·rfl
 have hl:(l.take a).length=a:=by rw[List.length_take];omega
 unfold jG;rcases Nat.lt_trichotomy i a with h|h|h
 ·rw[lt _ _ _ _ (by omega),lt _ _ _ _ (by omega),ge _ _ _ _ (by omega)];rw[List.getD_eq_getElem?_getD,List.getD_eq_getElem?_getD,List.getElem?_append_left (by omega),List.getElem?_take,if_pos h];simp
 ·subst h;rw[lt _ _ _ _ (by omega),ge _ _ _ _ (by omega)];rw[List.getD_eq_getElem?_getD,List.getElem?_append_right (by omega),hl];simp[hc]
 ·rw[ge _ _ _ _ (by omega),ge _ _ _ _ (by omega)];rw[List.getD_eq_getElem?_getD,List.getD_eq_getElem?_getD,List.getElem?_append_right (by omega),hl];have e:i-a=(i-(a+1))+1:=by omega
  rw[e,List.getElem?_cons_succ,List.getElem?_drop];simp
theorem FO(l:List Cu)(c:Cu)(hl:l.length<=1000):aa Tryz.prog G 156 [kv l,.agg (qj c)] (kv (jn gN l c)):=by
 refine aa.af ak Tryz.func156 rfl rfl _ rfl ?_;(conv=>whnf)
 repeat (first|(refine st ?_;conv=>whnf))
 refine ah (fun i:Nat=>i<=l.length/\∀j,j<i->l.getD j default≠c) (fun i=>[(6,.int .i64 (i:Int)),(5,.int .i64 (nv gN l c i:Nat))]) (fun _=>[.box 123 (qj c)]) (fun i=>l.length-i) 0 ⟨Nat.zero_le _,fun _ h=>absurd h (Nat.not_lt_zero _)⟩ ?_ ?_
 ·conv=>whnf
  repeat (first|exact fa|((first|refine fb ?_|(refine And.intro ?_ ?_;rotate_left));conv=>whnf))
 ·rintro i ⟨hi,hne⟩;have ha:=NI (G:=G) (l.getD i default) c;(conv=>whnf);repeat' ((first|refine st ?_|(refine⟨fun h=>?_,fun h=>?_⟩<;>try simp only[ae] at h)|(refine .inl ?_;(conv=>whnf);refine⟨_,ha,?_⟩)|refine wf ?_|refine ao ?_|refine nn ?_|fail)<;>conv=>whnf)
  ·have hx:(l.getD i default).1=c.1:=of_decide_eq_true ((AO (l.getD i default).1 c.1).symm.trans h);have hx:l.getD i default=c:=Subtype.ext hx;have aH:i<l.length:=by omega
   have e:jn gN l c=l:=by
    unfold jn;rw[if_pos (by rw[<-hx,List.getD_eq_getElem?_getD,List.getElem?_eq_getElem aH];exact List.getElem_mem _)]
   rw[e];exact⟨rfl,Or.inl fun _ _=>rfl⟩
  ·have hx:l.getD i default≠c:=fun e=>by
    have e1:(l.getD i default).1=c.1:=by rw[e]
    refine Bool.noConfusion (show false=true from Eq.trans (Eq.symm ?_) ((AO (l.getD i default).1 c.1).trans (decide_eq_true e1)))
    assumption
   have ea:nv gN l c (i+1)=i+1:=by unfold nv;rw[if_pos h]
   refine⟨i+1,⟨(by show i+1<=l.length;omega),fun j hj=>?_⟩,(by show l.length-(i+1)<l.length-i;omega),?_⟩
   ·rcases Nat.lt_or_ge j i with q|q
    ·exact hne j q
    ·have:j=i:=by omega
     subst this;exact hx
   ·conv=>whnf
    repeat (first|exact fa|((first|refine fb ?_|(refine And.intro ?_ ?_;rotate_left));conv=>whnf))
    all_goals (rw[ea];omega)
  ·have hx:l.getD i default≠c:=fun e=>by
    have e1:(l.getD i default).1=c.1:=by rw[e]
    refine Bool.noConfusion (show false=true from Eq.trans (Eq.symm ?_) ((AO (l.getD i default).1 c.1).trans (decide_eq_true e1)))
    assumption
   have ea:nv gN l c (i+1)=nv gN l c i:=by show(if _ then _ else _)=_;rw[if_neg h]
   refine⟨i+1,⟨(by show i+1<=l.length;omega),fun j hj=>?_⟩,(by show l.length-(i+1)<l.length-i;omega),?_⟩
   ·rcases Nat.lt_or_ge j i with q|q
    ·exact hne j q
    ·have:j=i:=by omega
     subst this;exact hx
   ·conv=>whnf
    repeat (first|exact fa|((first|refine fb ?_|(refine And.intro ?_ ?_;rotate_left));conv=>whnf))
    all_goals rw[ea]
  ·have e:i=l.length:=by omega
   subst e;have hle:=mZ (R:=gN) l c l.length
   have hnm:c∉l:=fun hm=>by
    obtain⟨j,hj,e⟩:=List.getElem_of_mem hm;exact hne j hj (by rw[List.getD_eq_getElem?_getD,List.getElem?_eq_getElem hj];exact e)
   have ep:jn gN l c=l.take (nv gN l c l.length)++c::l.drop (nv gN l c l.length):=by unfold jn;rw[if_neg hnm]
   rw[ep];generalize nv gN l c l.length=a at *;repeat' ((first|refine st ?_|(refine⟨fun h=>?_,fun h=>?_⟩<;>try simp only[ae] at h)|refine wf ?_|refine ao ?_|refine nn ?_|fail)<;>conv=>whnf)
   all_goals first|exact Or.inl (Rr l c a hle _ _ _ rfl)|(simp;omega)
def tY(l:List Sg):Nat->List Cu:=fun i=>fY (l.getD i default)
def xK(l:List Sg)(O:Nat->List Cu)(i k:Nat):Nat->List Cu:=iO O i (O i++oy (l.getD i default) (l.getD k default))
def Z'(l:List Sg)(O:Nat->List Cu)(i k:Nat):Nat->List Cu:=xK l (xK l O i k) k i
def yJ(l:List Sg):Nat->Nat->List Cu
 | 0=>tY l
 | k+1=>Z' l (yJ l k) ((dT l).getD k default).i.toNat ((dT l).getD k default).k.toNat
def WE(l:List Sg)(i:Nat):List Cu:=xJ (yJ l (dT l).length i)
def ly(n:Nat)(F:Nat->List Cu):A:=.sl n 1 (fun i=>[kv (F i)])
def rF(n:Nat)(F:Nat->List Cu):ar:=.nest 103 123 28 n none (fun i=>(F i).length) (fun i=>jG (F i))
theorem Du(l:List Sg)(O:Nat->List Cu)(i k j:Nat):(O j).length<=(xK l O i k j).length/\(xK l O i k j).length<=(O j).length+2:=by
 unfold xK iO;have:=u9 (l.getD i default) (l.getD k default);split
 ·rename_i e;subst e;rw[List.length_append];omega
 ·omega
theorem AQ(l:List Sg)(j:Nat):∀k,2<=(yJ l k j).length/\(yJ l k j).length<=2+4*k
 | 0=>⟨Nat.le_refl _,Nat.le_refl _⟩
 | k+1=>by
  have h:=AQ l j k;unfold yJ Z';generalize ((dT l).getD k default).i.toNat=i;generalize ((dT l).getD k default).k.toNat=m;have h1:=Du l (yJ l k) i m j;have h2:=Du l (xK l (yJ l k) i m) m i j;omega
theorem w7(l:List Sg)(k:Nat)(h:k<(dT l).length):∃i m:Nat,(dT l).getD k default=⟨i,m⟩/\i<m/\m<l.length:=by
 have hm:(dT l).getD k default∈dT l:=by rw[List.getD_eq_getElem?_getD,List.getElem?_eq_getElem h];exact List.getElem_mem _
 generalize (dT l).getD k default=p at *;unfold dT at hm;obtain⟨i,_,h2,h3⟩:=(nV l p _ _).1 hm;obtain⟨m,h4,h5,_,rfl⟩:=(iF l i p _ _).1 h3;exact⟨i,m,rfl,by omega,by omega⟩
theorem JD(l:List Sg)(k:Nat):∀i,i<k+1->ug k (fun i=>(tY l i).length) (fun _=>2) i=(tY l i).length /\
  ∀j,j<ug k (fun i=>(tY l i).length) (fun _=>2) i->ug k (fun i=>jG (tY l i)) (fun _=>jG (fY (l.getD k default))) i j=jG (tY l i) j:=by
 intro i hi;rcases Nat.lt_or_ge i k with h|h
 ·rw[mM _ _ h,mM _ _ h];exact⟨rfl,fun _ _=>rfl⟩
 ·have:i=k:=by omega
  subst this;rw[mN _ _ h,mN _ _ h];exact⟨rfl,fun _ _=>rfl⟩
def Bg(l:List Sg)(k:Nat):Nat->List Cu:=fun i=>if i<k then WE l i else yJ l (dT l).length i
theorem w9(l:List Sg)(k:Nat):Bg l k k=yJ l (dT l).length k:=if_neg (Nat.lt_irrefl k)
theorem NJ(l:List Sg)(k:Nat)(v:Nat):Bg l (k+1) v=if v=k then xJ (Bg l k k) else Bg l k v:=by
 rw[w9];unfold Bg;by_cases h:v=k
 ·subst h;rw[if_pos (by omega),if_pos rfl];rfl
 ·rw[if_neg h];by_cases h2:v<k
  ·rw[if_pos (by omega),if_pos h2]
  ·rw[if_neg (by omega),if_neg h2]
theorem NK(l:List Sg)(k v:Nat):iO (fun i=>(Bg l k i).length) (k:Int).toNat (xJ (Bg l k k)).length v=(Bg l (k+1) v).length /\
  ∀j,j<iO (fun i=>(Bg l k i).length) (k:Int).toNat (xJ (Bg l k k)).length v->iO (fun i=>jG (Bg l k i)) (k:Int).toNat (jG (xJ (Bg l k k))) v j=jG (Bg l (k+1) v) j:=by
 rw[NJ,Int.toNat_natCast];unfold iO;by_cases h:v=k
 ·subst h;simp only[if_pos];exact⟨trivial,fun _ _=>trivial⟩
 ·simp only[if_neg h];exact⟨trivial,fun _ _=>trivial⟩
/-- Lengths and rows stand for lists. -/
def Vj(F:Nat->Nat)(R:Nat->Nat->List A)(O:Nat->List Cu):Prop:=∀v,F v=(O v).length/\∀j,j<F v->R v j=jG (O v) j
theorem NL(O:Nat->List Cu):Vj (fun i=>(O i).length) (fun i=>jG (O i)) O:=fun _=>⟨rfl,fun _ _=>rfl⟩
theorem HP{F:Nat->Nat}{R:Nat->Nat->List A}{O:Nat->List Cu}(h:Vj F R O)(l:List Sg)(i k:Nat):
  Vj (iO F i (F i+(oy (l.getD i default) (l.getD k default)).length)) (iO R i (aO (F i) (R i) (jG (oy (l.getD i default) (l.getD k default))))) (xK l O i k):=by
 intro v;unfold xK;by_cases hv:v=i
 ·subst hv;simp only[iO,if_pos];obtain⟨h1,h2⟩:=h v;refine⟨by rw[List.length_append,h1],fun j hj=>?_⟩;have hc:=NH (O v) (oy (l.getD v default) (l.getD k default)) (jG (oy (l.getD v default) (l.getD k default))) (fun _ _=>rfl) j (by omega);rw[<-hc];unfold aO;rw[h1];split
  ·rename_i hb;exact h2 j (by have:=Nat.le_of_ble_eq_true hb;omega)
  ·rfl
 ·simp only[iO,if_neg hv];exact h v
theorem Vk(dS:¬(default:cF).ns)(l:List Sg)(hk:zq l=0)(F:Nat->List Cu)(hF:∀i,i<l.length->F i=WE l i):aa Tryz.prog G 45 [p9 l] (.tup [ly l.length F,.int .i64 0]):=by
 have h2:=JC (G:=G) dS l hk;have hlen:=(wu hk).1;have zj:=(wu hk).2;have GO:=Dt l;have hrl2:l.length*l.length<=400*400:=Nat.mul_le_mul hlen hlen;refine aa.af ak Tryz.func45 rfl rfl _ rfl ?_;(conv=>whnf);repeat' ((first|(contradiction)|refine st ?_|(refine⟨fun h=>?_,fun h=>?_⟩<;>try simp only[ae] at h)|(refine .inl ?_;(conv=>whnf);refine⟨_,h2,?_⟩)|refine wf ?_|refine ao ?_|refine nn ?_|fail)<;>conv=>whnf)
 all_goals first|contradiction|(exfalso;omega)|skip
 refine jB 6 103 1 rfl ?_;(conv=>whnf)
 repeat (first|(refine st ?_;conv=>whnf))
 refine P9 0 123 28 rfl (fun _ h=>absurd h (Nat.not_lt_zero _)) ?_;(conv=>whnf)
 repeat (first|(refine st ?_;conv=>whnf))
 refine ah (fun k:Nat=>k<=l.length) (fun k=>[(24,.int .i64 (k:Int)),(6,.own 0)]) (fun k=>[rF k (tY l)]) (fun k=>l.length-k) 0 (Nat.zero_le _) ?_ ?_
 ·unfold rF;(conv=>whnf)
  repeat (first|exact fa|((first|refine fb ?_|(refine And.intro ?_ ?_;rotate_left));conv=>whnf))
  exact fun i h=>absurd h (Nat.not_lt_zero _)
 ·intro k gF;unfold rF;have he:=fun h:k<l.length=>Rq (G:=G) (l.getD k default) (zj k h);(conv=>whnf)
  repeat (first|(refine st ?_;conv=>whnf))
  refine⟨fun h=>?_,fun h=>?_⟩
  ·have h:=of_decide_eq_true h;have he:=he (by omega);(conv=>whnf);repeat' ((first|refine st ?_|(refine⟨fun h=>?_,fun h=>?_⟩<;>try simp only[ae] at h)|((first|refine .inr (.inr (.inr ?_))|refine .inr ?_);(conv=>whnf);refine⟨_,_,he,?_⟩)|refine wf ?_|refine ao ?_|refine nn ?_|fail)<;>conv=>whnf)
   refine⟨k+1,(by show k+1<=l.length;omega),(by show l.length-(k+1)<l.length-k;omega),?_⟩;(conv=>whnf)
   repeat (first|exact fa|((first|refine fb ?_|(refine And.intro ?_ ?_;rotate_left));conv=>whnf))
   exact JD l k
  ·have h:=of_decide_eq_false h;have e:k=l.length:=by omega
   subst e;(conv=>whnf);repeat' ((first|refine st ?_|(refine⟨fun h=>?_,fun h=>?_⟩<;>try simp only[ae] at h)|refine wf ?_|refine ao ?_|refine nn ?_|fail)<;>conv=>whnf)
   refine ah (fun k:Nat=>k<=(dT l).length) (fun k=>[(36,.int .i64 (k:Int))]) (fun k=>[rF l.length (yJ l k)]) (fun k=>(dT l).length-k) 0 (Nat.zero_le _) ?_ ?_
   ·unfold rF;(conv=>whnf)
    repeat (first|exact fa|((first|refine fb ?_|(refine And.intro ?_ ?_;rotate_left));conv=>whnf))
    all_goals first|exact fun i _=>⟨rfl,fun _ _=>rfl⟩
   ·intro k Xl;unfold rF;(conv=>whnf)
    repeat (first|(refine st ?_;conv=>whnf))
    refine⟨fun h=>?_,fun h=>?_⟩
    ·have h:=of_decide_eq_true h;have hk:k<(dT l).length:=by omega
     obtain⟨i,m,e,pk,qv⟩:=w7 l k hk;have oI:=SY (G:=G) (l.getD i default) (l.getD m default);have mr:=SY (G:=G) (l.getD m default) (l.getD i default);have ei:((dT l).getD (k:Int).toNat default).i=(i:Int):=by rw[Int.toNat_natCast,e]
     have em:((dT l).getD (k:Int).toNat default).k=(m:Int):=by rw[Int.toNat_natCast,e]
     have ho:=fun j=>AQ l j k;have Yg:=ho i;have ZZ:=ho m;have hy1:=u9 (l.getD i default) (l.getD m default);have Iz:=u9 (l.getD m default) (l.getD i default)
     have hup:iO (fun i=>(yJ l k i).length) (i:Int).toNat ((fun i=>(yJ l k i).length) (i:Int).toNat+(oy (l.getD i default) (l.getD m default)).length) (m:Int).toNat<=2+4*k:=by
      have hne:¬(m:Int).toNat=(i:Int).toNat:=by omega
      unfold iO;rw[if_neg hne];exact(ho _).2
     have ho3:=ho (i:Int).toNat;(conv=>whnf)
     iterate 5 (first|(refine st ?_;conv=>whnf))
     refine And.intro ⟨by omega,by omega⟩ ?_;(conv=>whnf);rw[ei,em];repeat' ((first|(refine qN (id:=14) [(7,1)] ak mixed ?_)|(refine qN (id:=15) [(7,1)] ak mixed ?_)|refine st ?_|(refine⟨fun h=>?_,fun h=>?_⟩<;>try simp only[ae] at h)|(refine .inl ?_;(conv=>whnf);(first|refine⟨_,oI,?_⟩|refine⟨_,mr,?_⟩))|refine wf ?_|refine ao ?_|refine nn ?_|fail)<;>conv=>whnf)
     have rY:yJ l (k+1)=Z' l (yJ l k) i m:=by
      rw[yJ,e];rfl
     refine⟨k+1,(by show k+1<=(dT l).length;omega),(by show(dT l).length-(k+1)<(dT l).length-k;omega),?_⟩;(conv=>whnf)
     repeat (first|exact fa|((first|refine fb ?_|(refine And.intro ?_ ?_;rotate_left));conv=>whnf))
     rw[rY];exact fun v _=>HP (HP (NL (yJ l k)) l i m) l m i v
    ·have h:=of_decide_eq_false h;have e:k=(dT l).length:=by omega
     subst e;(conv=>whnf);repeat' ((first|refine st ?_|(refine⟨fun h=>?_,fun h=>?_⟩<;>try simp only[ae] at h)|refine wf ?_|refine ao ?_|refine nn ?_|fail)<;>conv=>whnf)
     refine ah (fun k:Nat=>k<=l.length) (fun k=>[(79,.int .i64 (k:Int))]) (fun k=>[rF l.length (Bg l k)]) (fun k=>l.length-k) 0 (Nat.zero_le _) ?_ ?_
     ·unfold rF;(conv=>whnf)
      repeat (first|exact fa|((first|refine fb ?_|(refine And.intro ?_ ?_;rotate_left));conv=>whnf))
      all_goals first|exact fun i _=>⟨rfl,fun _ _=>rfl⟩
     ·intro k gF;unfold rF;have hol:=AQ l k (dT l).length;have hs:=Jz (G:=G) dS (Bg l k k) (by rw[w9];omega) (by rw[w9];omega);(conv=>whnf);repeat' ((first|refine st ?_|(refine⟨fun h=>?_,fun h=>?_⟩<;>try simp only[ae] at h)|(refine .inr (.inl ?_);(conv=>whnf);refine⟨_,_,hs,?_⟩)|refine wf ?_|refine ao ?_|refine nn ?_|fail)<;>conv=>whnf)
      ·refine⟨k+1,(by show k+1<=l.length;omega),(by show l.length-(k+1)<l.length-k;omega),?_⟩;(conv=>whnf)
       repeat (first|exact fa|((first|refine fb ?_|(refine And.intro ?_ ?_;rotate_left));conv=>whnf))
       exact fun v _=>NK l k v
      ·have e:k=l.length:=by omega
       subst e;refine⟨Or.inl fun i hi=>?_,rfl⟩;have ej:Bg l l.length i=WE l i:=if_pos hi;show[A.sl (Bg l l.length i).length 28 (jG (Bg l l.length i))]=[kv (F i)];rw[hF i hi,ej];rfl
end Go.Proofs.YtijddijloelacaaGreat
namespace Go.Proofs.YtijddijloelacaaGreat
open Go.Proofs.YtijddijloelacaaGreat.Am Go.Sort Go.Proofs Go.Lib
variable [Inhabited cF]
theorem u'(n d:Int):Nat.gcd (cG n d).toNat (bJ n d).toNat=1:=by
 unfold cG bJ;by_cases h:sW n d
 ·rw[if_pos h,if_pos h];rfl
 ·rw[if_neg h,if_neg h,Int.toNat_natCast,Int.toNat_natCast];have hp:0<gP n d:=Nat.gcd_pos_of_pos_right _ (by unfold sW at h;omega);exact Nat.coprime_iff_gcd_eq_one.1 (Nat.coprime_div_gcd_div_gcd hp)
theorem HQ{a b c d:Nat}(h1:Nat.gcd a b=1)(h2:Nat.gcd c d=1)(h:a*d=c*b):a=c/\b=d:=by
 have e1:b ∣ d:=by
  have:b ∣ d*a:=⟨c,by rw[Nat.mul_comm d a,h,Nat.mul_comm]⟩;exact Nat.Coprime.dvd_of_dvd_mul_right (show Nat.Coprime b a by rw[Nat.coprime_iff_gcd_eq_one,Nat.gcd_comm];exact h1) this
 have e2:d ∣ b:=by
  have:d ∣ b*c:=⟨a,by rw[Nat.mul_comm b c,<-h,Nat.mul_comm]⟩;exact Nat.Coprime.dvd_of_dvd_mul_right (show Nat.Coprime d c by rw[Nat.coprime_iff_gcd_eq_one,Nat.gcd_comm];exact h2) this
 have e:=Nat.dvd_antisymm e1 e2;subst e;refine⟨?_,rfl⟩;rcases Nat.eq_zero_or_pos b with hb|hb
 ·subst hb;rw[Nat.gcd_zero_right] at h1 h2;omega
 ·exact Nat.eq_of_mul_eq_mul_right hb h
def Dv(s:Sg)(c:Cu):Prop:=∃n d,d<=9223372036854775807/\c=ox s n d
theorem NM{s:Sg}{n d n' d':Int}(h:d<=9223372036854775807)(h':d'<=9223372036854775807)(e1:cG n d=cG n' d')(e2:bJ n d=bJ n' d'):ox s n d=ox s n' d':=by
 apply Subtype.ext;rw[eo h,eo h'];unfold Dp;rw[e1,e2]
theorem NN{s:Sg}{a b:Cu}(ha:Dv s a)(hb:Dv s b)(h1:¬gN a b)(h2:¬gN b a):a=b:=by
 obtain⟨n,d,hd,rfl⟩:=ha;obtain⟨n',d',gS,rfl⟩:=hb;unfold gN HM at h1 h2;rw[eo hd,eo gS] at h1 h2;simp only[Dp,YV] at h1 h2;obtain⟨a1,a2,a3,a4⟩:=lx n d hd;obtain⟨b1,b2,b3,b4⟩:=lx n' d' gS;obtain⟨e1,e2⟩:=HQ (u' n d) (u' n' d') (by omega);exact NM hd gS (by omega) (by omega)
theorem FP(s t:Sg):∀x∈oy s t,Dv s x:=by
 intro x hx;unfold oy at hx;split at hx
 ·rename_i hk;obtain⟨_,_,_,_,_,_,hd,_⟩:=qc s t hk;rw[List.mem_singleton.1 hx];exact⟨_,_,hd,rfl⟩
 ·split at hx
  ·simp only[List.mem_cons,List.not_mem_nil,or_false] at hx;rcases hx with rfl|rfl
   ·exact⟨_,_,rE _ _ _,rfl⟩
   ·exact⟨_,_,rE _ _ _,rfl⟩
  ·cases hx
theorem HR(s:Sg):∀x∈fY s,Dv s x:=by
 intro x hx;unfold fY at hx;simp only[List.mem_cons,List.not_mem_nil,or_false] at hx;rcases hx with rfl|rfl
 ·exact⟨0,1,by omega,rfl⟩
 ·exact⟨1,1,by omega,rfl⟩
theorem HT(s:Sg):gN (ox s 0 1) (ox s 1 1):=by
 unfold gN HM;rw[eo (by omega),eo (by omega)];simp only[Dp,YV];decide
theorem AR(a:Cu):¬gN a a:=by unfold gN;omega
theorem Rs(a b:Cu)(h1:gN a b)(h2:gN b a):False:=by unfold gN at *;omega
theorem Dw(s:Sg):(fY s).Pairwise gN:=by
 unfold fY;refine List.pairwise_cons.2 ⟨fun x hx=>?_,by simp⟩;rw[List.mem_singleton.1 hx];exact HT s
/-- What is sorted, each once: strict, the same cuts. -/
theorem Dx{s:Sg}(L:List Cu)(h:∀x∈L,Dv s x):(xJ L).Pairwise gN/\∀x,x∈xJ L↔x∈L:=by
 obtain⟨hp,hs⟩:=du xn FJ L;have hlen:=hp.length_eq;have hm:∀x∈fQ xn L,Dv s x:=fun x hx=>h x (hp.mem_iff.1 hx)
 obtain⟨c1,c2⟩:=ot (R:=gN) (fQ xn L) sY (fun i j lB hj hr=>by
  have:=hs i j lB (by omega);rw[(FF _ _).2 hr] at this;exact Bool.noConfusion this) (fun x hx y hy=>NN (hm x hx) (hm y hy)) (fQ xn L).length (Nat.le_refl _)
 refine⟨c1,fun x=>?_⟩;show x∈compactUpTo _ _↔_;rw[c2,<-hp.mem_iff];constructor
 ·rintro⟨i,hi,rfl⟩;rw[List.getD_eq_getElem?_getD,List.getElem?_eq_getElem hi];exact List.getElem_mem _
 ·intro hx;obtain⟨i,hi,e⟩:=List.getElem_of_mem hx;exact⟨i,hi,by rw[List.getD_eq_getElem?_getD,List.getElem?_eq_getElem hi];exact e⟩
theorem Dy{s:Sg}:∀(M L:List Cu),L.Pairwise gN->(∀x∈L,Dv s x)->(∀x∈M,Dv s x)->(M.foldl (jn gN) L).Pairwise gN/\(∀x,x∈M.foldl (jn gN) L↔x∈L\/x∈M)
 | [],L,h,_,_=>⟨h,fun x=>by simp⟩
 | c::M,L,h,hL,hM=>by
  have hc:=hM c (List.mem_cons_self ..);obtain⟨p1,p2⟩:=wX sY L c h (fun x hx=>NN (hL x hx) hc)
  have Z0:∀x∈jn gN L c,Dv s x:=fun x hx=>by
   rcases (p2 x).1 hx with rfl|h
   ·exact hc
   ·exact hL x h
  obtain⟨q1,q2⟩:=Dy M (jn gN L c) p1 Z0 (fun x hx=>hM x (List.mem_cons_of_mem _ hx));refine⟨q1,fun x=>?_⟩;rw[List.foldl_cons,q2,p2,List.mem_cons];constructor
  ·rintro((h|h)|h)
   ·exact .inr (.inl h)
   ·exact .inl h
   ·exact .inr (.inr h)
  ·rintro(h|h|h)
   ·exact .inl (.inr h)
   ·exact .inl (.inl h)
   ·exact .inr h
def eJ(s:Sg)(l:List Sg)(qk:Int):Nat->List Cu
 | 0=>fY s
 | k+1=>if (k:Int)=qk then eJ s l qk k else (oy s (l.getD k default)).foldl (jn gN) (eJ s l qk k)
theorem fV(s:Sg)(l:List Sg)(qk:Int):∀k,(eJ s l qk k).Pairwise gN/\(∀x∈eJ s l qk k,Dv s x)/\∀x,x∈eJ s l qk k↔x∈fY s\/∃j,j<k/\(j:Int)≠qk/\x∈oy s (l.getD j default)
 | 0=>⟨Dw s,HR s,fun x=>by simp[eJ]⟩
 | k+1=>by
  obtain⟨h1,h2,h3⟩:=fV s l qk k;unfold eJ;by_cases hk:(k:Int)=qk
  ·rw[if_pos hk];refine⟨h1,h2,fun x=>?_⟩;rw[h3];constructor
   ·rintro(h|⟨j,a,b,c⟩)
    ·exact .inl h
    ·exact .inr ⟨j,by omega,b,c⟩
   ·rintro(h|⟨j,a,b,c⟩)
    ·exact .inl h
    ·exact .inr ⟨j,by omega,b,c⟩
  ·rw[if_neg hk];obtain⟨q1,q2⟩:=Dy (oy s (l.getD k default)) _ h1 h2 (FP s _);refine⟨q1,fun x hx=>?_,fun x=>?_⟩
   ·rcases (q2 x).1 hx with h|h
    ·exact h2 x h
    ·exact FP s _ x h
   ·rw[q2,h3];constructor
    ·rintro((h|⟨j,a,b,c⟩)|h)
     ·exact .inl h
     ·exact .inr ⟨j,by omega,b,c⟩
     ·exact .inr ⟨k,by omega,hk,h⟩
    ·rintro(h|⟨j,a,b,c⟩)
     ·exact .inl (.inl h)
     ·rcases Nat.lt_or_ge j k with q|q
      ·exact .inl (.inr ⟨j,q,b,c⟩)
      ·have:j=k:=by omega
       subst this;exact .inr c
theorem Dz(l:List Sg)(O:Nat->List Cu)(a b i:Nat)(x:Cu):x∈xK l O a b i↔x∈O i\/(i=a/\x∈oy (l.getD a default) (l.getD b default)):=by
 unfold xK iO;by_cases h:i=a
 ·subst h;rw[if_pos rfl,List.mem_append];simp
 ·rw[if_neg h];simp[h]
theorem AS(l:List Sg)(i:Nat)(x:Cu):∀k,k<=(dT l).length->(x∈yJ l k i↔x∈fY (l.getD i default)\/∃j m:Nat,j<k/\((dT l).getD j default=⟨i,m⟩\/(dT l).getD j default=⟨m,i⟩)/\x∈oy (l.getD i default) (l.getD m default))
 | 0,_=>by simp[yJ,tY]
 | k+1,h=>by
  obtain⟨a,b,e,BI,hb⟩:=w7 l k (by omega);unfold yJ Z';rw[e];simp only[Int.toNat_natCast];rw[Dz,Dz,AS l i x k (by omega)];constructor
  ·rintro(((h|⟨j,m,h1,h2,h3⟩)|⟨rfl,h⟩)|⟨rfl,h⟩)
   ·exact .inl h
   ·exact .inr ⟨j,m,by omega,h2,h3⟩
   ·exact .inr ⟨k,b,by omega,.inl e,h⟩
   ·exact .inr ⟨k,a,by omega,.inr e,h⟩
  ·rintro(h|⟨j,m,h1,h2,h3⟩)
   ·exact .inl (.inl (.inl h))
   ·rcases Nat.lt_or_ge j k with q|q
    ·exact .inl (.inl (.inr ⟨j,m,q,h2,h3⟩))
    ·have:j=k:=by omega
     subst this;rw[e] at h2;simp only[Pr.mk.injEq,Int.natCast_inj] at h2;rcases h2 with⟨rfl,rfl⟩|⟨rfl,rfl⟩
     ·exact .inl (.inr ⟨rfl,h3⟩)
     ·exact .inr ⟨rfl,h3⟩
theorem JE{s t:Sg}(h:lX s t):lX t s:=⟨h.2.1,h.1,h.2.2.2,h.2.2.1⟩
theorem NO{s t:Sg}{x:Cu}(h:x∈oy s t):lX s t:=by
 refine FN ((pZ s t).1 fun h0=>?_);unfold oy at h;rw[if_neg (by omega),if_neg (by omega)] at h;cases h
theorem of_eq(l:List Sg)(i:Nat)(hi:i<l.length):WE l i=eJ (l.getD i default) l i l.length:=by
 have Si:∀x∈yJ l (dT l).length i,Dv (l.getD i default) x:=fun x hx=>by
  rcases (AS l i x _ (Nat.le_refl _)).1 hx with h|⟨_,_,_,_,h⟩
  ·exact HR _ x h
  ·exact FP _ _ x h
 obtain⟨a1,a2⟩:=Dx _ Si;obtain⟨b1,_,b2⟩:=fV (l.getD i default) l i l.length;refine sT AR Rs _ _ a1 b1 fun x=>?_;unfold WE;rw[a2,b2,AS l i x _ (Nat.le_refl _)];constructor
 ·rintro(h|⟨j,m,h1,h2,h3⟩)
  ·exact .inl h
  ·obtain⟨a,b,e,BI,hb⟩:=w7 l j h1;rw[e] at h2;simp only[Pr.mk.injEq,Int.natCast_inj] at h2;exact .inr ⟨m,by omega,by omega,h3⟩
 ·rintro(h|⟨m,h1,h2,h3⟩)
  ·exact .inl h
  ·refine .inr ?_;have hn:=NO h3
   have key:∀a b:Nat,a<b->b<l.length->lX (l.getD a default) (l.getD b default)->∃j,j<(dT l).length/\(dT l).getD j default=⟨a,b⟩:=fun a b BI hb hnr=>by
    have hm:(⟨a,b⟩:Pr)∈dT l:=by
     unfold dT;exact(nV l _ _ _).2 ⟨a,Nat.zero_le _,by omega,(iF l a _ _ _).2 ⟨b,by omega,by omega,hnr,rfl⟩⟩
    obtain⟨j,hj,e⟩:=List.getElem_of_mem hm;exact⟨j,hj,by rw[List.getD_eq_getElem?_getD,List.getElem?_eq_getElem hj];exact e⟩
   rcases Nat.lt_or_ge i m with q|q
   ·obtain⟨j,hj,e⟩:=key i m q h1 hn;exact⟨j,m,hj,.inl e,h3⟩
   ·obtain⟨j,hj,e⟩:=key m i (by omega) hi (JE hn);exact⟨j,m,hj,.inr e,h3⟩
theorem AU{a b:Nat}(ha:a<65536 ^ 32)(hb:b<65536 ^ 32)(h:w8 (wW a)=w8 (wW b)):a=b:=by
 rw[<-dh ha,<-dh hb,cP (bS a),cP (bS b)];unfold w8 at h;simp only[W8.mk.injEq] at h;obtain⟨h0,h1,h2,h3,h4,h5,h6,h7⟩:=h;rw[h0,h1,h2,h3,h4,h5,h6,h7]
theorem DA{a b:Int}(h1:a.natAbs=b.natAbs)(h2:decide (a<0)=decide (b<0)):a=b:=by
 have:=decide_eq_decide.1 h2;omega
theorem Rt{x y:Ct}(h:FE x=FE y):x.p=y.p/\x.q=y.q/\x.X=y.X/\x.Y=y.Y/\x.W=y.W:=by
 obtain⟨n,d,p,q,⟨a1,a2,a3,a4,a5,a6,a7,a8⟩,⟨b1,b2,b3,b4,b5,b6,b7,b8⟩,⟨c1,c2,c3,c4,c5,c6,c7,c8⟩⟩:=x;obtain⟨n',d',p',q',⟨a1',XU,a3',a4',a5',a6',a7',a8'⟩,⟨b1',b2',b3',b4',b5',b6',b7',b8'⟩,⟨c1',c2',c3',c4',c5',c6',c7',c8'⟩⟩:=y;simp only[FE,List.cons.injEq,A.sb.injEq,A.int.injEq,true_and,Int.natCast_inj,and_true] at h;simp only[W8.mk.injEq];obtain⟨h3,g1,g2,g3,g4,g5,g6,g7,g8,h4,k1,k2,k3,k4,k5,k6,k7,k8,l1,l2,l3,l4,l5,l6,l7,l8⟩:=h;exact⟨h3,h4,⟨g1,g2,g3,g4,g5,g6,g7,g8⟩,⟨k1,k2,k3,k4,k5,k6,k7,k8⟩,l1,l2,l3,l4,l5,l6,l7,l8⟩
theorem yK{n d:Int}(hd:d<=9223372036854775807){s:Sg}(hL:bQ s):∃(X Y:Int) (W g:Nat),0<g/\xS s (cG n d) (bJ n d)=X*g/\yS s (cG n d) (bJ n d)=Y*g/\(bJ n d).toNat=W*g /\
  (Dp s n d).p=decide (X<0)/\(Dp s n d).q=decide (Y<0)/\(Dp s n d).X=w8 (wW X.natAbs)/\(Dp s n d).Y=w8 (wW Y.natAbs)/\(Dp s n d).W=w8 (wW W)/\X.natAbs<65536 ^ 32/\Y.natAbs<65536 ^ 32/\W<65536 ^ 32:=by
 obtain⟨l1,l2,l3,l4⟩:=lx n d hd;obtain⟨⟨ax,ay⟩,⟨bx,E2⟩,_⟩:=hL;have b1:=rp ax bx ⟨l1,l2⟩ l4;have b2:=rp ay E2 ⟨l1,l2⟩ l4
 have hN:=Dd b1 b2 (show 0<(bJ n d).toNat by omega) (by omega);have hg:=AG (x:=s.a.x*bJ n d+(s.b.x-s.a.x)*cG n d) (y:=s.a.y*bJ n d+(s.b.y-s.a.y)*cG n d) (show 0<(bJ n d).toNat by omega);obtain⟨g1,g2,g3⟩:=U6 (s.a.x*bJ n d+(s.b.x-s.a.x)*cG n d) (s.a.y*bJ n d+(s.b.y-s.a.y)*cG n d) (bJ n d).toNat;have NP:(2:Nat) ^ 119<65536 ^ 32:=by decide
 refine⟨_,_,_,_,hg,(Nd g1).symm,(Nd g2).symm,(Nat.div_mul_cancel g3).symm,rfl,rfl,rfl,rfl,rfl,?_,?_,?_⟩
 ·exact Nat.lt_trans hN.2.1 NP
 ·exact Nat.lt_trans hN.2.2.1 NP
 ·have h5:=hN.2.2.2.2;have:(18446744073709551616:Nat)<65536 ^ 32:=by decide
  omega
theorem NQ{ax ux n d n' d' X g W g':Int}(h1:ax*d+ux*n=X*g)(h2:ax*d'+ux*n'=X*g')(hd:d=W*g)(gS:d'=W*g'):ux*(n*d'-n'*d)=0:=by
 have e:ux*(n*d'-n'*d)=(ax*d+ux*n)*d'-(ax*d'+ux*n')*d:=by grind
 rw[e,h1,h2,hd,gS];grind
theorem JF{s:Sg}(hL:bQ s){a b:Cu}(ha:Dv s a)(hb:Dv s b)(h:FE a.1=FE b.1):a=b:=by
 obtain⟨n,d,hd,rfl⟩:=ha;obtain⟨n',d',gS,rfl⟩:=hb;rw[eo hd,eo gS] at h;obtain⟨e1,e2,e3,e4,e5⟩:=Rt h;obtain⟨X,Y,W,g,hg,x1,x2,x3,c1,c2,c3,c4,c5,d1,d2,d3⟩:=yK (n:=n) hd hL;obtain⟨X',Y',W',g',hg',x1',x2',x3',c1',c2',c3',c4',c5',d1',d2',d3'⟩:=yK (n:=n') gS hL;rw[c1,c1'] at e1;rw[c2,c2'] at e2;rw[c3,c3'] at e3;rw[c4,c4'] at e4;rw[c5,c5'] at e5;obtain rfl:=DA (AU d1 d1' e3) e1;obtain rfl:=DA (AU d2 d2' e4) e2;obtain rfl:=AU d3 d3' e5;obtain⟨l1,l2,l3,l4⟩:=lx n d hd;obtain⟨m1,m2,m3,m4⟩:=lx n' d' gS
 have f1:bJ n d=(W:Int)*g:=by
  have:((bJ n d).toNat:Int)=(W:Int)*g:=by rw[x3];exact Int.natCast_mul _ _
  omega
 have f2:bJ n' d'=(W:Int)*g':=by
  have:((bJ n' d').toNat:Int)=(W:Int)*g':=by rw[x3'];exact Int.natCast_mul _ _
  omega
 have z1:=NQ x1 x1' f1 f2;have z2:=NQ x2 x2' f1 f2
 have hz:cG n d*bJ n' d'=cG n' d'*bJ n d:=by
  rcases Int.mul_eq_zero.1 z1 with h|h
  ·rcases Int.mul_eq_zero.1 z2 with h'|h'
   ·exact absurd ⟨h,h'⟩ (uL hL)
   ·omega
  ·omega
 have Mp:(cG n d).toNat*(bJ n' d').toNat=(cG n' d').toNat*(bJ n d).toNat:=by
  have:(((cG n d).toNat*(bJ n' d').toNat:Nat):Int)=(((cG n' d').toNat*(bJ n d).toNat:Nat):Int):=by
   rw[Int.natCast_mul,Int.natCast_mul,Int.toNat_of_nonneg l1,Int.toNat_of_nonneg (by omega:0<=bJ n' d'),Int.toNat_of_nonneg m1,Int.toNat_of_nonneg (by omega:0<=bJ n d)];exact hz
  exact_mod_cast this
 obtain⟨p1,p2⟩:=HQ (u' n d) (u' n' d') Mp;exact NM hd gS (by omega) (by omega)
theorem gB{L:List Cu}{i:Nat}(h:i<L.length):L.getD i default=L[i]:=by rw[List.getD_eq_getElem?_getD,List.getElem?_eq_getElem h];rfl
theorem JG{s:Sg}{L:List Cu}(hp:L.Pairwise gN)(hm:ox s 0 1∈L):L.getD 0 default=ox s 0 1:=by
 obtain⟨j,hj,e⟩:=List.getElem_of_mem hm;rcases Nat.eq_zero_or_pos j with h0|h0
 ·subst h0;rw[gB hj,e]
 ·exfalso;have:=List.pairwise_iff_getElem.1 hp 0 j (by omega) hj h0;rw[e] at this;unfold gN HM at this;rw[eo (by omega)] at this;have e0:(Dp s 0 1).n.toNat=0:=show(cG 0 1).toNat=0 by decide
  rw[e0,Nat.zero_mul] at this;omega
theorem NR{s:Sg}{L:List Cu}(hp:L.Pairwise gN)(hm:ox s 1 1∈L):L.getD (L.length-1) default=ox s 1 1:=by
 obtain⟨j,hj,e⟩:=List.getElem_of_mem hm;rcases Nat.lt_or_ge j (L.length-1) with h0|h0
 ·exfalso;have:=List.pairwise_iff_getElem.1 hp j (L.length-1) hj (by omega) h0;rw[e] at this;have hg:=L[L.length-1].2;generalize L[L.length-1]=c at *;unfold gN HM at this;rw[eo (by omega)] at this;have e0:(Dp s 1 1).n.toNat=1:=show(cG 1 1).toNat=1 by decide
  have e1:(Dp s 1 1).d.toNat=1:=show(bJ 1 1).toNat=1 by decide
  rw[e0,e1] at this;unfold w4 at hg;omega
 ·have:j=L.length-1:=by omega
  subst this;rw[gB hj,e]
end Go.Proofs.YtijddijloelacaaGreat
namespace Go.Proofs.YtijddijloelacaaGreat
open Go.Proofs.YtijddijloelacaaGreat.Am Go.Sort Go.Proofs Go.Lib
variable [Inhabited cF]
variable {G:aK}
theorem Ru(L:List Cu)(c:Cu):(jn gN L c).length<=L.length+1:=by
 unfold jn;split
 ·omega
 ·simp;omega
theorem xa(s:Sg)(l:List Sg)(qk:Int):∀k,(eJ s l qk k).length<=2+2*k
 | 0=>Nat.le_refl _
 | k+1=>by
  have h1:=xa s l qk k;have h2:=u9 s (l.getD k default)
  have h3:∀(M L:List Cu),(M.foldl (jn gN) L).length<=L.length+M.length:=by
   intro M
   induction M with
   | nil=>intro L;simp
   | cons c M ih =>
    intro L;have:=ih (jn gN L c)
    have hp:(jn gN L c).length<=L.length+1:=by
     unfold jn;split
     ·omega
     ·simp;omega
    rw[List.foldl_cons,List.length_cons];omega
  unfold eJ;split
  ·omega
  ·have:=h3 (oy s (l.getD k default)) (eJ s l qk k);omega
theorem Rv(s:Sg)(l:List Sg)(qk:Int)(hL:bQ s)(hl:l.length<=400):aa Tryz.prog G 104 [.agg (gZ s),p9 l,.int .i64 qk] (kv (eJ s l qk l.length)):=by
 have h1:=u7 (G:=G) s 0 1 hL (by omega);have h2:=u7 (G:=G) s 1 1 hL (by omega);unfold qj at h1 h2;refine aa.af ak Tryz.func104 rfl rfl _ rfl ?_;(conv=>whnf);repeat' (first|refine bo ?_|refine aG ?_|((first|refine aB ak ?_|refine aS ak mixed ?_|refine aR ?_|refine aP ?_|refine aQ ?_|refine bp ?_);conv=>whnf)|(refine And.intro (fun h=>?_) (fun h=>?_)<;>(try simp only[ae] at h)<;>conv=>whnf)|(refine Or.inl ?_;(conv=>whnf);refine⟨_,h1,?_⟩;conv=>whnf)|(refine Or.inr (Or.inr (Or.inl ?_));(conv=>whnf);refine⟨_,h1,?_⟩;conv=>whnf)|(refine Exists.intro _ (And.intro (h1) ?_);conv=>whnf)|(refine Or.inl ?_;(conv=>whnf);refine⟨_,h2,?_⟩;conv=>whnf)|(refine Or.inr (Or.inr (Or.inl ?_));(conv=>whnf);refine⟨_,h2,?_⟩;conv=>whnf)|(refine Exists.intro _ (And.intro (h2) ?_);conv=>whnf)|(refine bB ?_ ?_;(focus (first|exact bC (by omega)|exact aV (by omega)|exact cy (by omega)|exact bG (by omega)|exact bH (by omega)));conv=>whnf)|((first|refine aY ?_|(refine And.intro (a:=bf _ _=true) ?_ ?_;(focus kernel_rfl))|refine And.intro rfl ?_|(refine And.intro ?_ ?_;(focus (first|omega|decide|(dsimp only;omega)|(simp at *;omega)))));conv=>whnf))
 refine gL 1 ?_;(conv=>whnf);repeat' (first|refine bo ?_|refine aG ?_|((first|refine aB ak ?_|refine aS ak mixed ?_|refine aR ?_|refine aP ?_|refine aQ ?_|refine bp ?_);conv=>whnf)|(refine And.intro (fun h=>?_) (fun h=>?_)<;>(try simp only[ae] at h)<;>conv=>whnf)|(refine bB ?_ ?_;(focus (first|exact bC (by omega)|exact aV (by omega)|exact cy (by omega)|exact bG (by omega)|exact bH (by omega)));conv=>whnf)|((first|refine aY ?_|(refine And.intro (a:=bf _ _=true) ?_ ?_;(focus kernel_rfl))|refine And.intro rfl ?_|(refine And.intro ?_ ?_;(focus (first|omega|decide|(dsimp only;omega)|(simp at *;omega)))));conv=>whnf))
 refine ah (fun k:Nat=>k<=l.length) (fun k=>[(8,.int .i64 (k:Int)),(7,kv (eJ s l qk k))]) (fun _=>[.box 60 (gZ s)]) (fun k=>l.length-k) 0 (Nat.zero_le _) ?_ ?_
 ·conv=>whnf
  repeat (first|exact rfl|exact trivial|exact Or.inl (fun _ _=>rfl)|exact(fun _=>rfl)|exact(fun _ _=>rfl)|exact Or.inl (fun _ hi=>absurd hi (Nat.not_lt_zero _))|((first|refine And.intro rfl ?_|refine And.intro (Or.inl (fun _ _=>rfl)) ?_|refine And.intro (fun _=>rfl) ?_|refine And.intro (fun _ _=>rfl) ?_|(refine And.intro ?_ ?_;rotate_left));conv=>whnf))
  all_goals (refine Or.inl fun i hi=>?_;rcases i with _|_|_|_|i<;>first|rfl|omega)
 ·intro k hk;have hm:=Yl (G:=G) s (l.getD k default);have hlen:=xa s l qk k;have pw:eJ s l qk (k+1)=if (k:Int)=qk then eJ s l qk k else (oy s (l.getD k default)).foldl (jn gN) (eJ s l qk k):=rfl
  obtain⟨L,Vl⟩:∃L,eJ s l qk k=L:=⟨_,rfl⟩;rw[Vl] at hlen pw ⊢;rcases yH s (l.getD k default) with S0|Bm|nu
  ·have e:oy s (l.getD k default)=[]:=by unfold oy;rw[if_neg (by omega),if_neg (by omega)]
   rw[e] at pw;generalize aT s (l.getD k default)=m at *;obtain⟨kk,n,mm,d,p,q⟩:=m;simp only at S0;subst S0;have pw:eJ s l qk (k+1)=if (k:Int)=qk then L else L:=pw
   (conv=>whnf);repeat' (first|refine bo ?_|refine aG ?_|((first|refine aB ak ?_|refine aS ak mixed ?_|refine aR ?_|refine aP ?_|refine aQ ?_|refine bp ?_);conv=>whnf)|(refine And.intro (fun h=>?_) (fun h=>?_)<;>(try simp only[ae] at h)<;>conv=>whnf)|(refine Or.inl ?_;(conv=>whnf);refine⟨_,hm,?_⟩;conv=>whnf)|(refine Or.inr (Or.inr (Or.inl ?_));(conv=>whnf);refine⟨_,hm,?_⟩;conv=>whnf)|(refine Exists.intro _ (And.intro (hm) ?_);conv=>whnf)|(refine bB ?_ ?_;(focus (first|exact bC (by omega)|exact aV (by omega)|exact cy (by omega)|exact bG (by omega)|exact bH (by omega)));conv=>whnf)|((first|refine aY ?_|(refine And.intro (a:=bf _ _=true) ?_ ?_;(focus kernel_rfl))|refine And.intro rfl ?_|(refine And.intro ?_ ?_;(focus (first|omega|decide|(dsimp only;omega)|(simp at *;omega)))));conv=>whnf))
   all_goals first|contradiction|(exfalso;omega)|skip
   ·rename_i Y3;rw[if_pos (by assumption)] at pw;refine⟨k+1,(by show k+1<=l.length;omega),(by show l.length-(k+1)<l.length-k;omega),?_⟩;(conv=>whnf)
    repeat (first|exact rfl|exact trivial|exact Or.inl (fun _ _=>rfl)|exact(fun _=>rfl)|exact(fun _ _=>rfl)|exact Or.inl (fun _ hi=>absurd hi (Nat.not_lt_zero _))|((first|refine And.intro rfl ?_|refine And.intro (Or.inl (fun _ _=>rfl)) ?_|refine And.intro (fun _=>rfl) ?_|refine And.intro (fun _ _=>rfl) ?_|(refine And.intro ?_ ?_;rotate_left));conv=>whnf))
    all_goals (rw[pw];try first|rfl|exact Or.inl fun _ _=>rfl|exact⟨rfl,Or.inl fun _ _=>rfl⟩)
   ·rw[if_neg (by assumption)] at pw;refine⟨k+1,(by show k+1<=l.length;omega),(by show l.length-(k+1)<l.length-k;omega),?_⟩;(conv=>whnf)
    repeat (first|exact rfl|exact trivial|exact Or.inl (fun _ _=>rfl)|exact(fun _=>rfl)|exact(fun _ _=>rfl)|exact Or.inl (fun _ hi=>absurd hi (Nat.not_lt_zero _))|((first|refine And.intro rfl ?_|refine And.intro (Or.inl (fun _ _=>rfl)) ?_|refine And.intro (fun _=>rfl) ?_|refine And.intro (fun _ _=>rfl) ?_|(refine And.intro ?_ ?_;rotate_left));conv=>whnf))
    all_goals (rw[pw];try first|rfl|exact Or.inl fun _ _=>rfl|exact⟨rfl,Or.inl fun _ _=>rfl⟩)
   ·have ek:k=l.length:=by omega
    subst ek;exact⟨by rw[Vl],Or.inl fun _ _=>by rw[Vl]⟩
  ·have e:oy s (l.getD k default)=[ox s (aT s (l.getD k default)).n (aT s (l.getD k default)).d]:=by unfold oy;rw[if_pos Bm]
   rw[e] at pw;obtain⟨_,_,_,_,_,_,hd,_⟩:=qc s _ Bm;have g1:=u7 (G:=G) s (aT s (l.getD k default)).n (aT s (l.getD k default)).d hL hd;have g2:=FO (G:=G) L (ox s (aT s (l.getD k default)).n (aT s (l.getD k default)).d) (by omega);generalize ox s (aT s (l.getD k default)).n (aT s (l.getD k default)).d=c at *;unfold qj at g1 g2;generalize aT s (l.getD k default)=m at *;obtain⟨kk,n,mm,d,p,q⟩:=m;simp only at Bm;subst Bm;have pw:eJ s l qk (k+1)=if (k:Int)=qk then L else jn gN L c:=pw
   (conv=>whnf);repeat' (first|refine bo ?_|refine aG ?_|((first|refine aB ak ?_|refine aS ak mixed ?_|refine aR ?_|refine aP ?_|refine aQ ?_|refine bp ?_);conv=>whnf)|(refine And.intro (fun h=>?_) (fun h=>?_)<;>(try simp only[ae] at h)<;>conv=>whnf)|(refine Or.inl ?_;(conv=>whnf);refine⟨_,hm,?_⟩;conv=>whnf)|(refine Or.inr (Or.inr (Or.inl ?_));(conv=>whnf);refine⟨_,hm,?_⟩;conv=>whnf)|(refine Exists.intro _ (And.intro (hm) ?_);conv=>whnf)|(refine Or.inl ?_;(conv=>whnf);refine⟨_,g1,?_⟩;conv=>whnf)|(refine Or.inr (Or.inr (Or.inl ?_));(conv=>whnf);refine⟨_,g1,?_⟩;conv=>whnf)|(refine Exists.intro _ (And.intro (g1) ?_);conv=>whnf)|(refine Or.inl ?_;(conv=>whnf);refine⟨_,g2,?_⟩;conv=>whnf)|(refine Or.inr (Or.inr (Or.inl ?_));(conv=>whnf);refine⟨_,g2,?_⟩;conv=>whnf)|(refine Exists.intro _ (And.intro (g2) ?_);conv=>whnf)|(refine bB ?_ ?_;(focus (first|exact bC (by omega)|exact aV (by omega)|exact cy (by omega)|exact bG (by omega)|exact bH (by omega)));conv=>whnf)|((first|refine aY ?_|(refine And.intro (a:=bf _ _=true) ?_ ?_;(focus kernel_rfl))|refine And.intro rfl ?_|(refine And.intro ?_ ?_;(focus (first|omega|decide|(dsimp only;omega)|(simp at *;omega)))));conv=>whnf))
   all_goals first|contradiction|(exfalso;omega)|skip
   ·rename_i Y3;rw[if_pos (by assumption)] at pw;refine⟨k+1,(by show k+1<=l.length;omega),(by show l.length-(k+1)<l.length-k;omega),?_⟩;(conv=>whnf)
    repeat (first|exact rfl|exact trivial|exact Or.inl (fun _ _=>rfl)|exact(fun _=>rfl)|exact(fun _ _=>rfl)|exact Or.inl (fun _ hi=>absurd hi (Nat.not_lt_zero _))|((first|refine And.intro rfl ?_|refine And.intro (Or.inl (fun _ _=>rfl)) ?_|refine And.intro (fun _=>rfl) ?_|refine And.intro (fun _ _=>rfl) ?_|(refine And.intro ?_ ?_;rotate_left));conv=>whnf))
    all_goals (rw[pw];try first|rfl|exact Or.inl fun _ _=>rfl|exact⟨rfl,Or.inl fun _ _=>rfl⟩)
   ·rw[if_neg (by assumption)] at pw;refine⟨k+1,(by show k+1<=l.length;omega),(by show l.length-(k+1)<l.length-k;omega),?_⟩;(conv=>whnf)
    repeat (first|exact rfl|exact trivial|exact Or.inl (fun _ _=>rfl)|exact(fun _=>rfl)|exact(fun _ _=>rfl)|exact Or.inl (fun _ hi=>absurd hi (Nat.not_lt_zero _))|((first|refine And.intro rfl ?_|refine And.intro (Or.inl (fun _ _=>rfl)) ?_|refine And.intro (fun _=>rfl) ?_|refine And.intro (fun _ _=>rfl) ?_|(refine And.intro ?_ ?_;rotate_left));conv=>whnf))
    all_goals (rw[pw];try first|rfl|exact Or.inl fun _ _=>rfl|exact⟨rfl,Or.inl fun _ _=>rfl⟩)
   ·have ek:k=l.length:=by omega
    subst ek;exact⟨by rw[Vl],Or.inl fun _ _=>by rw[Vl]⟩
  ·have e:oy s (l.getD k default)=[AN s (aT s (l.getD k default)).p,AN s (aT s (l.getD k default)).q]:=by unfold oy;rw[if_neg (by omega),if_pos nu]
   rw[e] at pw;have g1:=NA (G:=G) s (aT s (l.getD k default)).p hL;have g2:=NA (G:=G) s (aT s (l.getD k default)).q hL;have g3:=FO (G:=G) L (AN s (aT s (l.getD k default)).p) (by omega);have g4:=FO (G:=G) (jn gN L (AN s (aT s (l.getD k default)).p)) (AN s (aT s (l.getD k default)).q) (by have:=Ru L (AN s (aT s (l.getD k default)).p);omega);generalize AN s (aT s (l.getD k default)).p=c1 at *;generalize AN s (aT s (l.getD k default)).q=c2 at *;unfold qj at g1 g2 g3 g4;generalize aT s (l.getD k default)=m at *;obtain⟨kk,n,mm,d,p,q⟩:=m;simp only at nu;subst nu;have pw:eJ s l qk (k+1)=if (k:Int)=qk then L else jn gN (jn gN L c1) c2:=pw
   (conv=>whnf);repeat' (first|refine bo ?_|refine aG ?_|((first|refine aB ak ?_|refine aS ak mixed ?_|refine aR ?_|refine aP ?_|refine aQ ?_|refine bp ?_);conv=>whnf)|(refine And.intro (fun h=>?_) (fun h=>?_)<;>(try simp only[ae] at h)<;>conv=>whnf)|(refine Or.inl ?_;(conv=>whnf);refine⟨_,hm,?_⟩;conv=>whnf)|(refine Or.inr (Or.inr (Or.inl ?_));(conv=>whnf);refine⟨_,hm,?_⟩;conv=>whnf)|(refine Exists.intro _ (And.intro (hm) ?_);conv=>whnf)|(refine Or.inl ?_;(conv=>whnf);refine⟨_,g1,?_⟩;conv=>whnf)|(refine Or.inr (Or.inr (Or.inl ?_));(conv=>whnf);refine⟨_,g1,?_⟩;conv=>whnf)|(refine Exists.intro _ (And.intro (g1) ?_);conv=>whnf)|(refine Or.inl ?_;(conv=>whnf);refine⟨_,g2,?_⟩;conv=>whnf)|(refine Or.inr (Or.inr (Or.inl ?_));(conv=>whnf);refine⟨_,g2,?_⟩;conv=>whnf)|(refine Exists.intro _ (And.intro (g2) ?_);conv=>whnf)|(refine Or.inl ?_;(conv=>whnf);refine⟨_,g3,?_⟩;conv=>whnf)|(refine Or.inr (Or.inr (Or.inl ?_));(conv=>whnf);refine⟨_,g3,?_⟩;conv=>whnf)|(refine Exists.intro _ (And.intro (g3) ?_);conv=>whnf)|(refine Or.inl ?_;(conv=>whnf);refine⟨_,g4,?_⟩;conv=>whnf)|(refine Or.inr (Or.inr (Or.inl ?_));(conv=>whnf);refine⟨_,g4,?_⟩;conv=>whnf)|(refine Exists.intro _ (And.intro (g4) ?_);conv=>whnf)|(refine bB ?_ ?_;(focus (first|exact bC (by omega)|exact aV (by omega)|exact cy (by omega)|exact bG (by omega)|exact bH (by omega)));conv=>whnf)|((first|refine aY ?_|(refine And.intro (a:=bf _ _=true) ?_ ?_;(focus kernel_rfl))|refine And.intro rfl ?_|(refine And.intro ?_ ?_;(focus (first|omega|decide|(dsimp only;omega)|(simp at *;omega)))));conv=>whnf))
   all_goals first|contradiction|(exfalso;omega)|skip
   ·rename_i Y3;rw[if_pos (by assumption)] at pw;refine⟨k+1,(by show k+1<=l.length;omega),(by show l.length-(k+1)<l.length-k;omega),?_⟩;(conv=>whnf)
    repeat (first|exact rfl|exact trivial|exact Or.inl (fun _ _=>rfl)|exact(fun _=>rfl)|exact(fun _ _=>rfl)|exact Or.inl (fun _ hi=>absurd hi (Nat.not_lt_zero _))|((first|refine And.intro rfl ?_|refine And.intro (Or.inl (fun _ _=>rfl)) ?_|refine And.intro (fun _=>rfl) ?_|refine And.intro (fun _ _=>rfl) ?_|(refine And.intro ?_ ?_;rotate_left));conv=>whnf))
    all_goals (rw[pw];try first|rfl|exact Or.inl fun _ _=>rfl|exact⟨rfl,Or.inl fun _ _=>rfl⟩)
   ·rw[if_neg (by assumption)] at pw;refine⟨k+1,(by show k+1<=l.length;omega),(by show l.length-(k+1)<l.length-k;omega),?_⟩;(conv=>whnf)
    repeat (first|exact rfl|exact trivial|exact Or.inl (fun _ _=>rfl)|exact(fun _=>rfl)|exact(fun _ _=>rfl)|exact Or.inl (fun _ hi=>absurd hi (Nat.not_lt_zero _))|((first|refine And.intro rfl ?_|refine And.intro (Or.inl (fun _ _=>rfl)) ?_|refine And.intro (fun _=>rfl) ?_|refine And.intro (fun _ _=>rfl) ?_|(refine And.intro ?_ ?_;rotate_left));conv=>whnf))
    all_goals (rw[pw];try first|rfl|exact Or.inl fun _ _=>rfl|exact⟨rfl,Or.inl fun _ _=>rfl⟩)
   ·have ek:k=l.length:=by omega
    subst ek;exact⟨by rw[Vl],Or.inl fun _ _=>by rw[Vl]⟩
end Go.Proofs.YtijddijloelacaaGreat
namespace Go.Proofs.YtijddijloelacaaGreat
open Go.Proofs.YtijddijloelacaaGreat.Am
variable [Inhabited cF]
variable {G:aK}
structure Rd where
 id:Int
 nj:List Pt
 ws:List Int
 ow:Bool
 deriving Inhabited,DecidableEq
def xz(r:Rd):List A:=[.int .i64 r.id,Cs r.nj,lU r.ws,.sb r.ow]
def Y4(l:List Rd):Nat->List A:=fun i=>xz (l.getD i default)
def jC(l:List Rd):A:=.sl l.length 4 (Y4 l)
theorem Vm(p:Pt):aa Tryz.prog G 176 [.agg (ki p)] (.sb (!decide (cA p))):=by
 refine aa.af ak Tryz.func176 rfl rfl _ rfl ?_;(conv=>whnf);repeat' ((first|refine st ?_|(refine⟨fun h=>?_,fun h=>?_⟩<;>try simp only[ae] at h)|(refine .inl ?_;(conv=>whnf);refine⟨_,nQ p,?_⟩)|refine wf ?_|refine ao ?_|refine nn ?_|fail)<;>conv=>whnf)
def xb(n:Int):Prop:=n<0\/2147483648<n
instance (n:Int):Decidable (xb n):=inferInstanceAs (Decidable (_\/_))
theorem Vn(n:Int):aa Tryz.prog G 180 [.int .i64 n] (.sb (decide (xb n))):=by
 refine aa.af ak Tryz.func180 rfl rfl _ rfl ?_;(conv=>whnf);repeat' ((first|refine st ?_|(refine⟨fun h=>?_,fun h=>?_⟩<;>try simp only[ae] at h)|refine wf ?_|refine ao ?_|refine nn ?_|fail)<;>conv=>whnf)
 all_goals (simp only[xb] at *;(first|rfl|exact(decide_eq_true (by omega)).symm|exact(decide_eq_false (by omega)).symm|exact decide_eq_decide.2 (by omega)|(rw[Bool.eq_iff_iff];simp only[qP] at *;omega)))
def DB(l:List Pt)(i:Nat):Bool:=!decide (cA (l.getD i default))
theorem NS(l:List Pt)(hl:l.length<=1000000):aa Tryz.prog G 236 [Cs l,.fn 176 []] (.int .i64 (gr (DB l) l.length 0)):=by
 refine aa.af ak Tryz.func236 rfl rfl _ rfl ?_;(conv=>whnf);repeat' ((first|refine st ?_|(refine⟨fun h=>?_,fun h=>?_⟩<;>try simp only[ae] at h)|refine wf ?_|refine ao ?_|refine nn ?_|fail)<;>conv=>whnf)
 refine ah (fun i:Nat=>i<=l.length/\gr (DB l) l.length 0=gr (DB l) (l.length-i) i) (fun i=>[(8,.int .i64 (i:Int))]) (fun _=>[]) (fun i=>l.length-i) 0 ⟨by omega,rfl⟩ ?_ ?_
 ·exact ff
 ·rintro i ⟨hi,he⟩;have hc:=Vm (G:=G) (l.getD i default);(conv=>whnf);repeat' ((first|refine st ?_|(refine⟨fun h=>?_,fun h=>?_⟩<;>try simp only[ae] at h)|(refine .inl ?_;(conv=>whnf);refine⟨_,hc,?_⟩)|refine wf ?_|refine ao ?_|refine nn ?_|fail)<;>conv=>whnf)
  ·rw[he,fG _ (show i<l.length by omega),if_pos (show DB l i=true by unfold DB;rw[decide_eq_false h];rfl)]
  ·refine⟨i+1,⟨by omega,by rw[he,fG _ (show i<l.length by omega),if_neg (by unfold DB;rw[decide_eq_true h];exact Bool.noConfusion)]⟩,(by show l.length-(i+1)<l.length-i;omega),?_⟩;exact ff
  ·rw[he,show l.length-i=0 by omega];rfl
def yL(l:List Pt):Prop:=∃i,i<l.length/\¬cA (l.getD i default)
instance (l:List Pt):Decidable (yL l):=inferInstanceAs (Decidable (∃ i,i < l.length/\¬ cA (l.getD i default)))
theorem DD(l:List Pt)(hl:l.length<=1000000):aa Tryz.prog G 175 [Cs l,.fn 176 []] (.sb (decide (yL l))):=by
 refine aa.af ak Tryz.func175 rfl rfl _ rfl ?_;(conv=>whnf);repeat' ((first|refine st ?_|(refine⟨fun h=>?_,fun h=>?_⟩<;>try simp only[ae] at h)|(refine .inl ?_;(conv=>whnf);refine⟨_,NS l hl,?_⟩)|refine wf ?_|refine ao ?_|refine nn ?_|fail)<;>conv=>whnf)
 all_goals refine gq ?_
 all_goals rw[decide_eq_true_iff,iC]
 all_goals
  constructor
  ·rintro⟨j,_,h2,h3⟩;exact⟨j,by omega,fun h=>by unfold DB at h3;rw[decide_eq_true h] at h3;cases h3⟩
  ·rintro⟨j,h2,h3⟩;exact⟨j,by omega,by omega,by unfold DB;rw[decide_eq_false h3];rfl⟩
def NT(l:List Int)(i:Nat):Bool:=decide (xb (l.getD i 0))
theorem NU(l:List Int)(hl:l.length<=1000000):aa Tryz.prog G 238 [lU l,.fn 180 []] (.int .i64 (gr (NT l) l.length 0)):=by
 refine aa.af ak Tryz.func238 rfl rfl _ rfl ?_;(conv=>whnf);repeat' ((first|refine st ?_|(refine⟨fun h=>?_,fun h=>?_⟩<;>try simp only[ae] at h)|refine wf ?_|refine ao ?_|refine nn ?_|fail)<;>conv=>whnf)
 refine ah (fun i:Nat=>i<=l.length/\gr (NT l) l.length 0=gr (NT l) (l.length-i) i) (fun i=>[(8,.int .i64 (i:Int))]) (fun _=>[]) (fun i=>l.length-i) 0 ⟨by omega,rfl⟩ ?_ ?_
 ·exact ff
 ·rintro i ⟨hi,he⟩;have hc:=Vn (G:=G) (l.getD i 0);(conv=>whnf);repeat' ((first|refine st ?_|(refine⟨fun h=>?_,fun h=>?_⟩<;>try simp only[ae] at h)|(refine .inl ?_;(conv=>whnf);refine⟨_,hc,?_⟩)|refine wf ?_|refine ao ?_|refine nn ?_|fail)<;>conv=>whnf)
  ·rw[he,fG _ (show i<l.length by omega),if_pos (show NT l i=true from decide_eq_true h)]
  ·refine⟨i+1,⟨by omega,by rw[he,fG _ (show i<l.length by omega),if_neg (by unfold NT;rw[decide_eq_false h];exact Bool.noConfusion)]⟩,(by show l.length-(i+1)<l.length-i;omega),?_⟩;exact ff
  ·rw[he,show l.length-i=0 by omega];rfl
def yM(l:List Int):Prop:=∃i,i<l.length/\xb (l.getD i 0)
instance (l:List Int):Decidable (yM l):=inferInstanceAs (Decidable (∃ i,i < l.length/\xb (l.getD i 0)))
theorem DE(l:List Int)(hl:l.length<=1000000):aa Tryz.prog G 179 [lU l,.fn 180 []] (.sb (decide (yM l))):=by
 refine aa.af ak Tryz.func179 rfl rfl _ rfl ?_;(conv=>whnf);repeat' ((first|refine st ?_|(refine⟨fun h=>?_,fun h=>?_⟩<;>try simp only[ae] at h)|(refine .inl ?_;(conv=>whnf);refine⟨_,NU l hl,?_⟩)|refine wf ?_|refine ao ?_|refine nn ?_|fail)<;>conv=>whnf)
 all_goals refine gq ?_
 all_goals rw[decide_eq_true_iff,iC]
 all_goals
  constructor
  ·rintro⟨j,_,h2,h3⟩;exact⟨j,by omega,of_decide_eq_true h3⟩
  ·rintro⟨j,h2,h3⟩;exact⟨j,by omega,by omega,decide_eq_true h3⟩
def Twin(l:List Pt):Prop:=∃i,i<l.length/\0<i/\l.getD i default=l.getD (i-1) default
instance (l:List Pt):Decidable (Twin l):=inferInstanceAs (Decidable (∃ i,i < l.length/\(0 < i/\l.getD i default=l.getD (i - 1) default)))
theorem Vo(l:List Pt)(hl:l.length<=1000000):aa Tryz.prog G 178 [Cs l] (.sb (decide (Twin l))):=by
 refine aa.af ak Tryz.func178 rfl rfl _ rfl ?_;(conv=>whnf);repeat' ((first|refine st ?_|(refine⟨fun h=>?_,fun h=>?_⟩<;>try simp only[ae] at h)|refine wf ?_|refine ao ?_|refine nn ?_|fail)<;>conv=>whnf)
 refine ah (fun i:Nat=>1<=i/\∀k,0<k->k<i->k<l.length->l.getD k default≠l.getD (k-1) default) (fun i=>[(3,.int .i64 (i:Int))]) (fun _=>[]) (fun i=>l.length-i) 1 ⟨by omega,fun k h1 h2=>by omega⟩ ?_ ?_
 ·exact ff
 ·rintro i ⟨hi,he⟩;have ei:((i:Int)-1).toNat=i-1:=by omega
  (conv=>whnf);repeat' ((first|refine st ?_|(refine⟨fun h=>?_,fun h=>?_⟩<;>try simp only[ae] at h)|refine wf ?_|refine ao ?_|refine nn ?_|fail)<;>conv=>whnf)
  all_goals (try simp only[ei] at *)
  ·have h:l.getD i default=l.getD (i-1) default:=of_decide_eq_true ((tM _ _).symm.trans h);exact(decide_eq_true ⟨i,by omega,by omega,h⟩).symm
  ·have h:¬l.getD i default=l.getD (i-1) default:=of_decide_eq_false ((tM _ _).symm.trans h);refine⟨i+1,⟨by omega,fun k h1 h2 h3=>?_⟩,(by show l.length-(i+1)<l.length-i;omega),?_⟩
   ·rcases Nat.lt_or_ge k i with q|q
    ·exact he k h1 q h3
    ·have:k=i:=by omega
     subst this;exact h
   ·exact ff
  ·refine(decide_eq_false ?_).symm;rintro⟨k,h1,h2,h3⟩;exact he k h2 (by omega) h1 h3
def Ta(r:Rd):Prop:=r.nj.length<=110/\r.ws.length<=110
def oA(r:Rd):Prop:=1<=r.id/\r.id<=1048576/\2<=r.nj.length/\r.nj.length<=100/\r.ws.length+1=r.nj.length
instance (r:Rd):Decidable (oA r):=inferInstanceAs (Decidable (_/\_))
def fZ(r:Rd):Int:=if oA r then (if yL r.nj then 6 else if Twin r.nj then 1 else if yM r.ws then 10 else 0) else 1
theorem NV(r:Rd)(hr:Ta r):aa Tryz.prog G 131 [.agg (xz r)] (.int .i64 (fZ r)):=by
 obtain⟨hp,hw⟩:=hr;have h1:=DD (G:=G) r.nj (by omega);have h2:=Vo (G:=G) r.nj (by omega);have h3:=DE (G:=G) r.ws (by omega);refine aa.af ak Tryz.func131 rfl rfl _ rfl ?_;(conv=>whnf);repeat' ((first|refine st ?_|(refine⟨fun h=>?_,fun h=>?_⟩<;>try simp only[ae] at h)|(refine .inl ?_;(conv=>whnf);(first|refine⟨_,h1,?_⟩|refine⟨_,h2,?_⟩|refine⟨_,h3,?_⟩))|refine wf ?_|refine ao ?_|refine nn ?_|fail)<;>conv=>whnf)
 all_goals simp only[fZ,oA]
 all_goals (repeat' split)<;>first|rfl|contradiction|omega
theorem JH(r:Rd)(hr:Ta r):aa Tryz.prog G 43 [.agg (xz r)] (.int .i64 (fZ r)):=by
 obtain⟨hp,hw⟩:=hr;by_cases hs:oA r
 ·have e:fZ r=if yL r.nj then 6 else if Twin r.nj then 1 else if yM r.ws then 10 else 0:=if_pos hs
  rw[e];obtain⟨s1,s2,s3,s4,s5⟩:=hs;refine aa.af ak Tryz.func43 rfl rfl _ rfl ?_;(conv=>whnf);repeat' ((first|refine st ?_|(refine⟨fun h=>?_,fun h=>?_⟩<;>try simp only[ae] at h)|refine wf ?_|refine ao ?_|refine nn ?_|fail)<;>conv=>whnf)
  all_goals first|(exfalso;omega)|skip
  refine ah (fun i:Nat=>i<=r.nj.length/\∀k,k<i->cA (r.nj.getD k default)) (fun i=>[(3,.int .i64 (i:Int))]) (fun _=>[.box 31 (xz r)]) (fun i=>r.nj.length-i) 0 ⟨by omega,fun k hk=>by omega⟩ ?_ ?_
  ·exact ff
  ·rintro i ⟨hi,he⟩;have hc:=fF (G:=G) (r.nj.getD i default);(conv=>whnf);repeat' ((first|refine st ?_|(refine⟨fun h=>?_,fun h=>?_⟩<;>try simp only[ae] at h)|(refine .inl ?_;(conv=>whnf);refine⟨_,hc,?_⟩)|refine wf ?_|refine ao ?_|refine nn ?_|fail)<;>conv=>whnf)
   ·rw[if_pos (show yL r.nj from⟨i,by omega,h⟩)]
   ·refine⟨i+1,⟨by omega,fun k hk=>?_⟩,(by show r.nj.length-(i+1)<r.nj.length-i;omega),?_⟩
    ·rcases Nat.lt_or_ge k i with q|q
     ·exact he k q
     ·have:k=i:=by omega
      subst this;exact h
    ·exact ff
   ·have hb:¬yL r.nj:=by rintro⟨k,k1,k2⟩;exact k2 (he k (by omega))
    rw[if_neg hb];refine ah (fun i:Nat=>1<=i/\∀k,0<k->k<i->k<r.nj.length->r.nj.getD k default≠r.nj.getD (k-1) default) (fun i=>[(4,.int .i64 (i:Int))]) (fun _=>[.box 31 (xz r)]) (fun i=>r.nj.length-i) 1 ⟨by omega,fun k h1 h2=>by omega⟩ ?_ ?_
    ·exact ff
    ·rintro i ⟨hi,he⟩;have ei:((i:Int)-1).toNat=i-1:=by omega
     (conv=>whnf);repeat' ((first|refine st ?_|(refine⟨fun h=>?_,fun h=>?_⟩<;>try simp only[ae] at h)|refine wf ?_|refine ao ?_|refine nn ?_|fail)<;>conv=>whnf)
     all_goals (try simp only[ei] at *)
     ·have h:r.nj.getD i default=r.nj.getD (i-1) default:=of_decide_eq_true ((tM _ _).symm.trans h);rw[if_pos (show Twin r.nj from⟨i,by omega,by omega,h⟩)]
     ·have h:¬r.nj.getD i default=r.nj.getD (i-1) default:=of_decide_eq_false ((tM _ _).symm.trans h);refine⟨i+1,⟨by omega,fun k h1 h2 h3=>?_⟩,(by show r.nj.length-(i+1)<r.nj.length-i;omega),?_⟩
      ·rcases Nat.lt_or_ge k i with q|q
       ·exact he k h1 q h3
       ·have:k=i:=by omega
        subst this;exact h
      ·exact ff
     ·have ht:¬Twin r.nj:=by rintro⟨k,h1,h2,h3⟩;exact he k h2 (by omega) h1 h3
      rw[if_neg ht];refine ah (fun i:Nat=>i<=r.ws.length/\∀k,k<i->¬xb (r.ws.getD k 0)) (fun i=>[(5,.int .i64 (i:Int))]) (fun _=>[.box 31 (xz r)]) (fun i=>r.ws.length-i) 0 ⟨by omega,fun k hk=>by omega⟩ ?_ ?_
      ·exact ff
      ·rintro i ⟨hi,he⟩;(conv=>whnf);repeat' ((first|refine st ?_|(refine⟨fun h=>?_,fun h=>?_⟩<;>try simp only[ae] at h)|refine wf ?_|refine ao ?_|refine nn ?_|fail)<;>conv=>whnf)
       all_goals (try simp only[T8] at *)
       all_goals first
        | (rw[if_pos (show yM r.ws from⟨i,by omega,by unfold xb;omega⟩)])
        | (refine ⟨i + 1, ⟨by omega, fun k hk => ?_⟩, (by show r.ws.length - (i + 1) < r.ws.length - i; omega), ?_⟩
           · rcases Nat.lt_or_ge k i with q|q
             · exact he k q
             · have:k=i:=by omega
               subst this;unfold xb;omega
           · conv=>whnf
             repeat (first|exact fa|((first|refine fb ?_|(refine And.intro ?_ ?_;rotate_left));conv=>whnf)))
        | (rw[if_neg (show ¬yM r.ws by rintro⟨k,k1,k2⟩;exact he k (by omega) k2)])
 ·have e:fZ r=1:=if_neg hs;rw[e];simp only[oA] at hs;refine aa.af ak Tryz.func43 rfl rfl _ rfl ?_;(conv=>whnf);repeat' ((first|refine st ?_|(refine⟨fun h=>?_,fun h=>?_⟩<;>try simp only[ae] at h)|refine wf ?_|refine ao ?_|refine nn ?_|fail)<;>conv=>whnf)
  all_goals first|(exfalso;omega)|skip
def fC:List Rd->Int
 | []=>0
 | r::l=>if fZ r=0 then fC l else fZ r
theorem NW:∀(l:List Rd) (i:Nat),i<l.length->(∀k,k<i->fZ (l.getD k default)=0)->fZ (l.getD i default)≠0->fC l=fZ (l.getD i default)
 | [],i,h,_,_=>absurd h (Nat.not_lt_zero _)
 | r::l,0,_,_,h=>if_neg h
 | r::l,i+1,h,hz,hn=>by
  have h0:fZ r=0:=hz 0 (by omega);show(if fZ r=0 then fC l else fZ r)=_;rw[if_pos h0];exact NW l i (by simpa using h) (fun k hk=>hz (k+1) (by omega)) hn
theorem AV:∀(l:List Rd),(∀k,k<l.length->fZ (l.getD k default)=0)->fC l=0
 | [],_=>rfl
 | r::l,hz=>by
  have h0:fZ r=0:=hz 0 (by simp);show(if fZ r=0 then fC l else fZ r)=_;rw[if_pos h0];exact AV l fun k hk=>hz (k+1) (by simpa using hk)
theorem NX:∀(l:List Rd),fC l=0->∀k,k<l.length->fZ (l.getD k default)=0
 | [],_,k,h=>absurd h (Nat.not_lt_zero _)
 | r::l,h,k,hk=>by
  have h:(if fZ r=0 then fC l else fZ r)=0:=h;split at h
  ·rename_i h0
   match k with
   | 0=>exact h0
   | k+1=>exact NX l h k (by simpa using hk)
  ·contradiction
def HU(l:List Rd):Nat->Nat
 | 0=>0
 | k+1=>HU l k+(l.getD k default).ws.length
def Lt(l:List Rd):Prop:=l.length<=1000/\∀i,i<l.length->Ta (l.getD i default)
theorem sZ{l:List Rd}(h:Lt l):∀k,k<=l.length->HU l k<=110*k
 | 0,_=>by simp[HU]
 | k+1,hk=>by
  have:=sZ h k (by omega);have:=(h.2 k (by omega)).2;simp only[HU];omega
def idp(l:List Rd):Nat->Int
 | 0=>0
 | k+1=>(l.getD k default).id
def DF(l:List Rd):Prop:=∀i,i<l.length->0<i->(l.getD (i-1) default).id<(l.getD i default).id
instance (l:List Rd):Decidable (DF l):=inferInstanceAs (Decidable (∀ i,i < l.length->(0 < i->(l.getD (i - 1) default).id < (l.getD i default).id)))
def gx(l:List Rd):Int:=if 200<l.length then 4 else if fC l≠0 then fC l else if ¬DF l then 1 else if 400<HU l l.length then 4 else 0
theorem Vp{r:Rd}(h:fZ r=0):1<=r.id:=by
 unfold fZ at h;split at h
 ·rename_i q;exact q.1
 ·omega
theorem NY(l:List Rd)(hl:Lt l):aa Tryz.prog G 91 [jC l] (.int .i64 (gx l)):=by
 have hll:=hl.1;by_cases NZ:200<l.length
 ·have e:gx l=4:=if_pos NZ;rw[e];refine aa.af ak Tryz.func91 rfl rfl _ rfl ?_;(conv=>whnf);repeat' ((first|refine st ?_|(refine⟨fun h=>?_,fun h=>?_⟩<;>try simp only[ae] at h)|refine wf ?_|refine ao ?_|refine nn ?_|fail)<;>conv=>whnf)
  all_goals first|(exfalso;omega)|skip
 have e0:gx l=if fC l≠0 then fC l else if ¬DF l then 1 else if 400<HU l l.length then 4 else 0:=if_neg NZ
 rw[e0];refine aa.af ak Tryz.func91 rfl rfl _ rfl ?_;(conv=>whnf);repeat' ((first|refine st ?_|(refine⟨fun h=>?_,fun h=>?_⟩<;>try simp only[ae] at h)|refine wf ?_|refine ao ?_|refine nn ?_|fail)<;>conv=>whnf)
 all_goals first|(exfalso;omega)|skip
 refine ah (fun i:Nat=>i<=l.length/\∀k,k<i->fZ (l.getD k default)=0) (fun i=>[(15,.int .i64 (i:Int)),(3,.int .i64 (HU l i:Nat))]) (fun _=>[]) (fun i=>l.length-i) 0 ⟨by omega,fun k hk=>by omega⟩ ?_ ?_
 ·exact ff
 ·rintro i ⟨hi,he⟩;have hb:=sZ hl i hi;(conv=>whnf)
  repeat (first|(refine st ?_;conv=>whnf))
  refine⟨fun h=>?_,fun h=>?_⟩
  ·have h:(i:Int)<l.length:=of_decide_eq_true h;have hc:=NV (G:=G) (l.getD i default) (hl.2 i (by omega));have hw:(l.getD (i:Int).toNat default).ws.length<=110:=by rw[Int.toNat_natCast];exact(hl.2 i (by omega)).2
   (conv=>whnf);repeat' ((first|refine st ?_|(refine⟨fun h=>?_,fun h=>?_⟩<;>try simp only[ae] at h)|(refine .inl ?_;(conv=>whnf);refine⟨_,hc,?_⟩)|refine wf ?_|refine ao ?_|refine nn ?_|fail)<;>conv=>whnf)
   ·have h:¬fZ (l.getD i default)=0:=h;have e:=NW l i (by omega) he h;rw[if_pos (by rw[e];exact h),e]
   ·have h:fZ (l.getD i default)=0:=h;refine⟨i+1,⟨by omega,fun k hk=>?_⟩,(by show l.length-(i+1)<l.length-i;omega),?_⟩
    ·rcases Nat.lt_or_ge k i with q|q
     ·exact he k q
     ·have:k=i:=by omega
      subst this;exact h
    ·exact ff
  ·have h:¬(i:Int)<l.length:=of_decide_eq_false h;have cx:i=l.length:=by omega
   subst cx;have hz:=AV l he;rw[if_neg (fun h=>h hz)];(conv=>whnf);repeat' ((first|refine st ?_|(refine⟨fun h=>?_,fun h=>?_⟩<;>try simp only[ae] at h)|refine wf ?_|refine ao ?_|refine nn ?_|fail)<;>conv=>whnf)
   refine ah (fun i:Nat=>i<=l.length/\∀k,0<k->k<i->(l.getD (k-1) default).id<(l.getD k default).id) (fun i=>[(32,.int .i64 (i:Int)),(4,.int .i64 (idp l i))]) (fun _=>[]) (fun i=>l.length-i) 0 ⟨by omega,fun k hk=>by omega⟩ ?_ ?_
   ·exact ff
   ·rintro i ⟨hi,hr⟩;(conv=>whnf);repeat' ((first|refine st ?_|(refine⟨fun h=>?_,fun h=>?_⟩<;>try simp only[ae] at h)|refine wf ?_|refine ao ?_|refine nn ?_|fail)<;>conv=>whnf)
    ·have h:(l.getD i default).id<=idp l i:=h;rw[if_pos];intro hR
     match i with
     | 0 =>
      have:=Vp (he 0 (by omega));have h:(l.getD 0 default).id<=0:=h;omega
     | k+1 =>
      have h:(l.getD (k+1) default).id<=(l.getD k default).id:=h;have:=hR (k+1) (by omega) (by omega);rw[show k+1-1=k by omega] at this;omega
    ·have h:¬(l.getD i default).id<=idp l i:=h;refine⟨i+1,⟨by omega,fun k k0 hk=>?_⟩,(by show l.length-(i+1)<l.length-i;omega),?_⟩
     ·rcases Nat.lt_or_ge k i with q|q
      ·exact hr k k0 q
      ·have:k=i:=by omega
       subst this
       match k with
       | k+1 =>
        have h:¬(l.getD (k+1) default).id<=(l.getD k default).id:=h;rw[show k+1-1=k by omega];omega
     ·exact ff
    ·rw[if_neg (fun hn=>hn fun k k1 k0=>hr k k0 (by omega)),if_pos (by omega)]
    ·rw[if_neg (fun hn=>hn fun k k1 k0=>hr k k0 (by omega)),if_neg (by omega)]
theorem Vq(l:List Rd)(hl:Lt l):aa Tryz.prog G 12 [jC l] (.int .i64 (gx l)):=by
 have hll:=hl.1;by_cases NZ:200<l.length
 ·have e:gx l=4:=if_pos NZ;rw[e];refine aa.af ak Tryz.func12 rfl rfl _ rfl ?_;(conv=>whnf);repeat' ((first|refine st ?_|(refine⟨fun h=>?_,fun h=>?_⟩<;>try simp only[ae] at h)|refine wf ?_|refine ao ?_|refine nn ?_|fail)<;>conv=>whnf)
  all_goals first|(exfalso;omega)|skip
 have e0:gx l=if fC l≠0 then fC l else if ¬DF l then 1 else if 400<HU l l.length then 4 else 0:=if_neg NZ
 rw[e0];refine aa.af ak Tryz.func12 rfl rfl _ rfl ?_;(conv=>whnf);repeat' ((first|refine st ?_|(refine⟨fun h=>?_,fun h=>?_⟩<;>try simp only[ae] at h)|refine wf ?_|refine ao ?_|refine nn ?_|fail)<;>conv=>whnf)
 all_goals first|(exfalso;omega)|skip
 refine ah (fun x:Nat×Bool=>x.1<=l.length/\(∀k,k<x.1->fZ (l.getD k default)=0)/\(x.2=true↔∀k,0<k->k<x.1->(l.getD (k-1) default).id<(l.getD k default).id))
  (fun x=>match x with|(i,b)=>[(5,.int .i64 (i:Int)),(3,.int .i64 (HU l i:Nat)),(4,.sb b)]) (fun _=>[]) (fun x=>l.length-x.1) (0,true) ⟨by simp,fun k hk=>absurd hk (Nat.not_lt_zero _),⟨fun _ k _ hk=>absurd hk (Nat.not_lt_zero _),fun _=>rfl⟩⟩ ?_ ?_
 ·exact ff
 ·rintro⟨i,b⟩ ⟨hi,he,hb⟩;have hi:i<=l.length:=hi;have su:=sZ hl i hi;have ei:((i:Int)-1).toNat=i-1:=by omega
  conv=>whnf
  repeat (first|(refine st ?_;conv=>whnf))
  refine⟨fun h=>?_,fun h=>?_⟩
  ·have h:(i:Int)<l.length:=of_decide_eq_true h;have hc:=JH (G:=G) (l.getD i default) (hl.2 i (by omega));have hw:(l.getD (i:Int).toNat default).ws.length<=110:=by rw[Int.toNat_natCast];exact(hl.2 i (by omega)).2
   (conv=>whnf);repeat' ((first|refine st ?_|(refine⟨fun h=>?_,fun h=>?_⟩<;>try simp only[ae] at h)|(refine .inl ?_;(conv=>whnf);refine⟨_,hc,?_⟩)|refine wf ?_|refine ao ?_|refine nn ?_|fail)<;>conv=>whnf)
   all_goals (try simp only[T8] at *)
   all_goals (try simp only[ei] at *)
   ·have h:¬fZ (l.getD i default)=0:=by assumption
    have e:=NW l i (by omega) he h;rw[if_pos (by rw[e];exact h),e]
   ·have q3:fZ (l.getD i default)=0:=by assumption
    have hi0:i=0:=by omega
    refine⟨(i+1,true),⟨by show i+1<=l.length;omega,?_,?_⟩,(by show l.length-(i+1)<l.length-i;omega),?_⟩
    ·intro k hk;have:k=i:=by have hk:k<i+1:=hk;omega
     subst this;exact q3
    ·refine⟨fun _ k k0 hk=>?_,fun _=>rfl⟩;have hk:k<i+1:=hk;omega
    ·exact ff
   ·have q3:fZ (l.getD i default)=0:=by assumption
    have q2:b=true:=by assumption
    refine⟨(i+1,decide ((l.getD (i-1) default).id<(l.getD i default).id)),⟨by show i+1<=l.length;omega,?_,?_⟩,(by show l.length-(i+1)<l.length-i;omega),?_⟩
    ·intro k hk;rcases Nat.lt_or_ge k i with q|q
     ·exact he k q
     ·have:k=i:=by have hk:k<i+1:=hk;omega
      subst this;exact q3
    ·rw[decide_eq_true_iff];refine⟨fun hd k k0 hk=>?_,fun hA=>hA i (by omega) (Nat.lt_succ_self i)⟩;rcases Nat.lt_or_ge k i with q|q
     ·exact hb.1 q2 k k0 q
     ·have:k=i:=by have hk:k<i+1:=hk;omega
      subst this;exact hd
    ·exact ff
   ·have q3:fZ (l.getD i default)=0:=by assumption
    have q2:b=false:=by assumption
    refine⟨(i+1,false),⟨by show i+1<=l.length;omega,?_,?_⟩,(by show l.length-(i+1)<l.length-i;omega),?_⟩
    ·intro k hk;rcases Nat.lt_or_ge k i with q|q
     ·exact he k q
     ·have:k=i:=by have hk:k<i+1:=hk;omega
      subst this;exact q3
    ·refine⟨fun h=>Bool.noConfusion h,fun hA=>?_⟩;have:b=true:=hb.2 fun k k0 hk=>hA k k0 (by have hk:k<i:=hk;show k<i+1;omega);rw[this] at q2;exact Bool.noConfusion q2
    ·exact ff
  ·have h:¬(i:Int)<l.length:=of_decide_eq_false h;have cx:i=l.length:=by omega
   subst cx;have hz:=AV l he;rw[if_neg (fun h=>h hz)];(conv=>whnf);repeat' ((first|refine st ?_|(refine⟨fun h=>?_,fun h=>?_⟩<;>try simp only[ae] at h)|refine wf ?_|refine ao ?_|refine nn ?_|fail)<;>conv=>whnf)
   ·rw[if_pos (fun hR=>?_)];have:b=true:=hb.2 fun k k0 hk=>hR k hk k0;rw[this] at h;exact Bool.noConfusion h
   all_goals rename_i q
   all_goals rw[if_neg (fun hn=>hn fun k k1 k0=>hb.1 q k k0 k1)]
   ·rw[if_pos (by omega)]
   ·rw[if_neg (by omega)]
structure Sp where
 rd:Int
 pl:Int
 s:Sg
 w:Int
 ow:Bool
 deriving Inhabited,DecidableEq
def Vr(x:Sp):List A:=[.int .i64 x.rd,.int .i64 x.pl,.int .i64 x.s.a.x,.int .i64 x.s.a.y,.int .i64 x.s.b.x,.int .i64 x.s.b.y,.int .i64 x.w,.sb x.ow]
def N4(l:List Sp):Nat->List A:=fun i=>Vr (l.getD i default)
def AW(l:List Sp):A:=.sl l.length 8 (N4 l)
def sp1(r:Rd)(i:Nat):Sp:=⟨r.id,i,⟨r.nj.getD i default,r.nj.getD (i+1) default⟩,r.ws.getD i 0,r.ow⟩
def FQ(r:Rd)(k:Nat):List Sp:=(List.range k).map (sp1 r)
def mg(l:List Rd):Nat->List Sp
 | 0=>[]
 | k+1=>mg l k++FQ (l.getD k default) (l.getD k default).ws.length
abbrev JI(l:List Rd):List Sp:=mg l l.length
theorem na(r:Rd)(k:Nat):(FQ r k).length=k:=by simp[FQ]
theorem DG(r:Rd)(k:Nat):FQ r (k+1)=FQ r k++[sp1 r k]:=by simp[FQ,List.range_succ]
theorem rG(l:List Rd):∀k,(mg l k).length=HU l k
 | 0=>rfl
 | k+1=>by simp[mg,rG l k,na,HU]
theorem jq{α:Type}[Inhabited α](e:α->List A)(L:List α)(x:α)(n:Nat)(hn:n=L.length)(r:Nat->List A)(hr:r 0=e x)(i:Nat)(hi:i<n+1):aO n (fun i=>e (L.getD i default)) r i=e ((L++[x]).getD i default):=by
 subst hn;unfold aO;split
 ·rename_i h;have h:i<L.length:=Nat.le_of_ble_eq_true h;simp only[List.getD_eq_getElem?_getD,List.getElem?_append_left h]
 ·rename_i h;have h:¬i<L.length:=fun h'=>by rw[show Nat.blt i L.length=true from Nat.ble_eq_true_of_le h'] at h;cases h
  have:i=L.length:=by omega
  subst this;rw[Nat.sub_self,hr];simp[List.getD_eq_getElem?_getD]
theorem AX{l:List Rd}(h:gx l=0):l.length<=200/\(∀k,k<l.length->fZ (l.getD k default)=0)/\DF l/\HU l l.length<=400:=by
 unfold gx at h;split at h
 ·omega
 ·split at h
  ·rename_i h2;exact absurd h h2
  ·rename_i h1 h2;split at h
   ·omega
   ·split at h
    ·omega
    ·rename_i h3 h4;exact⟨by omega,NX l (by simpa using h2),by simpa using h3,by omega⟩
theorem s8{r:Rd}(h:fZ r=0):oA r/\(∀i,i<r.nj.length->cA (r.nj.getD i default))/\¬Twin r.nj/\∀i,i<r.ws.length->¬xb (r.ws.getD i 0):=by
 unfold fZ at h;split at h
 ·rename_i hs;split at h
  ·omega
  ·rename_i h1;split at h
   ·omega
   ·rename_i h2;split at h
    ·omega
    ·rename_i h3;refine⟨hs,fun i hi=>?_,h2,fun i hi hb=>h3 ⟨i,hi,hb⟩⟩;exact Classical.byContradiction fun hn=>h1 ⟨i,hi,hn⟩
 ·omega
theorem FR(l:List Rd)(hl:Lt l)(h:gx l≠0):aa Tryz.prog G 44 [jC l] (.tup [.aC,.int .i64 (gx l)]):=by
 have h1:=NY (G:=G) l hl;refine aa.af ak Tryz.func44 rfl rfl _ rfl ?_;(conv=>whnf);repeat' ((first|(exact absurd h (by assumption))|refine st ?_|(refine⟨fun h=>?_,fun h=>?_⟩<;>try simp only[ae] at h)|(refine .inl ?_;(conv=>whnf);refine⟨_,h1,?_⟩)|refine wf ?_|refine ao ?_|refine nn ?_|fail)<;>conv=>whnf)
theorem Oa(l:List Rd)(hl:Lt l)(h:gx l=0):aa Tryz.prog G 44 [jC l] (.tup [AW (JI l),.int .i64 0]):=by
 have h1:=NY (G:=G) l hl;rw[h] at h1;obtain⟨q1,q2,q3,q4⟩:=AX h;refine aa.af ak Tryz.func44 rfl rfl _ rfl ?_;(conv=>whnf);repeat' ((first|((exfalso;exact h trivial))|refine st ?_|(refine⟨fun h=>?_,fun h=>?_⟩<;>try simp only[ae] at h)|(refine .inl ?_;(conv=>whnf);refine⟨_,h1,?_⟩)|refine wf ?_|refine ao ?_|refine nn ?_|fail)<;>conv=>whnf)
 refine jB 5 62 8 rfl ?_;(conv=>whnf);refine ah (fun i:Nat=>i<=l.length) (fun i=>[(17,.int .i64 (i:Int)),(5,.own 0)]) (fun i=>[.row 62 8 (mg l i).length (N4 (mg l i))]) (fun i=>l.length-i) 0 (Nat.zero_le _) ?_ ?_
 ·conv=>whnf
  repeat (first|exact fa|((first|refine fb ?_|(refine And.intro ?_ ?_;rotate_left));conv=>whnf))
 ·intro i hi;have hi:i<=l.length:=hi;rcases Nat.lt_or_ge i l.length with bT|bT
  ·have hr:=s8 (q2 i bT);have Ge:=hr.1;unfold oA at Ge;have e0:(i:Int).toNat=i:=by omega
   (conv=>whnf);repeat' ((first|(exfalso;omega)|refine st ?_|(refine⟨fun h=>?_,fun h=>?_⟩<;>try simp only[ae] at h)|refine wf ?_|refine ao ?_|refine nn ?_|fail)<;>conv=>whnf)
   refine ah (fun k:Nat=>k<=(l.getD i default).ws.length) (fun k=>[(24,.int .i64 (k:Int)),(5,.own 0),(7,.ref 1 0)]) (fun k=>[.row 62 8 (mg l i++FQ (l.getD i default) k).length (N4 (mg l i++FQ (l.getD i default) k)),.box 31 (xz (l.getD i default))]) (fun k=>(l.getD i default).ws.length-k) 0 (Nat.zero_le _) ?_ ?_
   ·have ea:mg l i=mg l i++FQ (l.getD i default) 0:=(List.append_nil _).symm;rw[<-ea];exact ff
   ·intro k hk;have hk:k<=(l.getD i default).ws.length:=hk
    have hlen:(mg l i++FQ (l.getD i default) k).length<=110*201:=by
     rw[List.length_append,rG,na];have:=sZ hl i hi;omega
    rcases Nat.lt_or_ge k (l.getD i default).ws.length with gF|gF
    ·have s9:(k:Int)<(l.getD (i:Int).toNat default).ws.length:=by rw[e0];omega
     (conv=>whnf);repeat' ((first|(exfalso;omega)|((refine eO (id:=12) 4 [3,1] rfl rfl ?_;conv=>whnf))|refine st ?_|(refine⟨fun h=>?_,fun h=>?_⟩<;>try simp only[ae] at h)|refine wf ?_|refine ao ?_|refine nn ?_|fail)<;>conv=>whnf)
     refine⟨k+1,gF,(by show _-(k+1)<_-k;omega),?_⟩;(conv=>whnf)
     repeat (first|exact fa|((first|refine fb ?_|(refine And.intro ?_ ?_;rotate_left));conv=>whnf))
     ·rw[List.length_append,List.length_append,na,na];omega
     ·exact Or.inl fun j hj=>by rw[DG,<-List.append_assoc];exact jq Vr _ (sp1 (l.getD i default) k) _ rfl _ rfl j hj
    ·have e:k=(l.getD i default).ws.length:=by omega
     subst e;have s9:¬(((l.getD i default).ws.length:Nat):Int)<(l.getD (i:Int).toNat default).ws.length:=by rw[e0];omega
     (conv=>whnf);repeat' ((first|(exfalso;omega)|refine st ?_|(refine⟨fun h=>?_,fun h=>?_⟩<;>try simp only[ae] at h)|refine wf ?_|refine ao ?_|refine nn ?_|fail)<;>conv=>whnf)
     refine⟨i+1,bT,(by show l.length-(i+1)<l.length-i;omega),?_⟩;(conv=>whnf)
     repeat (first|exact fa|((first|refine fb ?_|(refine And.intro ?_ ?_;rotate_left));conv=>whnf))
  ·have e:i=l.length:=by omega
   subst e;(conv=>whnf);repeat' ((first|(exfalso;omega)|refine st ?_|(refine⟨fun h=>?_,fun h=>?_⟩<;>try simp only[ae] at h)|refine wf ?_|refine ao ?_|refine nn ?_|fail)<;>conv=>whnf)
   repeat (first|exact fa|((first|refine fb ?_|(refine And.intro ?_ ?_;rotate_left));conv=>whnf))
theorem JJ(l:List Rd)(hl:Lt l)(h:gx l=0):aa Tryz.prog G 21 [jC l] (AW (JI l)):=by
 obtain⟨q1,q2,q3,q4⟩:=AX h;refine aa.af ak Tryz.func21 rfl rfl _ rfl ?_;(conv=>whnf);repeat' ((first|refine st ?_|(refine⟨fun h=>?_,fun h=>?_⟩<;>try simp only[ae] at h)|refine wf ?_|refine ao ?_|refine nn ?_|fail)<;>conv=>whnf)
 refine ah (fun i:Nat=>i<=l.length) (fun i=>[(4,.int .i64 (i:Int)),(3,.own 0),(6,.aj)]) (fun i=>[.row 62 8 (mg l i).length (N4 (mg l i))]) (fun i=>l.length-i) 0 (Nat.zero_le _) ?_ ?_
 ·conv=>whnf
  repeat (first|exact fa|((first|refine fb ?_|(refine And.intro ?_ ?_;rotate_left));conv=>whnf))
 ·intro i hi;have hi:i<=l.length:=hi;rcases Nat.lt_or_ge i l.length with bT|bT
  ·have hr:=s8 (q2 i bT);have Ge:=hr.1;unfold oA at Ge;have e0:(i:Int).toNat=i:=by omega
   (conv=>whnf);repeat' ((first|(exfalso;omega)|refine st ?_|(refine⟨fun h=>?_,fun h=>?_⟩<;>try simp only[ae] at h)|refine wf ?_|refine ao ?_|refine nn ?_|fail)<;>conv=>whnf)
   refine ah (fun k:Nat=>k<=(l.getD i default).ws.length) (fun k=>[(5,.int .i64 (k:Int)),(3,.own 0),(6,.aj)]) (fun k=>[.row 62 8 (mg l i++FQ (l.getD i default) k).length (N4 (mg l i++FQ (l.getD i default) k))]) (fun k=>(l.getD i default).ws.length-k) 0 (Nat.zero_le _) ?_ ?_
   ·have ea:mg l i=mg l i++FQ (l.getD i default) 0:=(List.append_nil _).symm;rw[<-ea];exact ff
   ·intro k hk;have hk:k<=(l.getD i default).ws.length:=hk
    have hlen:(mg l i++FQ (l.getD i default) k).length<=110*201:=by
     rw[List.length_append,rG,na];have:=sZ hl i hi;omega
    have ew:(l.getD (i:Int).toNat default).ws.length+1=(l.getD (i:Int).toNat default).nj.length:=by rw[e0];omega
    rcases Nat.lt_or_ge k (l.getD i default).ws.length with gF|gF
    ·have s9:(k:Int)<(l.getD (i:Int).toNat default).ws.length:=by rw[e0];omega
     (conv=>whnf);repeat' ((first|(exfalso;omega)|((refine eO (id:=7) 3 [2] rfl rfl ?_;conv=>whnf))|refine st ?_|(refine⟨fun h=>?_,fun h=>?_⟩<;>try simp only[ae] at h)|refine wf ?_|refine ao ?_|refine nn ?_|fail)<;>conv=>whnf)
     refine⟨k+1,gF,(by show _-(k+1)<_-k;omega),?_⟩;(conv=>whnf)
     repeat (first|exact fa|((first|refine fb ?_|(refine And.intro ?_ ?_;rotate_left));conv=>whnf))
     ·exact Or.inl fun j hj=>by rw[DG,<-List.append_assoc];exact jq Vr _ (sp1 (l.getD i default) k) _ rfl _ rfl j hj
     ·rw[List.length_append,List.length_append,na,na];omega
    ·have e:k=(l.getD i default).ws.length:=by omega
     subst e;have s9:¬(((l.getD i default).ws.length:Nat):Int)<(l.getD (i:Int).toNat default).ws.length:=by rw[e0];omega
     (conv=>whnf);repeat' ((first|(exfalso;omega)|refine st ?_|(refine⟨fun h=>?_,fun h=>?_⟩<;>try simp only[ae] at h)|refine wf ?_|refine ao ?_|refine nn ?_|fail)<;>conv=>whnf)
     refine⟨i+1,bT,(by show l.length-(i+1)<l.length-i;omega),?_⟩;(conv=>whnf)
     repeat (first|exact fa|((first|refine fb ?_|(refine And.intro ?_ ?_;rotate_left));conv=>whnf))
  ·have e:i=l.length:=by omega
   subst e;(conv=>whnf);repeat' ((first|(exfalso;omega)|refine st ?_|(refine⟨fun h=>?_,fun h=>?_⟩<;>try simp only[ae] at h)|refine wf ?_|refine ao ?_|refine nn ?_|fail)<;>conv=>whnf)
   exact Or.inl fun _ _=>rfl
def va(w n d:Int):Int:=((w.toNat*n.toNat/d.toNat:Nat):Int)
def HV(n d:Int):Prop:=1<=d/\0<=n/\n<=d
instance (n d:Int):Decidable (HV n d):=inferInstanceAs (Decidable (_/\_))
theorem oB{w n d:Int}(h:HV n d)(hw:0<=w):0<=va w n d/\va w n d<=w:=by
 unfold HV at h;unfold va;refine⟨Int.natCast_nonneg _,?_⟩
 have h1:w.toNat*n.toNat/d.toNat<=w.toNat:=by
  refine Nat.div_le_of_le_mul ?_;rw[Nat.mul_comm];exact Nat.mul_le_mul (by omega) (Nat.le_refl _)
 omega
theorem Ob(w n d:Int)(hw:0<=w/\w<=2147483648)(h:HV n d)(hd:d<=9223372036854775807):aa Tryz.prog G 206 [.int .i64 w,.int .i64 n,.int .i64 d] (.tup [.int .i64 (va w n d),.int .i64 0]):=by
 have hle:=oB h hw.1;unfold HV at h;unfold va at *;obtain⟨w,rfl⟩:=Int.eq_ofNat_of_zero_le hw.1;obtain⟨n,rfl⟩:=Int.eq_ofNat_of_zero_le h.2.1;obtain⟨d,rfl⟩:=Int.eq_ofNat_of_zero_le (show 0<=d by omega);simp only[Int.toNat_natCast] at *;have hm:=lY (G:=G) w n (by omega) (by omega);have hp:w*n<=w*d:=Nat.mul_le_mul (Nat.le_refl _) (by omega);have SR:w*d<=2147483648*d:=Nat.mul_le_mul (by omega) (Nat.le_refl _);have e:=Nat.div_add_mod (w*n) 18446744073709551616;have hq:=CW (G:=G) (w*n/18446744073709551616) (w*n%18446744073709551616) d (by omega) (by omega) (by omega);rw[show w*n/18446744073709551616*18446744073709551616+w*n%18446744073709551616=w*n by omega] at hq;generalize w*n/d=q at *;generalize w*n%d=r at *;generalize w*n/18446744073709551616=a at *;generalize w*n%18446744073709551616=b at *;clear hp SR e;refine aa.af ak Tryz.func206 rfl rfl _ rfl ?_;(conv=>whnf);repeat' ((first|(exfalso;omega)|refine st ?_|(refine⟨fun h=>?_,fun h=>?_⟩<;>try simp only[ae] at h)|(refine .inl ?_;(conv=>whnf);(first|refine⟨_,hm,?_⟩|refine⟨_,hq,?_⟩))|refine wf ?_|refine ao ?_|refine nn ?_|fail)<;>conv=>whnf)
theorem HW(n d:Int):aa Tryz.prog G 204 [.agg [.int .i64 n,.int .i64 d]] (.sb (decide (HV n d))):=by
 refine aa.af ak Tryz.func204 rfl rfl _ rfl ?_;(conv=>whnf);repeat' ((first|refine st ?_|(refine⟨fun h=>?_,fun h=>?_⟩<;>try simp only[ae] at h)|refine wf ?_|refine ao ?_|refine nn ?_|fail)<;>conv=>whnf)
 all_goals (simp only[HV] at *;(first|rfl|exact(decide_eq_true (by omega)).symm|exact(decide_eq_false (by omega)).symm|exact decide_eq_decide.2 (by omega)|(rw[Bool.eq_iff_iff];simp only[qP] at *;omega)))
theorem xc(w:Int):aa Tryz.prog G 58 [.int .i64 w] (.sb (decide (0<=w/\w<=2147483648))):=by
 refine aa.af ak Tryz.func58 rfl rfl _ rfl ?_;(conv=>whnf);repeat' ((first|refine st ?_|(refine⟨fun h=>?_,fun h=>?_⟩<;>try simp only[ae] at h)|refine wf ?_|refine ao ?_|refine nn ?_|fail)<;>conv=>whnf)
 all_goals (first|rfl|exact(decide_eq_true (by omega)).symm|exact(decide_eq_false (by omega)).symm|exact decide_eq_decide.2 (by omega)|(rw[Bool.eq_iff_iff];simp only[qP] at *;omega))
theorem Vs(w n d:Int)(hw:0<=w/\w<=2147483648)(h:HV n d)(hd:d<=9223372036854775807):aa Tryz.prog G 149 [.int .i64 w,.int .i64 n,.int .i64 d] (.tup [.int .i64 (va w n d),.int .i64 0]):=by
 have h1:=xc (G:=G) w;have h2:=HW (G:=G) n d;rw[decide_eq_true hw] at h1;rw[decide_eq_true h] at h2;have h3:=Ob (G:=G) w n d hw h hd;refine aa.af ak Tryz.func149 rfl rfl _ rfl ?_;(conv=>whnf);repeat' ((first|(exact Bool.noConfusion h)|refine st ?_|(refine⟨fun h=>?_,fun h=>?_⟩<;>try simp only[ae] at h)|(refine .inl ?_;(conv=>whnf);(first|refine⟨_,h1,?_⟩|refine⟨_,h2,?_⟩|refine⟨_,h3,?_⟩))|refine wf ?_|refine ao ?_|refine nn ?_|fail)<;>conv=>whnf)
theorem Y5{q:List Nat}(h:cr q)(hv:val q<18446744073709551616):kW q 0=val q:=by
 have h1:=uT h (Nat.lt_of_lt_of_le hv (by decide));unfold wv dW at h1;rw[cT _ _ (wH h _)] at h1;have h1:kW q 0+18446744073709551616*_=val q:=h1;have:=wH h 0;generalize hx:val (ck (kW q (4*1))++_)=x at h1;have:x=0:=by omega
 omega
theorem DH(w n d:Int)(hw:0<=w/\w<=2147483648)(h:HV n d)(hd:d<=9223372036854775807):aa Tryz.prog G 105 [.int .i64 w,.int .i64 n,.int .i64 d] (.int .i64 (va w n d)):=by
 have hle:=oB h hw.1;unfold HV at h;unfold va at *;obtain⟨w,rfl⟩:=Int.eq_ofNat_of_zero_le hw.1;obtain⟨n,rfl⟩:=Int.eq_ofNat_of_zero_le h.2.1;obtain⟨d,rfl⟩:=Int.eq_ofNat_of_zero_le (show 0<=d by omega);simp only[Int.toNat_natCast] at *;have dw:=kX (a:=w) (by omega);have dn:=kX (a:=n) (by omega);have dd:=kX (a:=d) (by omega);have vd:=gv (a:=d) (by omega);have c1:=ji (G:=G) w (by omega);have c2:=ji (G:=G) n (by omega);have c3:=ji (G:=G) d (by omega);have c4:=uR (G:=G) _ _ dw dn (by simp[ck]) (by simp[ck]);have dt:=oS dw dn;have vt:=mW dw dn;rw[gv (by omega),gv (by omega)] at vt;have tl:=iQ (ck w) (ck n);have c5:=Ht (G:=G) _ _ dt dd (by rw[vd];omega) (by rw[tl];simp[ck]) (by simp[ck]);obtain⟨q1,_,_,q4,_⟩:=wQ dt (nZ dd) (by rw[jX,vd];omega);rw[jX,vd,vt] at q4;have c6:=Ms (G:=G) _ q1 0 (by omega) (by rw[oU,tl];simp[ck]);rw[Y5 q1 (by rw[q4];omega),q4] at c6;generalize w*n/d=q at *;generalize kY (fI (ck w) (ck n)) (df (ck d))=Q at *;generalize oa (fI (ck w) (ck n)) (df (ck d))=R at *;generalize fI (ck w) (ck n)=T at *;generalize ck w=W at *;generalize ck n=N at *;generalize ck d=D at *;refine aa.af ak Tryz.func105 rfl rfl _ rfl ?_;(conv=>whnf);repeat' ((first|(exfalso;omega)|refine st ?_|(refine⟨fun h=>?_,fun h=>?_⟩<;>try simp only[ae] at h)|(refine .inl ?_;(conv=>whnf);(first|refine⟨_,c1,?_⟩|refine⟨_,c2,?_⟩|refine⟨_,c3,?_⟩|refine⟨_,c4,?_⟩|refine⟨_,c5,?_⟩|refine⟨_,c6,?_⟩))|refine wf ?_|refine ao ?_|refine nn ?_|fail)<;>conv=>whnf)
theorem JK(p q:Nat):(decide (q/18446744073709551616<p/18446744073709551616)||(decide (q/18446744073709551616=p/18446744073709551616)&&decide (q%18446744073709551616<p%18446744073709551616)))=decide (q<p):=by
 rw[Bool.eq_iff_iff,Bool.or_eq_true,Bool.and_eq_true,decide_eq_true_eq,decide_eq_true_eq,decide_eq_true_eq,decide_eq_true_eq];omega
theorem Rw(a b c d:Nat)(ha:a<9223372036854775808)(hb:b<9223372036854775808)(hc:c<9223372036854775808)(hd:d<9223372036854775808):
  aa Tryz.prog G 205 [.agg [.int .i64 (a:Int),.int .i64 (b:Int)],.agg [.int .i64 (c:Int),.int .i64 (d:Int)]] (.sb (decide (c*b<a*d))):=by
 have h1:=lY (G:=G) a d (by omega) (by omega);have h2:=lY (G:=G) c b (by omega) (by omega);have e:=JK (a*d) (c*b);generalize a*d=p at *;generalize c*b=q at *;rw[<-e];clear e;generalize p/18446744073709551616=p1 at *;generalize p%18446744073709551616=p2 at *;generalize q/18446744073709551616=q1 at *;generalize q%18446744073709551616=q2 at *;refine aa.af ak Tryz.func205 rfl rfl _ rfl ?_;(conv=>whnf);repeat' ((first|refine st ?_|(refine⟨fun h=>?_,fun h=>?_⟩<;>try simp only[ae] at h)|(refine .inl ?_;(conv=>whnf);(first|refine⟨_,h1,?_⟩|refine⟨_,h2,?_⟩))|refine wf ?_|refine ao ?_|refine nn ?_|fail)<;>conv=>whnf)
 all_goals (rw[Bool.eq_iff_iff];simp only[Bool.or_eq_true,Bool.and_eq_true,decide_eq_true_eq,Bool.false_eq_true,true_iff,false_iff];omega)
abbrev Qp:=Int×Int
def qpA(p:Qp):List A:=[.int .i64 p.1,.int .i64 p.2]
def Vt(l:List Qp):Nat->List A:=fun i=>qpA (l.getD i default)
def AY(l:List Qp):A:=.sl l.length 2 (Vt l)
structure WG (l:List Qp):Prop where
 l2:2<=l.length
 l3:l.length<=2000
 ok:∀i,i<l.length->HV (l.getD i default).1 (l.getD i default).2/\(l.getD i default).2<=9223372036854775807
 up:∀i,0<i->i<l.length->¬(l.getD i default).1.toNat*(l.getD (i-1) default).2.toNat<(l.getD (i-1) default).1.toNat*(l.getD i default).2.toNat
 fst:(l.getD 0 default).1=0
 lst:(l.getD (l.length-1) default).1=(l.getD (l.length-1) default).2
theorem Od(p q:Qp)(hp:HV p.1 p.2/\p.2<=9223372036854775807)(hq:HV q.1 q.2/\q.2<=9223372036854775807):aa Tryz.prog G 205 [.agg (qpA p),.agg (qpA q)] (.sb (decide (q.1.toNat*p.2.toNat<p.1.toNat*q.2.toNat))):=by
 obtain⟨a,b⟩:=p;obtain⟨c,d⟩:=q;unfold HV at hp hq;simp only at hp hq;obtain⟨a,rfl⟩:=Int.eq_ofNat_of_zero_le hp.1.2.1;obtain⟨b,rfl⟩:=Int.eq_ofNat_of_zero_le (show 0<=b by omega);obtain⟨c,rfl⟩:=Int.eq_ofNat_of_zero_le hq.1.2.1;obtain⟨d,rfl⟩:=Int.eq_ofNat_of_zero_le (show 0<=d by omega);exact Rw a b c d (by omega) (by omega) (by omega) (by omega)
theorem Vu(l:List Qp)(hP:WG l):aa Tryz.prog G 148 [AY l] (.sb true):=by
 have l2:=hP.l2;have l3:=hP.l3;refine aa.af ak Tryz.func148 rfl rfl _ rfl ?_;(conv=>whnf);repeat' ((first|(exfalso;omega)|refine st ?_|(refine⟨fun h=>?_,fun h=>?_⟩<;>try simp only[ae] at h)|refine wf ?_|refine ao ?_|refine nn ?_|fail)<;>conv=>whnf)
 refine ah (fun i:Nat=>i<=l.length) (fun i=>[(16,.int .i64 (i:Int)),(4,.aj),(3,.aj)]) (fun i=>[]) (fun i=>l.length-i) 0 (Nat.zero_le _) ?_ ?_
 ·conv=>whnf
  repeat (first|exact fa|((first|refine fb ?_|(refine And.intro ?_ ?_;rotate_left));conv=>whnf))
 ·intro i hi;have hi:i<=l.length:=hi;rcases Nat.lt_or_ge i l.length with bT|bT
  ·have h1:=HW (G:=G) (l.getD i default).1 (l.getD i default).2;rw[decide_eq_true (hP.ok i bT).1] at h1;rcases Nat.eq_zero_or_pos i with rfl|hp
   ·(conv=>whnf);repeat' ((first|(exfalso;omega)|(exact Bool.noConfusion h)|refine st ?_|(refine⟨fun h=>?_,fun h=>?_⟩<;>try simp only[ae] at h)|(refine .inl ?_;(conv=>whnf);refine⟨_,h1,?_⟩)|refine wf ?_|refine ao ?_|refine nn ?_|fail)<;>conv=>whnf)
    refine⟨1,bT,(by show l.length-1<l.length-0;omega),?_⟩;exact ff
   ·have h2:=Od (G:=G) _ _ (hP.ok (i-1) (by omega)) (hP.ok i bT);rw[decide_eq_false (hP.up i hp bT)] at h2;have ei:((i:Int)-1).toNat=i-1:=by omega
    rw[<-ei] at h2;(conv=>whnf);repeat' ((first|(exfalso;omega)|(exact Bool.noConfusion h)|refine st ?_|(refine⟨fun h=>?_,fun h=>?_⟩<;>try simp only[ae] at h)|(refine .inl ?_;(conv=>whnf);(first|refine⟨_,h1,?_⟩|refine⟨_,h2,?_⟩))|refine wf ?_|refine ao ?_|refine nn ?_|fail)<;>conv=>whnf)
    refine⟨i+1,bT,(by show l.length-(i+1)<l.length-i;omega),?_⟩;exact ff
  ·have e:i=l.length:=by omega
   subst e;have hf:=hP.fst;have hl:=hP.lst;have ei:((l.length:Int)-1).toNat=l.length-1:=by omega
   (conv=>whnf);repeat' ((first|(exfalso;omega)|refine st ?_|(refine⟨fun h=>?_,fun h=>?_⟩<;>try simp only[ae] at h)|refine wf ?_|refine ao ?_|refine nn ?_|fail)<;>conv=>whnf)
   ·rw[ei,hl];exact beq_self_eq_true _
   ·exact absurd hf h
/-- The pieces' weights. -/
def kG(w:Int)(l:List Qp):List Int:=(List.range (l.length-1)).map fun i=>va w (l.getD (i+1) default).1 (l.getD (i+1) default).2-va w (l.getD i default).1 (l.getD i default).2
theorem vb(w:Int)(l:List Qp):(kG w l).length=l.length-1:=by simp[kG]
theorem Oe(w:Int)(l:List Qp){i:Nat}(h:i<l.length-1):(kG w l).getD i 0=va w (l.getD (i+1) default).1 (l.getD (i+1) default).2-va w (l.getD i default).1 (l.getD i default).2:=by
 unfold kG;rw[List.getD_eq_getElem?_getD,List.getElem?_map,List.getElem?_range h];rfl
def iR(l:List Int):Nat->List A:=fun i=>[.int .i64 (l.getD i 0)]
theorem HX(w:Int)(l:List Qp)(i:Nat)(h:i<l.length-1)(r:Nat->List A)(hr:r 0=[.int .i64 (va w (l.getD (i+1) default).1 (l.getD (i+1) default).2-va w (l.getD i default).1 (l.getD i default).2)])(j:Nat)(hj:j<i+1):
  aO i (iR (kG w l)) r j=iR (kG w l) j:=by
 unfold aO;split
 ·rfl
 ·rename_i q;have q:¬j<i:=fun h'=>by rw[show Nat.blt j i=true from Nat.ble_eq_true_of_le h'] at q;cases q
  have e:j=i:=by omega
  subst e;rw[Nat.sub_self,hr];unfold iR;rw[Oe w l h]
theorem Og(w:Int)(l:List Qp)(hw:0<=w/\w<=2147483648)(hP:WG l):aa Tryz.prog G 97 [.int .i64 w,AY l] (.tup [lU (kG w l),.int .i64 0]):=by
 have l2:=hP.l2;have l3:=hP.l3;have h1:=xc (G:=G) w;rw[decide_eq_true hw] at h1;have h2:=Vu (G:=G) l hP;have h0:va w (l.getD 0 default).1 (l.getD 0 default).2=0:=by rw[hP.fst];unfold va;simp
 refine aa.af ak Tryz.func97 rfl rfl _ rfl ?_;(conv=>whnf);repeat' ((first|(exfalso;omega)|(exact Bool.noConfusion h)|refine st ?_|(refine⟨fun h=>?_,fun h=>?_⟩<;>try simp only[ae] at h)|(refine .inl ?_;(conv=>whnf);(first|refine⟨_,h1,?_⟩|refine⟨_,h2,?_⟩))|refine wf ?_|refine ao ?_|refine nn ?_|fail)<;>conv=>whnf)
 refine jB 6 3 1 rfl ?_;(conv=>whnf);refine ah (fun i:Nat=>i<=l.length-1) (fun i=>[(23,.int .i64 (i:Int)),(6,.own 0),(7,.int .i64 (va w (l.getD i default).1 (l.getD i default).2)),(9,.aj),(10,.aj),(11,.aj)]) (fun i=>[.row 3 1 i (iR (kG w l))]) (fun i=>l.length-1-i) 0 (Nat.zero_le _) ?_ ?_
 ·rw[h0];(conv=>whnf)
  repeat (first|exact fa|((first|refine fb ?_|(refine And.intro ?_ ?_;rotate_left));conv=>whnf))
 ·intro i hi;have hi:i<=l.length-1:=hi;rcases Nat.lt_or_ge i (l.length-1) with bT|bT
  ·have hk:=hP.ok (i+1) (by omega);have h3:=Vs (G:=G) w _ _ hw hk.1 hk.2;have S0:=hP.ok i (by omega);have b1:=oB hk.1 hw.1;have b0:=oB S0.1 hw.1;have dj:=HX w l i bT;generalize hX1:va w (l.getD (i+1) default).1 (l.getD (i+1) default).2=X1 at *;generalize va w (l.getD i default).1 (l.getD i default).2=X0 at *;have e1:Int.toNat 1+(i:Int).toNat=i+1:=by rw[Int.toNat_natCast,Nat.add_comm];rfl
   rw[<-e1] at h3;(conv=>whnf);repeat' ((first|(exfalso;omega)|refine st ?_|(refine⟨fun h=>?_,fun h=>?_⟩<;>try simp only[ae] at h)|(refine .inl ?_;(conv=>whnf);refine⟨_,h3,?_⟩)|refine wf ?_|refine ao ?_|refine nn ?_|fail)<;>conv=>whnf)
   refine⟨i+1,(by show i+1<=l.length-1;omega),(by show l.length-1-(i+1)<l.length-1-i;omega),?_⟩;(conv=>whnf)
   repeat (first|exact fa|((first|refine fb ?_|(refine And.intro ?_ ?_;rotate_left));conv=>whnf))
   ·exact Or.inl fun j hj=>dj _ rfl j hj
   ·exact hX1.symm
  ·have e:i=l.length-1:=by omega
   subst e;have Y6:=vb w l;unfold lU;rw[Y6];(conv=>whnf);repeat' ((first|(exfalso;omega)|refine st ?_|(refine⟨fun h=>?_,fun h=>?_⟩<;>try simp only[ae] at h)|refine wf ?_|refine ao ?_|refine nn ?_|fail)<;>conv=>whnf)
   exact⟨Or.inl fun _ _=>rfl,rfl⟩
theorem JL(w:Int)(l:List Qp)(hw:0<=w/\w<=2147483648)(hP:WG l):aa Tryz.prog G 62 [.int .i64 w,AY l] (lU (kG w l)):=by
 have l2:=hP.l2;have l3:=hP.l3;refine aa.af ak Tryz.func62 rfl rfl _ rfl ?_;(conv=>whnf);repeat' ((first|refine st ?_|(refine⟨fun h=>?_,fun h=>?_⟩<;>try simp only[ae] at h)|refine wf ?_|refine ao ?_|refine nn ?_|fail)<;>conv=>whnf)
 refine ah (fun i:Nat=>i<=l.length-1) (fun i=>[(6,.int .i64 ((i+1:Nat):Int)),(5,.own 0),(7,.aj)]) (fun i=>[.row 3 1 i (iR (kG w l))]) (fun i=>l.length-1-i) 0 (Nat.zero_le _) ?_ ?_
 ·conv=>whnf
  repeat (first|exact fa|((first|refine fb ?_|(refine And.intro ?_ ?_;rotate_left));conv=>whnf))
 ·intro i hi;have hi:i<=l.length-1:=hi;rcases Nat.lt_or_ge i (l.length-1) with bT|bT
  ·have hk:=hP.ok (i+1) (by omega);have S0:=hP.ok i (by omega);have h3:=DH (G:=G) w _ _ hw hk.1 hk.2;have h4:=DH (G:=G) w _ _ hw S0.1 S0.2;have b1:=oB hk.1 hw.1;have b0:=oB S0.1 hw.1;have dj:=HX w l i bT;have e1:(((i+1:Nat):Int)-1).toNat=i:=by omega
   generalize hX1:va w (l.getD (i+1) default).1 (l.getD (i+1) default).2=X1 at *;generalize va w (l.getD i default).1 (l.getD i default).2=X0 at *;rw[<-e1] at h4;(conv=>whnf);repeat' ((first|(exfalso;omega)|((refine eO (id:=4) 3 [2] rfl rfl ?_;conv=>whnf))|refine st ?_|(refine⟨fun h=>?_,fun h=>?_⟩<;>try simp only[ae] at h)|(refine .inl ?_;(conv=>whnf);(first|refine⟨_,h3,?_⟩|refine⟨_,h4,?_⟩))|refine wf ?_|refine ao ?_|refine nn ?_|fail)<;>conv=>whnf)
   refine⟨i+1,(by show i+1<=l.length-1;omega),(by show l.length-1-(i+1)<l.length-1-i;omega),?_⟩;(conv=>whnf)
   repeat (first|exact fa|((first|refine fb ?_|(refine And.intro ?_ ?_;rotate_left));conv=>whnf))
   all_goals first|exact Or.inl fun j hj=>dj _ rfl j hj
  ·have e:i=l.length-1:=by omega
   subst e;have Y6:=vb w l;unfold lU;rw[Y6];(conv=>whnf);repeat' ((first|(exfalso;omega)|refine st ?_|(refine⟨fun h=>?_,fun h=>?_⟩<;>try simp only[ae] at h)|refine wf ?_|refine ao ?_|refine nn ?_|fail)<;>conv=>whnf)
   exact Or.inl fun _ _=>rfl
end Go.Proofs.YtijddijloelacaaGreat
namespace Go.Proofs.YtijddijloelacaaGreat
open Go.Proofs.YtijddijloelacaaGreat.Am Go.Sort Go.Proofs Go.Lib
variable [Inhabited cF]
variable {G:aK}
def nW(w:W8):Nat:=w.a+18446744073709551616*(w.b+18446744073709551616*(w.c+18446744073709551616*(w.d+18446744073709551616*(w.e+18446744073709551616*(w.f+18446744073709551616*(w.g+18446744073709551616*w.h))))))
theorem Oh{v:Nat}(h:v<65536 ^ 32):nW (w8 (wW v))=v:=by
 have h1:=dh h;have hw:=bS v;unfold wv dW at h1;rw[cT _ _ (hw 0),cT _ _ (hw 1),cT _ _ (hw 2),cT _ _ (hw 3),cT _ _ (hw 4),cT _ _ (hw 5),cT _ _ (hw 6),gv (hw 7)] at h1;exact h1
def jr(c:Cu):RS:=⟨c.1.p,c.1.q,nW c.1.X,nW c.1.Y,nW c.1.W⟩
theorem Vv{s:Sg}(hL:bQ s){n d:Int}(hd:d<=9223372036854775807):dU (jr (ox s n d))/\fJ (jr (ox s n d))=FE (ox s n d).1:=by
 obtain⟨l1,l2,l3,l4⟩:=lx n d hd;obtain⟨⟨ax,ay⟩,⟨bx,E2⟩,_⟩:=hL;have b1:=rp ax bx ⟨l1,l2⟩ l4;have b2:=rp ay E2 ⟨l1,l2⟩ l4
 have hN:=Dd b1 b2 (show 0<(bJ n d).toNat by omega) (by omega);have NP:(2:Nat) ^ 119<65536 ^ 32:=by decide
 have Yv:(18446744073709551616:Nat)<65536 ^ 32:=by decide
 rw[eo hd] at *;have hN':rn (qz (xS s (cG n d) (bJ n d)) (gg (xS s (cG n d) (bJ n d)) (yS s (cG n d) (bJ n d)) (bJ n d).toNat)) (qz (yS s (cG n d) (bJ n d)) (gg (xS s (cG n d) (bJ n d)) (yS s (cG n d) (bJ n d)) (bJ n d).toNat)) ((bJ n d).toNat/gg (xS s (cG n d) (bJ n d)) (yS s (cG n d) (bJ n d)) (bJ n d).toNat):=hN
 have e:jr (ox s n d)=⟨decide (qz (xS s (cG n d) (bJ n d)) (gg (xS s (cG n d) (bJ n d)) (yS s (cG n d) (bJ n d)) (bJ n d).toNat)<0),decide (qz (yS s (cG n d) (bJ n d)) (gg (xS s (cG n d) (bJ n d)) (yS s (cG n d) (bJ n d)) (bJ n d).toNat)<0),(qz (xS s (cG n d) (bJ n d)) (gg (xS s (cG n d) (bJ n d)) (yS s (cG n d) (bJ n d)) (bJ n d).toNat)).natAbs,(qz (yS s (cG n d) (bJ n d)) (gg (xS s (cG n d) (bJ n d)) (yS s (cG n d) (bJ n d)) (bJ n d).toNat)).natAbs,(bJ n d).toNat/gg (xS s (cG n d) (bJ n d)) (yS s (cG n d) (bJ n d)) (bJ n d).toNat⟩:=by
  unfold jr;rw[eo hd];unfold Dp YV;simp only;rw[Oh (Nat.lt_trans hN'.2.1 NP),Oh (Nat.lt_trans hN'.2.2.1 NP),Oh (Nat.lt_trans hN'.2.2.2.2 Yv)]
 rw[e];refine⟨?_,?_⟩
 ·obtain⟨n1,n2,n3,n4,n5⟩:=hN';refine⟨⟨n2,n3,n5⟩,n4,n1,fun h=>?_,fun h=>?_⟩
  ·have:=of_decide_eq_true h;simp only;omega
  ·have:=of_decide_eq_true h;simp only;omega
 ·unfold Dp YV fJ dX FE w8;rfl
theorem FT{s:Sg}(hL:bQ s){c:Cu}(h:Dv s c):dU (jr c)/\fJ (jr c)=FE c.1:=by
 obtain⟨n,d,hd,rfl⟩:=h;exact Vv hL hd
theorem Rx{s:Sg}(hL:bQ s){a b:Cu}(ha:Dv s a)(hb:Dv s b)(h:jr a=jr b):a=b:=by
 refine JF hL ha hb ?_;rw[<-(FT hL ha).2,<-(FT hL hb).2,h]
end Go.Proofs.YtijddijloelacaaGreat
namespace Go.Proofs.YtijddijloelacaaGreat
open Go.Proofs.YtijddijloelacaaGreat.Am Go.Sort Go.Proofs Go.Lib
variable [Inhabited cF]
theorem Vw{a b:Pt}:(a.x=b.x/\a.y=b.y)↔a=b:=by
 obtain⟨ax,ay⟩:=a;obtain⟨bx,E2⟩:=b;simp
def ph(c:Cu):Int×Int:=(c.1.n,c.1.d)
theorem Oi{s:Sg}{n d:Int}(hd:d<=9223372036854775807):ph (ox s n d)=(cG n d,bJ n d):=by
 unfold ph;rw[eo hd];rfl
def Vx(a b:Int×Int):Prop:=a.1.toNat*b.2.toNat<b.1.toNat*a.2.toNat
theorem JM{L:List Cu}(h:L.Pairwise gN):(L.map ph).Pairwise Vx:=by
 rw[List.pairwise_map];exact h.imp fun h=>h
end Go.Proofs.YtijddijloelacaaGreat
namespace Go.Proofs.YtijddijloelacaaGreat
open Go.Proofs.YtijddijloelacaaGreat.Am Go.Sort Go.Proofs Go.Lib
variable [Inhabited cF]
variable {G:aK}
theorem AZ(l:List Cu)(k:Nat)(h:k<l.length)(r:Nat->List A)(hr:r 0=[.int .i64 (l.getD k default).1.n,.int .i64 (l.getD k default).1.d])(j:Nat)(hj:j<k+1):aO k (Vt (l.map ph)) r j=Vt (l.map ph) j:=by
 unfold aO;split
 ·rfl
 ·rename_i q;have q:¬j<k:=fun h'=>by rw[show Nat.blt j k=true from Nat.ble_eq_true_of_le h'] at q;cases q
  have e:j=k:=by omega
  subst e;rw[Nat.sub_self,hr];unfold Vt qpA ph;rw[List.getD_eq_getElem?_getD,List.getD_eq_getElem?_getD,List.getElem?_map,List.getElem?_eq_getElem h];rfl
theorem Oj(l:List Cu)(hl:l.length<=1000000):aa Tryz.prog G 98 [kv l] (AY (l.map ph)):=by
 have hm:(l.map ph).length=l.length:=by simp
 refine aa.af ak Tryz.func98 rfl rfl _ rfl ?_;(conv=>whnf);repeat' ((first|refine st ?_|(refine⟨fun h=>?_,fun h=>?_⟩<;>try simp only[ae] at h)|refine wf ?_|refine ao ?_|refine nn ?_|fail)<;>conv=>whnf)
 refine jB 3 76 2 rfl ?_;(conv=>whnf);refine ah (fun i:Nat=>i<=l.length) (fun i=>[(8,.int .i64 (i:Int)),(3,.own 0),(5,.aj)]) (fun i=>[.row 76 2 i (Vt (l.map ph))]) (fun i=>l.length-i) 0 (Nat.zero_le _) ?_ ?_
 ·conv=>whnf
  repeat (first|exact fa|((first|refine fb ?_|(refine And.intro ?_ ?_;rotate_left));conv=>whnf))
 ·intro i hi;have hi:i<=l.length:=hi;rcases Nat.lt_or_ge i l.length with bT|bT
  ·have dj:=AZ l i bT;(conv=>whnf);repeat' ((first|(exfalso;omega)|refine st ?_|(refine⟨fun h=>?_,fun h=>?_⟩<;>try simp only[ae] at h)|refine wf ?_|refine ao ?_|refine nn ?_|fail)<;>conv=>whnf)
   refine⟨i+1,bT,(by show l.length-(i+1)<l.length-i;omega),?_⟩;(conv=>whnf)
   repeat (first|exact fa|((first|refine fb ?_|(refine And.intro ?_ ?_;rotate_left));conv=>whnf))
   all_goals first|exact Or.inl fun j hj=>dj _ rfl j hj
  ·have e:i=l.length:=by omega
   subst e;unfold AY;rw[hm];(conv=>whnf);repeat' ((first|(exfalso;omega)|refine st ?_|(refine⟨fun h=>?_,fun h=>?_⟩<;>try simp only[ae] at h)|refine wf ?_|refine ao ?_|refine nn ?_|fail)<;>conv=>whnf)
   exact Or.inl fun _ _=>rfl
/-- All spots of some strips' cuts, and of some of the next one. -/
def kH(F:Nat->List Cu)(i:Nat):List RS:=(List.range i).flatMap fun j=>(F j).map jr
theorem xd(F:Nat->List Cu)(i:Nat):kH F (i+1)=kH F i++(F i).map jr:=by simp[kH,List.range_succ,List.flatMap_append]
theorem qe(F:Nat->List Cu)(B:Nat):∀i,(∀j,j<i->(F j).length<=B)->(kH F i).length<=B*i
 | 0,_=>by simp[kH]
 | i+1,h=>by
  rw[xd,List.length_append,List.length_map];have:=qe F B i fun j hj=>h j (by omega);have:=h i (by omega);rw[Nat.mul_succ];omega
/-- A spot as a key. -/
def A0(r:RS):List KC:=[.bool r.p,.int (wW r.x 0:Nat),.int (wW r.x 1:Nat),.int (wW r.x 2:Nat),.int (wW r.x 3:Nat),.int (wW r.x 4:Nat),.int (wW r.x 5:Nat),.int (wW r.x 6:Nat),.int (wW r.x 7:Nat),.bool r.q,.int (wW r.y 0:Nat),.int (wW r.y 1:Nat),.int (wW r.y 2:Nat),.int (wW r.y 3:Nat),.int (wW r.y 4:Nat),.int (wW r.y 5:Nat),.int (wW r.y 6:Nat),.int (wW r.y 7:Nat),.int (wW r.w 0:Nat),.int (wW r.w 1:Nat),.int (wW r.w 2:Nat),.int (wW r.w 3:Nat),.int (wW r.w 4:Nat),.int (wW r.w 5:Nat),.int (wW r.w 6:Nat),.int (wW r.w 7:Nat)]
def WH:List KS:=[.bool,.int .u64,.int .u64,.int .u64,.int .u64,.int .u64,.int .u64,.int .u64,.int .u64,.bool,.int .u64,.int .u64,.int .u64,.int .u64,.int .u64,.int .u64,.int .u64,.int .u64,.int .u64,.int .u64,.int .u64,.int .u64,.int .u64,.int .u64,.int .u64,.int .u64]
def uq(L:List RS)(k:List KC):Bool:=decide (k∈L.map A0)
def A1(L:List RS)(k:List KC):A:=.int .i64 ((L.map A0).idxOf k:Nat)
theorem yN(l:List RS)(h:∀r∈l,dU r){B:Nat}(hl:l.length<=B):(kF (cw (fU l h))).length<=B:=by
 unfold kF;rw[List.length_map];have:=wZ (fU l h) (fU l h).length (Nat.le_refl _);rw[List.take_length,rB] at this;omega
theorem A2{a b:Nat}(ha:a<65536 ^ 32)(hb:b<65536 ^ 32)(h:∀k,k<8->wW a k=wW b k):a=b:=AU ha hb (by
 unfold w8;rw[h 0 (by omega),h 1 (by omega),h 2 (by omega),h 3 (by omega),h 4 (by omega),h 5 (by omega),h 6 (by omega),h 7 (by omega)])
theorem Ry{r s:RS}(hr:Rk r)(hs:Rk s)(h:A0 r=A0 s):r=s:=by
 obtain⟨p,q,x,y,w⟩:=r;obtain⟨p',q',x',y',w'⟩:=s;unfold A0 at h;simp only[List.cons.injEq,KC.bool.injEq,KC.int.injEq,Int.natCast_inj,and_true] at h;obtain⟨h1,a0,a1,a2,a3,a4,a5,a6,a7,h2,b0,b1,b2,b3,b4,b5,b6,b7,c0,c1,c2,c3,c4,c5,c6,c7⟩:=h;have ex:=A2 hr.1 hs.1 (fun k hk=>by rcases (show k=0\/k=1\/k=2\/k=3\/k=4\/k=5\/k=6\/k=7 by omega) with rfl|rfl|rfl|rfl|rfl|rfl|rfl|rfl<;>assumption);have ey:=A2 hr.2.1 hs.2.1 (fun k hk=>by rcases (show k=0\/k=1\/k=2\/k=3\/k=4\/k=5\/k=6\/k=7 by omega) with rfl|rfl|rfl|rfl|rfl|rfl|rfl|rfl<;>assumption);have ew:=A2 hr.2.2 hs.2.2 (fun k hk=>by rcases (show k=0\/k=1\/k=2\/k=3\/k=4\/k=5\/k=6\/k=7 by omega) with rfl|rfl|rfl|rfl|rfl|rfl|rfl|rfl<;>assumption);simp only at ex ey ew;rw[h1,h2,ex,ey,ew]
theorem DI(l:List RS)(h:∀r∈l,dU r):((kF (cw (fU l h))).map A0).Nodup:=by
 have hp:=(gw (fU l h) [] List.Pairwise.nil).1;unfold kF;rw[List.map_map,List.nodup_iff_pairwise_ne,List.pairwise_map];refine List.Pairwise.imp ?_ hp;intro a b BI e;have:=Ry a.rk b.rk e;have:a=b:=Subtype.ext this;subst this;exact AL a BI
theorem Vy(N:List RS)(k:Nat)(h:k<N.length)(key:List KC):pR (uq (N.take k)) (A0 (N.getD k default)) true key=uq (N.take (k+1)) key:=by
 have ht:(N.take (k+1)).map A0=(N.take k).map A0++[A0 (N.getD k default)]:=by
  rw[List.take_add_one,List.getElem?_eq_getElem h,List.getD_eq_getElem?_getD,List.getElem?_eq_getElem h,List.map_append];rfl
 unfold pR uq;rw[ht];split
 ·rename_i e;subst e;exact(decide_eq_true (List.mem_append_right _ (List.mem_singleton.2 rfl))).symm
 ·rename_i e;rw[decide_eq_decide,List.mem_append,List.mem_singleton];exact⟨.inl,fun q=>q.resolve_right e⟩
theorem A3{L:List (List KC)}(hn:L.Nodup){k:Nat}(h:k<L.length):L.idxOf L[k]=k:=by
 exact hn.idxOf_getElem k h
theorem Vz{N:List RS}(hn:(N.map A0).Nodup)(k:Nat)(h:k<N.length)(key:List KC):sD (A1 N) (A0 (N.getD k default)) (.int .i64 (k:Int)) key=A1 N key:=by
 unfold sD;split
 ·rename_i e;subst e;unfold A1;have:=A3 hn (k:=k) (by simpa using h);rw[List.getElem_map] at this;rw[List.getD_eq_getElem?_getD,List.getElem?_eq_getElem h];show _=A.int .i64 (((N.map A0).idxOf (A0 N[k]):Nat):Int);rw[this]
 ·rfl
theorem Rz(dS:(default:cF).ns)(n:Nat)(F:Nat->List Cu)(B:Nat)(hB:∀i,i<n->(F i).length<=B)(mK:B*n<=10000)(hn:n<=10000)(hF:∀i,i<n->∀c∈F i,fJ (jr c)=FE c.1)(hM:∀r∈kH F n,dU r):
  aa Tryz.prog G 46 [ly n F] (.tup [dM (kF (cw (fU (kH F n) hM))),.mv true WH (uq (kF (cw (fU (kH F n) hM)))) (A1 (kF (cw (fU (kH F n) hM))))]):=by
 have hs:=Vf (G:=G) dS (kH F n) (Nat.le_trans (qe F B n hB) mK) hM;have Hp:(kF (cw (fU (kH F n) hM))).length<=10000:=yN (kH F n) hM (Nat.le_trans (qe F B n hB) mK);have hNn:((kF (cw (fU (kH F n) hM))).map A0).Nodup:=DI (kH F n) hM;generalize kF (cw (fU (kH F n) hM))=N at *;refine aa.af ak Tryz.func46 rfl rfl _ rfl ?_;(conv=>whnf);repeat' ((first|refine st ?_|(refine⟨fun h=>?_,fun h=>?_⟩<;>try simp only[ae] at h)|refine wf ?_|refine ao ?_|refine nn ?_|fail)<;>conv=>whnf)
 refine jB 4 57 26 rfl ?_;(conv=>whnf);refine ah (fun i:Nat=>i<=n) (fun i=>[(16,.int .i64 (i:Int)),(4,.own 0),(6,.aj),(8,.aj)]) (fun i=>[.row 57 26 (kH F i).length (fun j=>fJ ((kH F i).getD j default))]) (fun i=>n-i) 0 (Nat.zero_le _) ?_ ?_
 ·conv=>whnf
  repeat (first|exact fa|((first|refine fb ?_|(refine And.intro ?_ ?_;rotate_left));conv=>whnf))
 ·intro i hi;have hi:i<=n:=hi;rcases Nat.lt_or_ge i n with bT|bT
  ·(conv=>whnf);repeat' ((first|(exfalso;omega)|refine st ?_|(refine⟨fun h=>?_,fun h=>?_⟩<;>try simp only[ae] at h)|refine wf ?_|refine ao ?_|refine nn ?_|fail)<;>conv=>whnf)
   refine ah (fun k:Nat=>k<=(F i).length) (fun k=>[(22,.int .i64 (k:Int)),(4,.own 0),(8,.aj)]) (fun k=>[.row 57 26 (kH F i++((F i).take k).map jr).length (fun j=>fJ ((kH F i++((F i).take k).map jr).getD j default))]) (fun k=>(F i).length-k) 0 (Nat.zero_le _) ?_ ?_
   ·have ea:kH F i++((F i).take 0).map jr=kH F i:=by simp
    rw[ea];(conv=>whnf)
    repeat (first|exact fa|((first|refine fb ?_|(refine And.intro ?_ ?_;rotate_left));conv=>whnf))
   ·intro k hk;have hk:k<=(F i).length:=hk;have hFl:(F i).length<=10000:=Nat.le_trans (hB i bT) (Nat.le_trans (Nat.le_mul_of_pos_right B (by omega)) mK);have e0:(i:Int).toNat=i:=Int.toNat_natCast i
    have hlen:(kH F i++((F i).take k).map jr).length<=10000:=by
     rw[List.length_append,List.length_map,List.length_take];have h1:=qe F B i fun j hj=>hB j (by omega);have h2:=hB i bT;have h3:B*(i+1)<=B*n:=Nat.mul_le_mul (Nat.le_refl _) bT;rw[Nat.mul_succ] at h3;omega
    rcases Nat.lt_or_ge k (F i).length with gF|gF
    ·have s9:(k:Int)<(F (i:Int).toNat).length:=by rw[e0];omega
     have hc:=hF i bT _ (List.getElem_mem gF);have hx:(F i).getD k default=(F i)[k]:=gB gF;rw[<-hx] at hc;have et:((F i).take (k+1)).map jr=((F i).take k).map jr++[jr ((F i).getD k default)]:=by rw[List.take_add_one,List.getElem?_eq_getElem gF,hx,List.map_append];rfl
     (conv=>whnf);repeat' ((first|(exfalso;omega)|refine st ?_|(refine⟨fun h=>?_,fun h=>?_⟩<;>try simp only[ae] at h)|refine wf ?_|refine ao ?_|refine nn ?_|fail)<;>conv=>whnf)
     refine⟨k+1,gF,(by show(F i).length-(k+1)<(F i).length-k;omega),?_⟩;(conv=>whnf)
     repeat (first|exact fa|((first|refine fb ?_|(refine And.intro ?_ ?_;rotate_left));conv=>whnf))
     ·exact Or.inl fun j hj=>by rw[et,<-List.append_assoc];exact jq fJ _ (jr ((F i).getD k default)) _ rfl _ hc.symm j hj
     ·rw[et];simp only[List.length_append,List.length_map,List.length_cons,List.length_nil];omega
    ·have e:k=(F i).length:=by omega
     have s9:¬(k:Int)<(F (i:Int).toNat).length:=by rw[e0];omega
     have et:kH F i++((F i).take k).map jr=kH F (i+1):=by rw[xd,e,List.take_length]
     rw[et];(conv=>whnf);repeat' ((first|(exfalso;omega)|refine st ?_|(refine⟨fun h=>?_,fun h=>?_⟩<;>try simp only[ae] at h)|refine wf ?_|refine ao ?_|refine nn ?_|fail)<;>conv=>whnf)
     refine⟨i+1,bT,(by show n-(i+1)<n-i;omega),?_⟩;(conv=>whnf)
     repeat (first|exact fa|((first|refine fb ?_|(refine And.intro ?_ ?_;rotate_left));conv=>whnf))
  ·have e:i=n:=by omega
   subst e;have Hp:N.length<=10000:=Hp;unfold dM at hs;(conv=>whnf);repeat' ((first|(exfalso;omega)|refine st ?_|(refine⟨fun h=>?_,fun h=>?_⟩<;>try simp only[ae] at h)|(refine .inr (.inr (.inl ?_));(conv=>whnf);refine⟨_,hs,?_⟩)|refine wf ?_|refine ao ?_|refine nn ?_|fail)<;>conv=>whnf)
   refine ah (fun i:Nat=>i<=N.length) (fun i=>[(41,.int .i64 (i:Int)),(12,.aj),(13,.aj)]) (fun i=>[.dead,.fK true WH (uq (N.take i)) (A1 N)]) (fun i=>N.length-i) 0 (Nat.zero_le _) ?_ ?_
   ·conv=>whnf
    repeat (first|exact fa|((first|refine fb ?_|(refine And.intro ?_ ?_;rotate_left));conv=>whnf))
    exact fun _ h=>Bool.noConfusion h
   ·intro k hk;have hk:k<=N.length:=hk;rcases Nat.lt_or_ge k N.length with gF|gF
    ·(conv=>whnf);repeat' ((first|(exfalso;omega)|refine st ?_|(refine⟨fun h=>?_,fun h=>?_⟩<;>try simp only[ae] at h)|refine wf ?_|refine ao ?_|refine nn ?_|fail)<;>conv=>whnf)
     refine⟨k+1,gF,(by show N.length-(k+1)<N.length-k;omega),?_⟩;(conv=>whnf)
     repeat (first|exact fa|((first|refine fb ?_|(refine And.intro ?_ ?_;rotate_left));conv=>whnf))
     ·exact fun key _=>Vz hNn k gF key
     ·exact fun key=>Vy N k gF key
    ·have e:k=N.length:=by omega
     subst e;(conv=>whnf);repeat' ((first|(exfalso;omega)|((refine Ac (id:=18) 2 [1] rfl ?_;(conv=>whnf);refine eO (id:=18) 2 [] rfl rfl ?_;conv=>whnf))|refine st ?_|(refine⟨fun h=>?_,fun h=>?_⟩<;>try simp only[ae] at h)|refine wf ?_|refine ao ?_|refine nn ?_|fail)<;>conv=>whnf)
     rw[List.take_length];exact ff
end Go.Proofs.YtijddijloelacaaGreat

/-
  The walks and plain laws, part 4.
-/
import Derived.Test.YtijddijloelacaaGreatNetPieces3
import Derived.Test.YtijddijloelacaaGreatNetPiecesm4
import Derived.Test.YtijddijloelacaaGreatNetPieces2
import Derived.Test.YtijddijloelacaaGreatProg
import Derived.Ground.SlsfProg
import Derived.Shelf.SlSortCmp.WholeK
import Derived.Lib.SlicesCompact
import Derived.Test.YtijddijloelacaaGreatNetPiecesm3
set_option linter.unusedSimpArgs false
set_option linter.unusedSectionVars false
set_option linter.unusedVariables false
set_option maxRecDepth 100000
set_option maxHeartbeats 4000000
namespace Go.Proofs.YtijddijloelacaaGreat.Am
variable [Inhabited cc]
open Go.RowKit (Below)
open Go.Proofs Go.Shelf Go.Sort Go.Lib
section
variable {P:Program} {ρ : Go.Shelf.Ren} {G:aG} {α : Type} [Inhabited α] [DecidableEq α]
/-- What is left of a list if of equal neighbours one stays. -/
def dj(l:List α):List α:=compactUpTo l.toArray l.length
theorem IP(l:List α):(dj l).length<=l.length:=by
 unfold dj compactUpTo;rw[List.length_map];exact Nat.le_trans (List.length_filter_le _ _) (by simp)
theorem aM.zB(L:Ee P ρ)(k:Nat)(k0:0<k)(aE:∀w,(isAgg (ρ.t 23)).run P w=.ok true w)(zE:∀w,(Go.sizeOf (ρ.t 23)).run P w=.ok k w)
  (e:α->List A) (yY:∀x,∀a∈e x,oO a) (hk:∀x,(e x).length=k)
  (TX:∀(x y:α) (w:World),Sem.run P (binOp .eql (ρ.t 23) (.agg (bm e x).toArray) (.agg (bm e y).toArray)) w=.ok (.bool (decide (x=y))) w)
  (TY:∀(x y:α) (w:World),Sem.run P (binOp .neq (ρ.t 23) (.agg (bm e x).toArray) (.agg (bm e y).toArray)) w=.ok (.bool (!decide (x=y))) w)
  (TZ:∀(op:BinOp) (a b:Operand) (x y:α) (w:World),Sem.run P (eqGuard op (ρ.t 23) a b (.agg (bm e x).toArray) (.agg (bm e y).toArray)) w=.ok () w)
  (zr:α) (zv:Value) (v23:∀w,(zeroValue (ρ.t 23)).run P w=.ok zv w) (hz:∀n,(Builtin.zeroCells zv.cells n).toList=(List.replicate n zr).flatMap (bm e))
  (hfn : ∃ fn cd, P.funcs[ρ.f 43]? = some fn ∧ fn.body = some cd ∧ (fn.name == "runtime.NumGoroutine") = false) (ty : TypeId) (l : List α) (hl : l.length ≤ 1000000) (hne : 0 < l.length) :
  aM P G (ρ.f 43) [.own 1] [.ghost [.own 1,.af],.row ty k l.length (cR e l)] (.own 1) [.ghost [.af,.af],.row ty k (dj l).length (cR e (dj l))]:=by
 refine⟨hfn,?_⟩;intro im w vs gs ids hG hs;have vw:vs.length=1:=by have:=hs.len;simpa using this
 obtain⟨v0,rfl⟩:∃v0,vs=[v0]:=by
  match vs,vw with
  | [a],_=>exact⟨a,rfl⟩
 have r0:Rel ids _ w (.own 1) v0:=hs.bI 0 (by simp) (by simp);have wM:ids.length=2:=by have:=hs.aL;simpa using this
 have yG:=hs.bC 1 (by simp) (by omega);simp only[List.getElem_cons_succ,List.getElem_cons_zero] at yG
 obtain⟨p,cap,bZ,yH,Hs,rfl⟩:∃p cap,ids[1]?=some (.lv p)/\(p.n<=cap/\cap<=maxLen)/\cap*p.sz=p.k/\v0=.slice (some ⟨p.ao,0,none⟩) p.n cap:=by
  rcases hs.fL r0 (by simp) with⟨h1,_⟩|h
  ·rw[List.getElem?_eq_getElem (by omega)] at h1;rw[Option.some.inj h1] at yG;have:l.length=0:=yG;omega
  ·exact h
 have wN:ids[1]'(by omega)=.lv p:=by rw[List.getElem?_eq_getElem (by omega)] at bZ;exact Option.some.inj bZ
 rw[wN] at yG;obtain⟨g1,g2,cur,g3,g4,g5,g6,g7⟩:=yG;rw[g2];have He:=hs.ar p (List.mem_of_getElem? bZ) p.ao (.inl rfl);have DD:∀x,(bm e x).length=k:=fun x=>by simp[bm,hk]
 have yI:∀x,∀v∈bm e x,v.oneCell'=true:=fun x v hv=>by
  simp only[bm,List.mem_map] at hv;obtain⟨n,hn,rfl⟩:=hv;exact xa (yY x n hn)
 have wO:∀t,t<l.length*k->cur[t]?=some ((bm e (l.getD (t/k) default)).getD (t%k) undef):=by
  intro t ht;obtain⟨q1,q2,q3⟩:=ja ht rfl rfl;have aD:t<cur.size:=by omega
  have Ht:(cR e l (t/k)).length=k:=g6 _ q1;have:=(g7 (t/k) (t%k) q1 (by rw[Ht];exact q2) (by rw[q3];exact aD)).1;simp only[q3] at this;have Vn:t%k<(e (l.getD (t/k) default)).length:=by rw[hk];exact q2
  have e1:(cR e l (t/k))[t%k]'(by rw[Ht];exact q2)=(e (l.getD (t/k) default))[t%k]:=rfl;rw[e1] at this;have hv:cur[t]=IQ ((e (l.getD (t/k) default))[t%k]):=IS (yY _ _ (List.getElem_mem Vn)) this;rw[Array.getElem?_eq_getElem aD,hv];have Hu:t%k<(bm e (l.getD (t/k) default)).length:=by rw[DD];exact q2
  rw[List.getD_eq_getElem?_getD (l:=bm e (l.getD (t/k) default)),List.getElem?_eq_getElem Hu,Option.getD_some];simp only[bm,List.getElem_map]
 have rK:∀(m:List α) (i:Nat),m.toArray[i]! = m.getD i default:=fun m i=>by
  rw[List.getD_eq_getElem?_getD];simp[Array.getElem!_eq_getD,Array.getD_eq_getD_getElem?]
 have hH:HoldsK (bm e) k w p.ao 0 l.toArray:=by
  intro j hj;rw[size_flatK] at hj;have hj:j<l.length*k:=by simpa using hj
  constructor
  ·rw[Nat.zero_add,cell_of_row w p.ao j cur ty (0,0) g3,wO j hj,id,get_flatK _ _ _ _ (by simpa using hj),rK];obtain⟨q1,q2,q3⟩:=ja hj rfl rfl;have:j%k<(bm e (l.getD (j/k) default)).length:=by rw[DD];exact q2
   rw[List.getD_eq_getElem?_getD (l:=bm e (l.getD (j/k) default)),List.getElem?_eq_getElem this,Option.getD_some,getElem!_pos (bm e (l.getD (j/k) default)) _ this]
  ·unfold World.frozen?;simp only[g3];simp
 have yJ:=F0 L k k0 aE zE (bm e) DD yI TX TY TZ zr zv v23 hz p.ao 0 cap l.toArray w hH (by simp;omega) (by simpa[g2] using yH.1);refine bl (by simpa using yJ) ?_;rintro e' w' ⟨rfl,q,iW⟩;have em:compactUpTo l.toArray l.length=dj l:=rfl;rw[em] at iW ⊢;have P0:=IP l;obtain⟨dd,fM⟩:∃dd:List α,dd=dj l++List.replicate (l.length-(dj l).length) zr:=⟨_,rfl⟩;have iW:w'=putRowK (bm e) k (Go.Sort.ahead w q) p.ao 0 dd.toArray:=by rw[iW,fM]<;>simp
 have T3:dd.length=l.length:=by rw[fM];simp;omega
 have SC:∀i,i<(dj l).length->dd.getD i default=(dj l).getD i default:=fun i hi=>by
  rw[fM];simp only[List.getD_eq_getElem?_getD];rw[List.getElem?_append_left hi]
 have bL:w'.heap.size=w.heap.size:=by rw[iW,size_putRowK];rfl
 have yK:∀b,b<w.heap.size->b≠p.ao->w'.heap[b]?=w.heap[b]?:=fun b hb Tc=>by
  rw[iW];show((Go.Sort.ahead w q).heap.modify p.ao _)[b]?=_;rw[Array.getElem?_modify,if_neg (fun h=>Tc h.symm)];rfl
 obtain⟨cu,WY⟩:∃cu,cu=putCells id 0 (flatK (bm e) k dd.toArray) cur:=⟨_,rfl⟩
 have yL:w'.heap[p.ao]?=some (.cells cu ty (0,0)):=by
  rw[iW,WY];show((Go.Sort.ahead w q).heap.modify p.ao _)[p.ao]?=_;rw[Array.getElem?_modify,if_pos rfl];show Option.map _ (w.heap[p.ao]?)=_;rw[g3];rfl
 have Qv:cu.size=cur.size:=by rw[WY];simp[putCells]
 have bH:=hs.rebind (w':=w') 1 (.lv (mkId p.ao cu.size (dj l).length k)) (.row ty k (dj l).length (cR e (dj l))) 4 (by simp) (by rw[iW];rfl) (by rw[iW];rfl) (by rw[iW];rfl) (by omega)
  (fun b hb hp=>yK b hb (fun e=>hp p bZ (.inl e))) (fun _ h=>by cases h)
  (fun p' h x' hx=>by
   cases h;have:=cw hx;subst this;exact⟨by omega,.inr ⟨p,bZ,.inl rfl⟩⟩)
  (fun _=>by
   refine⟨rfl,rfl,cu,yL,rfl,?_,fun i _=>by simp[cR,hk],?_⟩
   ·show(dj l).length*k<=cu.size;have:=Nat.mul_le_mul_right k P0;omega
   ·intro i j hi hj cj;have DE:j<k:=by simpa[cR,hk] using hj
    have aD:i*k+j<l.length*k:=by
     have:=Nat.mul_le_mul_right k (show i+1<=l.length by omega);rw[Nat.add_mul] at this;omega
    have Td:(flatK (bm e) k dd.toArray).size=l.length*k:=by rw[size_flatK];simp[T3]
    have hv:cu[i*k+j]=IQ ((e ((dj l).getD i default))[j]'(by rw[hk];exact DE)):=by
     subst WY;simp only[putCells,Array.getElem_mapIdx,Td];rw[if_pos ⟨Nat.zero_le _,by omega⟩,Nat.sub_zero,id,get_flatK _ _ _ _ (by simpa[T3] using aD)];have e1:(i*k+j)/k=i:=by rw[Nat.mul_comm,Nat.mul_add_div k0,Nat.div_eq_of_lt DE];simp
     have e2:(i*k+j)%k=j:=by rw[Nat.mul_comm,Nat.mul_add_mod,Nat.mod_eq_of_lt DE]
     rw[e1,e2,rK,SC i hi];have:j<(bm e ((dj l).getD i default)).length:=by rw[DD];exact DE
     rw[getElem!_pos (bm e ((dj l).getD i default)) j this];simp only[bm,List.getElem_map]
    rw[hv];exact⟨Cd (yY _ _ (List.getElem_mem _)),xa (yY _ _ (List.getElem_mem _))⟩) (.of (by rw[iW];exact Nat.le_add_right _ _))
 refine⟨_,_,rfl,⟨rfl,rfl,?_,bH.aL,bH.bC,bH.aj,bH.ar,bH.frame,bH.dZ,bH.cE⟩⟩;intro j h h'
 match j,h with
 | 0,_ =>
  refine .own 1 cap (mkId p.ao cu.size (dj l).length k) ?_ ⟨?_,yH.2⟩ ?_
  ·rw[List.getElem?_set_self (by omega)]
  ·show(dj l).length<=cap;have:=yH.1;omega
  ·show cap*k=cu.size;rw[Qv,g4,<-Hs,g1]
end
end Go.Proofs.YtijddijloelacaaGreat.Am
namespace Go.Proofs.YtijddijloelacaaGreat
open Go.Proofs.YtijddijloelacaaGreat.Am Go.Sort Go.Proofs
variable [Inhabited cc]
variable {G:aG}
structure RS where
 p:Bool
 q:Bool
 x:Nat
 y:Nat
 w:Nat
 deriving Inhabited,DecidableEq
def OZ(r:RS):A:=.agg (fQ r.p r.q (wW r.x) (wW r.y) (wW r.w))
def g3(r:RS):Nat:=Nat.gcd (Nat.gcd r.x r.y) r.w
def Sm(r:RS):Prop:=r.x<2 ^ 119/\r.y<2 ^ 119/\r.w<18446744073709551616
def eC(r:RS):Prop:=Sm r/\0<r.w/\g3 r=1/\(r.p=true->r.x≠0)/\(r.q=true->r.y≠0)
instance (r:RS):Decidable (eC r):=inferInstanceAs (Decidable ((_/\_/\_)/\_/\_/\_/\_))
theorem IT:(2:Nat) ^ 120<65536 ^ 32:=by decide
theorem O0:(2:Nat) ^ 119<2 ^ 120:=by decide
theorem WZ:18446744073709551616<2 ^ 120:=by decide
theorem Qw{a b:Nat}(ha:a<65536 ^ 32)(hb:b<65536 ^ 32)(r:Bool):((((wW a 0:Nat):Int)==((wW b 0:Nat):Int))&&((((wW a 1:Nat):Int)==((wW b 1:Nat):Int))&&((((wW a 2:Nat):Int)==((wW b 2:Nat):Int))&&((((wW a 3:Nat):Int)==((wW b 3:Nat):Int))&&((((wW a 4:Nat):Int)==((wW b 4:Nat):Int))&&((((wW a 5:Nat):Int)==((wW b 5:Nat):Int))&&((((wW a 6:Nat):Int)==((wW b 6:Nat):Int))&&((((wW a 7:Nat):Int)==((wW b 7:Nat):Int))&&r))))))))=(decide (a=b)&&r):=by
 have h:=YY ha hb;cases r
 ·simp
 ·rw[Bool.and_true (decide (a=b))];exact h
def Rk(r:RS):Prop:=r.x<65536 ^ 32/\r.y<65536 ^ 32/\r.w<65536 ^ 32
theorem Sm.rk{r:RS}(h:Sm r):Rk r:=⟨Nat.lt_trans (Nat.lt_trans h.1 O0) IT,Nat.lt_trans (Nat.lt_trans h.2.1 O0) IT,Nat.lt_trans (Nat.lt_trans h.2.2 WZ) IT⟩
theorem IU{r s:RS}(hr:Rk r)(hs:Rk s):((r.p==s.p)&&((((wW r.x 0:Nat):Int)==((wW s.x 0:Nat):Int))&&((((wW r.x 1:Nat):Int)==((wW s.x 1:Nat):Int))&&((((wW r.x 2:Nat):Int)==((wW s.x 2:Nat):Int))&&((((wW r.x 3:Nat):Int)==((wW s.x 3:Nat):Int))&&((((wW r.x 4:Nat):Int)==((wW s.x 4:Nat):Int))&&((((wW r.x 5:Nat):Int)==((wW s.x 5:Nat):Int))&&((((wW r.x 6:Nat):Int)==((wW s.x 6:Nat):Int))&&((((wW r.x 7:Nat):Int)==((wW s.x 7:Nat):Int))&&((r.q==s.q)&&((((wW r.y 0:Nat):Int)==((wW s.y 0:Nat):Int))&&((((wW r.y 1:Nat):Int)==((wW s.y 1:Nat):Int))&&((((wW r.y 2:Nat):Int)==((wW s.y 2:Nat):Int))&&((((wW r.y 3:Nat):Int)==((wW s.y 3:Nat):Int))&&((((wW r.y 4:Nat):Int)==((wW s.y 4:Nat):Int))&&((((wW r.y 5:Nat):Int)==((wW s.y 5:Nat):Int))&&((((wW r.y 6:Nat):Int)==((wW s.y 6:Nat):Int))&&((((wW r.y 7:Nat):Int)==((wW s.y 7:Nat):Int))&&((((wW r.w 0:Nat):Int)==((wW s.w 0:Nat):Int))&&((((wW r.w 1:Nat):Int)==((wW s.w 1:Nat):Int))&&((((wW r.w 2:Nat):Int)==((wW s.w 2:Nat):Int))&&((((wW r.w 3:Nat):Int)==((wW s.w 3:Nat):Int))&&((((wW r.w 4:Nat):Int)==((wW s.w 4:Nat):Int))&&((((wW r.w 5:Nat):Int)==((wW s.w 5:Nat):Int))&&((((wW r.w 6:Nat):Int)==((wW s.w 6:Nat):Int))&&((((wW r.w 7:Nat):Int)==((wW s.w 7:Nat):Int))&&true))))))))))))))))))))))))))=decide (r=s):=by
 rw[Qw hr.2.2 hs.2.2,Qw hr.2.1 hs.2.1,Qw hr.1 hs.1];obtain⟨p,q,x,y,w⟩:=r;obtain⟨p',q',x',y',w'⟩:=s;rw[Bool.eq_iff_iff];simp only[Bool.and_eq_true,beq_iff_eq,decide_eq_true_iff,RS.mk.injEq,and_true];constructor
 ·rintro⟨a,b,c,d,e⟩;exact⟨a,c,b,d,e⟩
 ·rintro⟨a,b,c,d,e⟩;exact⟨a,c,b,d,e⟩
abbrev MS:Type:={ r:RS//eC r }
instance:Inhabited MS:=⟨⟨⟨false,false,0,0,1⟩,by decide⟩⟩
theorem MS.rk(x:MS):Rk x.1:=Sm.rk x.2.1
def iS(r:RS):List A:=fQ r.p r.q (wW r.x) (wW r.y) (wW r.w)
theorem Ef(r:RS):OZ r=.agg (iS r):=rfl
def MK(p:Bool)(x:Nat):Int:=if p then -(x:Int) else x
def jM(r:RS):Int:=MK r.p r.x
def uX(r:RS):Int:=MK r.q r.y
theorem gY(p:Bool)(x:Nat):(MK p x).natAbs=x:=by cases p<;>simp[MK]
theorem sI{p:Bool}{x:Nat}(h:p=true->x≠0):decide (MK p x<0)=p:=by
 cases p
 ·simp[MK]
 ·have:=h rfl;simp[MK];omega
theorem Eg{p p':Bool}{x x':Nat}(h:p=true->x≠0)(h':p'=true->x'≠0)(e:MK p x=MK p' x'):p=p'/\x=x':=by
 refine⟨?_,?_⟩
 ·rw[<-sI h,<-sI h',e]
 ·rw[<-gY p x,<-gY p' x',e]
def gI(r s:RS):Int:=B' (jM r) (uX r) r.w (jM s) (uX s) s.w
theorem Eh{a b c x y z:Int}(hx:0<x)(hy:0<y)(hz:0<z)(h1:a*y<=b*x)(h2:b*z<=c*y):a*z<=c*x:=by
 have e1:=Int.mul_le_mul_of_nonneg_right h1 (Int.le_of_lt hz);have e2:=Int.mul_le_mul_of_nonneg_right h2 (Int.le_of_lt hx);have k1:a*z*y=a*y*z:=by grind
 have k2:b*x*z=b*z*x:=by grind
 have k3:c*x*y=c*y*x:=by grind
 exact Int.le_of_mul_le_mul_right (a:=y) (by omega) hy
theorem Ce{a b c x y z:Int}(hx:0<x)(hy:0<y)(hz:0<z)(h1:a*y<b*x)(h2:b*z<=c*y):a*z<c*x:=by
 have e1:=Int.mul_lt_mul_of_pos_right h1 hz;have e2:=Int.mul_le_mul_of_nonneg_right h2 (Int.le_of_lt hx);have k1:a*z*y=a*y*z:=by grind
 have k2:b*x*z=b*z*x:=by grind
 have k3:c*x*y=c*y*x:=by grind
 exact Int.lt_of_mul_lt_mul_right (a:=y) (by omega) (Int.le_of_lt hy)
theorem IV{a b c x y z:Int}(hx:0<x)(hy:0<y)(hz:0<z)(h1:a*y<=b*x)(h2:b*z<c*y):a*z<c*x:=by
 have e1:=Int.mul_le_mul_of_nonneg_right h1 (Int.le_of_lt hz);have e2:=Int.mul_lt_mul_of_pos_right h2 hx;have k1:a*z*y=a*y*z:=by grind
 have k2:b*x*z=b*z*x:=by grind
 have k3:c*x*y=c*y*x:=by grind
 exact Int.lt_of_mul_lt_mul_right (a:=y) (by omega) (Int.le_of_lt hy)
theorem vF{a b:Int}:rW a b<0↔a<b:=by unfold rW;split<;>(try split)<;>omega
theorem Cf{a b:Int}:rW a b=0↔a=b:=by unfold rW;split<;>(try split)<;>omega
theorem Qx(u v:Int):cC [u,v]<0↔u<0\/u=0/\v<0:=by
 show(if u=0 then (if v=0 then 0 else v) else u)<0↔_;split<;>(try split)<;>omega
theorem ML(u v:Int):cC [u,v]=0↔u=0/\v=0:=by
 show(if u=0 then (if v=0 then 0 else v) else u)=0↔_;split<;>(try split)<;>omega
theorem xb(r s:RS):gI r s<0↔jM r*s.w<jM s*r.w\/jM r*s.w=jM s*r.w/\uX r*s.w<uX s*r.w:=by
 unfold gI B';rw[Qx,vF,vF,Cf]
theorem Cg(r s:RS):gI r s=0↔jM r*s.w=jM s*r.w/\uX r*s.w=uX s*r.w:=by
 unfold gI B';rw[ML,Cf,Cf]
theorem tJ{r s t:RS}(hr:0<r.w)(hs:0<s.w)(ht:0<t.w)(h1:gI r s<0)(h2:gI s t<0):gI r t<0:=by
 rw[xb] at *;have Ei:(0:Int)<r.w:=by omega
 have bH:(0:Int)<s.w:=by omega
 have Cb:(0:Int)<t.w:=by omega
 have a1:=fun u v=>Ce (a:=jM r) (b:=jM s) (c:=jM t) Ei bH Cb u v;have a2:=fun u v=>IV (a:=jM r) (b:=jM s) (c:=jM t) Ei bH Cb u v;have a3:=fun u v=>Eh (a:=jM r) (b:=jM s) (c:=jM t) Ei bH Cb u v;have a4:=fun u v=>Eh (a:=jM t) (b:=jM s) (c:=jM r) Cb bH Ei u v;have b1:=fun u v=>Ce (a:=uX r) (b:=uX s) (c:=uX t) Ei bH Cb u v;rcases h1 with h1|⟨h1,h1'⟩<;>rcases h2 with h2|⟨h2,h2'⟩
 ·exact .inl (a1 h1 (by omega))
 ·exact .inl (a1 h1 (by omega))
 ·exact .inl (a2 (by omega) h2)
 ·have:=a3 (by omega) (by omega);have:=a4 (by omega) (by omega);exact .inr ⟨by omega,b1 h1' (by omega)⟩
theorem zC{r s t:RS}(hr:0<r.w)(hs:0<s.w)(ht:0<t.w)(h1:¬gI r s<0)(h2:¬gI s t<0):¬gI r t<0:=by
 rw[xb] at *;have Ei:(0:Int)<r.w:=by omega
 have bH:(0:Int)<s.w:=by omega
 have Cb:(0:Int)<t.w:=by omega
 have a1:=fun u v=>Ce (a:=jM t) (b:=jM s) (c:=jM r) Cb bH Ei u v;have a2:=fun u v=>IV (a:=jM t) (b:=jM s) (c:=jM r) Cb bH Ei u v;have a3:=fun u v=>Eh (a:=jM t) (b:=jM s) (c:=jM r) Cb bH Ei u v;have b3:=fun u v=>Eh (a:=uX t) (b:=uX s) (c:=uX r) Cb bH Ei u v;have c1:jM s*r.w<=jM r*s.w:=by omega
 have c2:jM t*s.w<=jM s*t.w:=by omega
 have c3:=a3 c2 c1;rintro(h|⟨h,h'⟩)
 ·omega
 ·have d1:¬jM s*r.w<jM r*s.w:=fun q=>by have:=a2 c2 q;omega
  have d2:¬jM t*s.w<jM s*t.w:=fun q=>by have:=a1 q c1;omega
  have e1:uX s*r.w<=uX r*s.w:=by omega
  have e2:uX t*s.w<=uX s*t.w:=by omega
  have:=b3 e2 e1;omega
theorem oP{x y w x' y' w':Nat}(hg:Nat.gcd (Nat.gcd x y) w=1)(h1:x*w'=x'*w)(h2:y*w'=y'*w):w ∣ w':=by
 have d1:w ∣ x*w':=⟨x',by rw[h1,Nat.mul_comm]⟩;have d2:w ∣ y*w':=⟨y',by rw[h2,Nat.mul_comm]⟩;have d3:w ∣ w*w':=⟨w',rfl⟩;have:=Nat.dvd_gcd (Nat.dvd_gcd d1 d2) d3;rw[Nat.gcd_mul_right,Nat.gcd_mul_right,hg,Nat.one_mul] at this;exact this
/-- Spots that may be, and are alike, are the same. -/
theorem F3{r s:RS}(hr:eC r)(hs:eC s)(h:gI r s=0):r=s:=by
 rw[Cg] at h;obtain⟨_,r1,r2,r3,r4⟩:=hr;obtain⟨_,s1,s2,s3,s4⟩:=hs;obtain⟨p,q,x,y,w⟩:=r;obtain⟨p',q',x',y',w'⟩:=s;obtain⟨h1,h2⟩:=h;unfold g3 at r2 s2;unfold jM at h1;unfold uX at h2;simp only at *
 have k1:x*w'=x'*w:=by
  have:=congrArg Int.natAbs h1;simpa[Int.natAbs_mul,gY] using this
 have k2:y*w'=y'*w:=by
  have:=congrArg Int.natAbs h2;simpa[Int.natAbs_mul,gY] using this
 have e:w=w':=Nat.dvd_antisymm (oP r2 k1 k2) (oP s2 k1.symm k2.symm);subst e;have hw:(w:Int)≠0:=by omega
 have i1:=Eg r3 s3 (Int.eq_of_mul_eq_mul_right hw h1);have i2:=Eg r4 s4 (Int.eq_of_mul_eq_mul_right hw h2);rw[i1.1,i1.2,i2.1,i2.2]
theorem pR(r:RS):gI r r=0:=(Cg r r).2 ⟨rfl,rfl⟩
def vd(a b:MS):Int:=gI a.1 b.1
theorem Ci(a b:MS):ltOf vd a b=true↔gI a.1 b.1<0:=by unfold ltOf vd;simp
theorem Cj:SWO (ltOf vd):=by
 have e':∀a b,ltOf vd a b=false↔¬gI a.1 b.1<0:=fun a b=>by rw[<-Ci];simp
 refine⟨fun x=>?_,fun x y z h1 h2=>?_,fun x y z h1 h2=>?_⟩
 ·rw[e',pR];omega
 ·rw[Ci] at *;exact tJ x.2.2.1 y.2.2.1 z.2.2.1 h1 h2
 ·rw[e'] at *;exact zC x.2.2.1 y.2.2.1 z.2.2.1 h1 h2
theorem mw{r:RS}(h:eC r):OZ r=iu (jM r) (uX r) r.w:=by
 unfold OZ iu jM uX;rw[sI h.2.2.2.1,sI h.2.2.2.2,gY,gY]
theorem my{r:RS}(h:eC r):nD (jM r) (uX r) r.w:=by
 obtain⟨⟨h1,h2,h3⟩,h4,h5,_,_⟩:=h;refine⟨?_,by unfold jM;rw[gY];exact h1,by unfold uX;rw[gY];exact h2,h4,h3⟩;unfold gg jM uX;rw[gY,gY];exact h5
theorem IW{r:RS}(h:eC r):aa Tryz.prog G 72 [OZ r] (.sb true):=by
 have:=B6 (G:=G) _ _ _ (my h);rw[mw h];exact this
theorem F4{r s:RS}(hr:eC r)(hs:eC s):aa Tryz.prog G 146 [OZ r,OZ s] (.int .i64 (gI r s)):=by
 rw[mw hr,mw hs];exact vE _ _ _ _ _ _ (my hr) (my hs)
end Go.Proofs.YtijddijloelacaaGreat
namespace Go.Proofs.YtijddijloelacaaGreat
open Go.Proofs.YtijddijloelacaaGreat.Am Go.Sort Go.Proofs Go.Lib
variable [Inhabited cc]
variable {G:aG}
def dX(l:List RS):A:=.sl l.length 26 fun i=>iS (l.getD i default)
theorem sJ{l:List RS}(h:∀r∈l,eC r){i:Nat}(hi:i<l.length):eC (l.getD i default):=by
 rw[List.getD_eq_getElem?_getD,List.getElem?_eq_getElem hi];exact h _ (List.getElem_mem hi)
theorem Qy(r:RS)(hk:eC r):aa Tryz.prog G 143 [.agg (iS r)] (.sb false):=by
 have m:=IW (G:=G) hk;rw[Ef] at m;unfold iS fQ at *;generalize wW r.x=X at *;generalize wW r.y=Y at *;generalize wW r.w=W at *;refine aa.ah al Tryz.func143 rfl rfl _ rfl ?_;(conv=>whnf);repeat' ((first|refine st ?_|(refine⟨fun h=>?_,fun h=>?_⟩<;>try simp only[ae] at h)|(refine .inl ?_;(conv=>whnf);refine⟨_,m,?_⟩)|refine wf ?_|refine az ?_|refine nn ?_|fail)<;>conv=>whnf)
 all_goals first|contradiction|(exfalso;omega)|skip
 all_goals rfl
theorem Qz(l:List RS)(hk:∀r∈l,eC r)(hl:l.length<=1000000):aa Tryz.prog G 169 [dX l,.fn 143 []] (.int .i64 (-1)):=by
 refine aa.ah al Tryz.func169 rfl rfl _ rfl ?_;(conv=>whnf);repeat' ((first|refine st ?_|(refine⟨fun h=>?_,fun h=>?_⟩<;>try simp only[ae] at h)|refine wf ?_|refine az ?_|refine nn ?_|fail)<;>conv=>whnf)
 refine ak (fun i:Nat=>i<=l.length) (fun i=>[(8,.int .i64 (i:Int))]) (fun i=>[]) (fun i=>l.length-i) 0 (Nat.zero_le _) ?_ ?_
 ·conv=>whnf
  repeat (first|exact fa|((first|refine fb ?_|(refine And.intro ?_ ?_;rotate_left));conv=>whnf))
 ·intro i hi;have hi:i<=l.length:=hi;rcases Nat.lt_or_ge i l.length with cy|cy
  ·have h1:=Qy (G:=G) (l.getD i default) (sJ hk cy);unfold iS at *;(conv=>whnf);repeat' ((first|(exact Bool.noConfusion h)|(exfalso;omega)|refine st ?_|(refine⟨fun h=>?_,fun h=>?_⟩<;>try simp only[ae] at h)|(refine .inl ?_;(conv=>whnf);refine⟨_,h1,?_⟩)|refine wf ?_|refine az ?_|refine nn ?_|fail)<;>conv=>whnf)
   refine⟨i+1,cy,(by show l.length-(i+1)<l.length-i;omega),?_⟩;exact ff
  ·(conv=>whnf);repeat' ((first|(exfalso;omega)|refine st ?_|(refine⟨fun h=>?_,fun h=>?_⟩<;>try simp only[ae] at h)|refine wf ?_|refine az ?_|refine nn ?_|fail)<;>conv=>whnf)
theorem IX(l:List RS)(hk:∀r∈l,eC r)(hl:l.length<=1000000):aa Tryz.prog G 117 [dX l,.fn 143 []] (.sb false):=by
 have h1:=Qz (G:=G) l hk hl;refine aa.ah al Tryz.func117 rfl rfl _ rfl ?_;(conv=>whnf);repeat' ((first|refine st ?_|(refine⟨fun h=>?_,fun h=>?_⟩<;>try simp only[ae] at h)|(refine .inl ?_;(conv=>whnf);refine⟨_,h1,?_⟩)|refine wf ?_|refine az ?_|refine nn ?_|fail)<;>conv=>whnf)
 all_goals rfl
theorem vG(dA:(default:cc).ns)(n:Nat)(row:Nat->List A)(hl:∀i,i<n->(row i).length=26)(hn:n<=1000000):
  aM Tryz.prog G 200 [.fn 202 [.bref [.sl n 26 row] 0]] [] (.own 0) [.row 57 26 n row]:=by
 have h:=yX (G:=G) dA n row hl hn;refine aM.ah al Tryz.func200 rfl rfl _ rfl ?_;(conv=>whnf);repeat' ((first|refine st ?_|(refine⟨fun h=>?_,fun h=>?_⟩<;>try simp only[ae] at h)|((first|refine .inr (.inr (.inr ?_))|refine .inr ?_);(conv=>whnf);refine⟨_,_,h,?_⟩)|refine wf ?_|refine az ?_|refine nn ?_|fail)<;>conv=>whnf)
 exact .inl fun _ _=>rfl
theorem zD(n:Nat)(row:Nat->List A):
  aa Tryz.prog G 145 [.sl n 26 row] (.fn 202 [.bref [.sl n 26 row] 0]):=by
 refine aa.ah al Tryz.func145 rfl rfl _ rfl ?_;(conv=>whnf);repeat' ((first|refine st ?_|(refine⟨fun h=>?_,fun h=>?_⟩<;>try simp only[ae] at h)|refine wf ?_|refine az ?_|refine nn ?_|fail)<;>conv=>whnf)
end Go.Proofs.YtijddijloelacaaGreat
namespace Go.Proofs
open Go.Shelf Go.Proofs.YtijddijloelacaaGreat.Am
def Tryz.qT:Go.Shelf.Ren:=⟨fun|43=>147|n=>n,fun|0=>0|3=>3|4=>4|22=>35|23=>57|n=>n,fun|n=>n⟩
theorem Tryz.MM:Ee Tryz.prog Tryz.qT:={
 mixed:=by kernel_rfl
 f43:=⟨Tryz.f147.name,by decide,Tryz.func147.trans (congrArg some (by kernel_rfl))⟩
 t0:=Tryz.underlying0
 a0:=Tryz.isAgg0
 z0:=Tryz.sizeOf0
 v0:=Tryz.zeroValue0
 t3:=Tryz.underlying3
 a3:=Tryz.isAgg3
 z3:=Tryz.sizeOf3
 v3:=Tryz.zeroValue3
 t4:=Tryz.underlying4
 a4:=Tryz.isAgg4
 z4:=Tryz.sizeOf4
 v4:=Tryz.zeroValue4
 t22:=Tryz.underlying35
 a22:=Tryz.isAgg35
 z22:=Tryz.sizeOf35
 v22:=Tryz.zeroValue35 }
end Go.Proofs
namespace Go.Proofs.YtijddijloelacaaGreat
open Go.Proofs.YtijddijloelacaaGreat.Am Go.Sort Go.Proofs Go.Lib
variable [Inhabited cc]
variable {G:aG}
def Ck(x:MS):List A:=iS x.1
theorem Ej(r:RS):∀a∈iS r,oO a:=by
 simp[iS,fQ,oO]
theorem W4:Rk ⟨false,false,0,0,0⟩:=⟨by decide,by decide,by decide⟩
abbrev RK:Type:={ r:RS//Rk r }
instance:Inhabited RK:=⟨⟨⟨false,false,0,0,0⟩,W4⟩⟩
def ve(x:RK):List A:=iS x.1
def T4:List Nat:=[6,5,5,5,5,5,5,5,5,6,5,5,5,5,5,5,5,5,5,5,5,5,5,5,5,5]
theorem IY:aY Tryz.prog 6 57=some T4:=by kernel_rfl
theorem QB(x y:RS)(hx:Rk x)(hy:Rk y):tK T4 ((iS x).map IQ) ((iS y).map IQ) (decide (x=y)):=by
 rw[<-IU hx hy];clear hx hy;obtain⟨p,q,a,b,c⟩:=x;obtain⟨p',q',a',b',c'⟩:=y;unfold iS
 dsimp only
 generalize wW a=a at *;generalize wW b=b at *;generalize wW c=c at *;generalize wW a'=a' at *;generalize wW b'=b' at *;generalize wW c'=c' at *
 exact
  ⟨_,_,.inr (.inl ⟨rfl,_,_,rfl,rfl,rfl⟩),⟨_,_,.inl ⟨rfl,_,_,_,rfl,rfl,rfl⟩,⟨_,_,.inl ⟨rfl,_,_,_,rfl,rfl,rfl⟩,⟨_,_,.inl ⟨rfl,_,_,_,rfl,rfl,rfl⟩,⟨_,_,.inl ⟨rfl,_,_,_,rfl,rfl,rfl⟩,⟨_,_,.inl ⟨rfl,_,_,_,rfl,rfl,rfl⟩,⟨_,_,.inl ⟨rfl,_,_,_,rfl,rfl,rfl⟩,⟨_,_,.inl ⟨rfl,_,_,_,rfl,rfl,rfl⟩,⟨_,_,.inl ⟨rfl,_,_,_,rfl,rfl,rfl⟩,⟨_,_,.inr (.inl ⟨rfl,_,_,rfl,rfl,rfl⟩),⟨_,_,.inl ⟨rfl,_,_,_,rfl,rfl,rfl⟩,⟨_,_,.inl ⟨rfl,_,_,_,rfl,rfl,rfl⟩,⟨_,_,.inl ⟨rfl,_,_,_,rfl,rfl,rfl⟩,⟨_,_,.inl ⟨rfl,_,_,_,rfl,rfl,rfl⟩,⟨_,_,.inl ⟨rfl,_,_,_,rfl,rfl,rfl⟩,⟨_,_,.inl ⟨rfl,_,_,_,rfl,rfl,rfl⟩,⟨_,_,.inl ⟨rfl,_,_,_,rfl,rfl,rfl⟩,⟨_,_,.inl ⟨rfl,_,_,_,rfl,rfl,rfl⟩,⟨_,_,.inl ⟨rfl,_,_,_,rfl,rfl,rfl⟩,⟨_,_,.inl ⟨rfl,_,_,_,rfl,rfl,rfl⟩,⟨_,_,.inl ⟨rfl,_,_,_,rfl,rfl,rfl⟩,⟨_,_,.inl ⟨rfl,_,_,_,rfl,rfl,rfl⟩,⟨_,_,.inl ⟨rfl,_,_,_,rfl,rfl,rfl⟩,⟨_,_,.inl ⟨rfl,_,_,_,rfl,rfl,rfl⟩,⟨_,_,.inl ⟨rfl,_,_,_,rfl,rfl,rfl⟩,⟨_,_,.inl ⟨rfl,_,_,_,rfl,rfl,rfl⟩,rfl,rfl⟩,rfl⟩,rfl⟩,rfl⟩,rfl⟩,rfl⟩,rfl⟩,rfl⟩,rfl⟩,rfl⟩,rfl⟩,rfl⟩,rfl⟩,rfl⟩,rfl⟩,rfl⟩,rfl⟩,rfl⟩,rfl⟩,rfl⟩,rfl⟩,rfl⟩,rfl⟩,rfl⟩,rfl⟩,rfl⟩
theorem QC(x y:RK):tK T4 (bm ve x) (bm ve y) (decide (x=y)):=by
 have e:decide (x=y)=decide (x.1=y.1):=decide_eq_decide.2 Subtype.ext_iff;rw[e];exact QB x.1 y.1 x.2 y.2
theorem IZ(l:List Value):vg Tryz.prog 57 l=.agg l.toArray:=by
 have h:Tryz.prog.underlying 57=_:=Tryz.underlying57;unfold vg;rw[h]
theorem pS(x y:RK)(w:World)(op:BinOp)(X Y:Operand):(eqGuard op 57 X Y (.agg (bm ve x).toArray) (.agg (bm ve y).toArray)).run Tryz.prog w=.ok () w /\
  (binOp .eql 57 (.agg (bm ve x).toArray) (.agg (bm ve y).toArray)).run Tryz.prog w=.ok (.bool (decide (x=y))) w /\
  (binOp .neq 57 (.agg (bm ve x).toArray) (.agg (bm ve y).toArray)).run Tryz.prog w=.ok (.bool (!decide (x=y))) w:=by
 have MN:6<=Tryz.prog.depth:=by unfold Program.depth Made.depth;omega
 have e2:(Op.equalIn 10000 57 (.agg (bm ve x).toArray) (.agg (bm ve y).toArray)).run Tryz.prog w=.ok (decide (x=y)) w:=by
  have:=fR (P:=Tryz.prog) (w:=w) 6 57 T4 _ _ _ (10000-6) IY (QC x y);rw[IZ,IZ] at this;exact this
 have hg:Tryz.prog.eqGuardType Tryz.prog.depth 57=false:=by
  have:=fD (P:=Tryz.prog) 6 57 T4 (Tryz.prog.depth-6) IY
  rwa [show 6+(Tryz.prog.depth-6)=Tryz.prog.depth by omega] at this
 refine⟨?_,?_,?_⟩
 ·unfold eqGuard;cases op<;>simp[hg]
 ·rw[run_eql_struct];simp[e2]
 ·rw[run_neq_struct];simp[e2]
theorem qU(z:Array Value):∀n,(Builtin.zeroCells z n).toList=(List.replicate n z.toList).flatten
 | 0=>by simp[Builtin.zeroCells]
 | n+1=>by
  have ih:=qU z n;rw[List.replicate_succ',List.flatten_append,<-ih];unfold Builtin.zeroCells;simp only[Array.toList_map,Array.toList_range];rw[Nat.add_mul,Nat.one_mul,List.range_add,List.map_append,List.map_map]
  congr 1
  simp only[List.flatten_cons,List.flatten_nil,List.append_nil];apply List.ext_getElem
  ·simp
  ·intro j h1 h2;simp only[List.length_map,List.length_range] at h1;simp only[List.getElem_map,List.getElem_range,Function.comp];rw[Nat.mul_comm,Nat.mul_add_mod,Nat.mod_eq_of_lt h1];simp[getElem!_pos z j h1]
theorem MO:bm ve ⟨⟨false,false,0,0,0⟩,W4⟩=[.bool false,.int .u64 0,.int .u64 0,.int .u64 0,.int .u64 0,.int .u64 0,.int .u64 0,.int .u64 0,.int .u64 0,.bool false,.int .u64 0,.int .u64 0,.int .u64 0,.int .u64 0,.int .u64 0,.int .u64 0,.int .u64 0,.int .u64 0,.int .u64 0,.int .u64 0,.int .u64 0,.int .u64 0,.int .u64 0,.int .u64 0,.int .u64 0,.int .u64 0]:=by
 show(iS ⟨false,false,0,0,0⟩).map IQ=_;have h:∀k,wW 0 k=0:=MD;unfold iS fQ;simp only[h];rfl
theorem zF(l:List RK)(hl:l.length<=1000000)(h0:0<l.length):
  aM Tryz.prog G 147 [.own 1] [.ghost [.own 1,.af],.row 57 26 l.length (cR ve l)] (.own 1) [.ghost [.af,.af],.row 57 26 (dj l).length (cR ve (dj l))] :=
 aM.zB (ρ:=Tryz.qT) Tryz.MM 26 (by omega) (fun w=>by kernel_rfl) (fun w=>by kernel_rfl) ve (fun x=>Ej x.1) (fun _=>rfl)
  (fun x y w=>(pS x y w .eql default default).2.1) (fun x y w=>(pS x y w .eql default default).2.2) (fun op a b x y w=>(pS x y w op a b).1)
  ⟨⟨false,false,0,0,0⟩,W4⟩ _ Tryz.zeroValue57 (fun n=>by rw[qU,List.flatMap_def,List.map_replicate,MO];rfl)
  ⟨_,_,Tryz.func147,rfl,rfl⟩ 57 l hl h0
def mz(x:MS):RK:=⟨x.1,x.rk⟩
theorem I0{x y:MS}(h:mz x=mz y):x=y:=Subtype.ext (show x.1=y.1 from congrArg (fun z:RK=>z.1) h)
theorem oQ(l:List MS):∀m,m<=l.length->compactUpTo (l.map mz).toArray m=(compactUpTo l.toArray m).map mz
 | 0,_=>by simp[compactUpTo]
 | m+1,h=>by
  rw[compactUpTo_succ,compactUpTo_succ,List.map_append,oQ l m (by omega)]
  congr 1
  have g:∀i,i<l.length->(l.map mz).toArray[i]! = mz (l.toArray[i]!):=fun i hi=>by
   rw[getElem!_pos _ _ (by simpa using hi),getElem!_pos _ _ (by simpa using hi)];simp
  have hk:keeps (l.map mz).toArray m=keeps l.toArray m:=by
   unfold keeps;rw[decide_eq_decide,g m (by omega),g (m-1) (by omega)];constructor
   ·rintro(h|h)
    ·exact .inl h
    ·exact .inr fun e=>h (congrArg mz e)
   ·rintro(h|h)
    ·exact .inl h
    ·exact .inr fun e=>h (I0 e)
  rw[hk];split
  ·rw[g m (by omega)];rfl
  ·rfl
theorem zG(l:List MS)(i:Nat)(h:i<l.length):cR ve (l.map mz) i=cR Ck l i:=by
 unfold cR ve Ck mz;simp[List.getD_eq_getElem?_getD,h]
theorem I1(l:List MS):dj (l.map mz)=(dj l).map mz:=by
 unfold dj;rw[List.length_map,oQ l l.length (Nat.le_refl _)]
theorem zH(l:List MS)(hl:l.length<=1000000)(h0:0<l.length):
  aM Tryz.prog G 147 [.own 1] [.ghost [.own 1,.af],.row 57 26 l.length (cR Ck l)] (.own 1) [.ghost [.af,.af],.row 57 26 (dj l).length (cR ve ((dj l).map mz))]:=by
 have h2:=zF (G:=G) (l.map mz) (by simpa using hl) (by simpa using h0);rw[I1] at h2;have e1:=zG l;have e2:=zG (dj l);rw[List.length_map,List.length_map] at h2;refine aM.fit h2 rfl ?_;show ga _;(conv=>whnf)
 repeat (first|exact fa|((first|refine fb ?_|(refine And.intro ?_ ?_;rotate_left));conv=>whnf))
 all_goals first|exact Or.inl fun i hi=>(e1 i hi).symm
end Go.Proofs.YtijddijloelacaaGreat
/-
  DERIVED: THE SHELF's CONTRACTS AT THIS DUMP, IN PLAIN WORDS (tools/lay-plain.mjs out of 'TrySortShelf.lean', which tools/lay-shelf.mjs wrote): THE SAME DECLARATIONS UNDER THE SAME NAMES: 'import', 'namespace', 'open', 'def', 'theorem' AND NOTHING ELSE: no command of the shelf's: FOR A HAND-IN. Each laying: the table of numbers ('.._ren') and one theorem, a field a fact of the dump's own or the kernel's comparison; each contract: ONE APPLICATION.
-/
namespace Go.Proofs
open Go.Shelf
def Tryz.nE:Go.Shelf.Ren:=⟨fun|6=>201|15=>152|14=>267|28=>215|29=>216|20=>302|21=>303|22=>304|23=>305|24=>306|25=>307|26=>308|27=>309|46=>322|47=>270|48=>271|49=>323|50=>324|57=>335|n=>n,fun|22=>35|24=>57|25=>136|3=>3|39=>176|0=>0|53=>267|55=>51|4=>4|46=>261|45=>260|50=>68|5=>5|9=>9|66=>301|70=>305|76=>327|77=>242|n=>n,fun|n=>n⟩
theorem Tryz.F5:Go.Proofs.SlLaysF0.n6 Tryz.prog Tryz.nE:={
 mixed:=by kernel_rfl
 f6:=⟨Tryz.f201.name,by decide,Tryz.func201.trans (congrArg some (by kernel_rfl))⟩
 f14:=⟨Tryz.f267.name,by decide,Tryz.func267.trans (congrArg some (by kernel_rfl))⟩
 f15:=Tryz.func152.trans (congrArg some (by kernel_rfl))
 f20:=⟨Tryz.f302.name,by decide,Tryz.func302.trans (congrArg some (by kernel_rfl))⟩
 f21:=⟨Tryz.f303.name,by decide,Tryz.func303.trans (congrArg some (by kernel_rfl))⟩
 f22:=⟨Tryz.f304.name,by decide,Tryz.func304.trans (congrArg some (by kernel_rfl))⟩
 f23:=⟨Tryz.f305.name,by decide,Tryz.func305.trans (congrArg some (by kernel_rfl))⟩
 f24:=⟨Tryz.f306.name,by decide,Tryz.func306.trans (congrArg some (by kernel_rfl))⟩
 f25:=⟨Tryz.f307.name,by decide,Tryz.func307.trans (congrArg some (by kernel_rfl))⟩
 f26:=⟨Tryz.f308.name,by decide,Tryz.func308.trans (congrArg some (by kernel_rfl))⟩
 f27:=⟨Tryz.f309.name,by decide,Tryz.func309.trans (congrArg some (by kernel_rfl))⟩
 f28:=Tryz.func215.trans (congrArg some (by kernel_rfl))
 f29:=Tryz.func216.trans (congrArg some (by kernel_rfl))
 f46:=⟨Tryz.f322.name,by decide,Tryz.func322.trans (congrArg some (by kernel_rfl))⟩
 f47:=Tryz.func270.trans (congrArg some (by kernel_rfl))
 f48:=Tryz.func271.trans (congrArg some (by kernel_rfl))
 f49:=⟨Tryz.f323.name,by decide,Tryz.func323.trans (congrArg some (by kernel_rfl))⟩
 f50:=⟨Tryz.f324.name,by decide,Tryz.func324.trans (congrArg some (by kernel_rfl))⟩
 f57:=⟨Tryz.f335.name,by decide,Tryz.func335.trans (congrArg some (by kernel_rfl))⟩
 t0:=Tryz.underlying0
 a0:=Tryz.isAgg0
 z0:=Tryz.sizeOf0
 v0:=Tryz.zeroValue0
 t3:=Tryz.underlying3
 a3:=Tryz.isAgg3
 z3:=Tryz.sizeOf3
 v3:=Tryz.zeroValue3
 t4:=Tryz.underlying4
 a4:=Tryz.isAgg4
 z4:=Tryz.sizeOf4
 v4:=Tryz.zeroValue4
 t5:=Tryz.underlying5
 a5:=Tryz.isAgg5
 z5:=Tryz.sizeOf5
 v5:=Tryz.zeroValue5
 t9:=Tryz.underlying9
 a9:=Tryz.isAgg9
 z9:=Tryz.sizeOf9
 v9:=Tryz.zeroValue9
 t22:=Tryz.underlying35
 a22:=Tryz.isAgg35
 z22:=Tryz.sizeOf35
 v22:=Tryz.zeroValue35
 t25:=Tryz.underlying136
 a25:=Tryz.isAgg136
 z25:=Tryz.sizeOf136
 v25:=Tryz.zeroValue136
 t39:=Tryz.underlying176
 a39:=Tryz.isAgg176
 z39:=Tryz.sizeOf176
 v39:=Tryz.zeroValue176
 t45:=Tryz.underlying260
 a45:=Tryz.isAgg260
 z45:=Tryz.sizeOf260
 v45:=Tryz.zeroValue260
 t46:=Tryz.underlying261
 a46:=Tryz.isAgg261
 z46:=Tryz.sizeOf261
 v46:=Tryz.zeroValue261
 t50:=Tryz.underlying68
 a50:=Tryz.isAgg68
 z50:=Tryz.sizeOf68
 v50:=Tryz.zeroValue68
 t53:=Tryz.underlying267
 a53:=Tryz.isAgg267
 z53:=Tryz.sizeOf267
 v53:=Tryz.zeroValue267
 t55:=Tryz.underlying51
 a55:=Tryz.isAgg51
 z55:=Tryz.sizeOf51
 v55:=Tryz.zeroValue51
 t66:=Tryz.underlying301
 a66:=Tryz.isAgg301
 z66:=Tryz.sizeOf301
 v66:=Tryz.zeroValue301
 t70:=Tryz.underlying305
 a70:=Tryz.isAgg305
 z70:=Tryz.sizeOf305
 v70:=Tryz.zeroValue305
 t76:=Tryz.underlying327
 a76:=Tryz.isAgg327
 z76:=Tryz.sizeOf327
 v76:=Tryz.zeroValue327
 t77:=Tryz.underlying242
 a77:=Tryz.isAgg242
 z77:=Tryz.sizeOf242
 v77:=Tryz.zeroValue242 }
end Go.Proofs
namespace Go.Proofs.YtijddijloelacaaGreat
open Go.Proofs.YtijddijloelacaaGreat.Am Go.Sort Go.Proofs Go.Lib
variable [Inhabited cc]
variable {G:aG}
theorem I3(l:List MS)(hl:l.length<=1000000)(h0:0<l.length):
  @aM Hj Tryz.prog G 201 [.own 1,.fn 146 []] [.ghost [.own 1,.af,.af],.row 57 26 l.length (cR Ck l)] (.tup []) [.ghost [.own 1,.af,.af],.row 57 26 l.length (cR Ck (eL vd l))] :=
 @aM.vH Hj Tryz.prog Tryz.nE G MS _ (fun h=>h) Tryz.F5 26 (by omega) (fun w=>by kernel_rfl) (fun w=>by kernel_rfl) Ck (fun x=>Ej x.1) (fun _=>rfl) vd Cj 146 [] rfl
  (fun x y=>@F4 Hj G x.1 y.1 x.2 y.2) ⟨_,_,Tryz.func201,rfl,rfl⟩ 57 l hl h0
theorem I4(dA:(default:cc).ns)(l:List MS)(hl:l.length<=1000000)(h0:0<l.length):
  aM Tryz.prog G 201 [.own 1,.fn 146 []] [.ghost [.own 1,.af,.af],.row 57 26 l.length (cR Ck l)] (.tup []) [.ghost [.own 1,.af,.af],.row 57 26 l.length (cR Ck (eL vd l))] :=
 qV dA (I3 l hl h0)
theorem F6(dA:(default:cc).ns)(row:Nat->List A):
  aa Tryz.prog G 144 [.fn 202 [.bref [.sl 0 26 row] 0],.fn 146 []] (.sl 0 26 row):=by
 have h1:=vG (G:=G) dA 0 row (fun i h=>absurd h (Nat.not_lt_zero i)) (by omega);have h2:=Ib (G:=G) row;refine aa.ah al Tryz.func144 rfl rfl _ rfl ?_;(conv=>whnf);repeat' ((first|refine st ?_|(refine⟨fun h=>?_,fun h=>?_⟩<;>try simp only[ae] at h)|(refine .inr (.inr (.inl ?_));(conv=>whnf);refine⟨_,h2,?_⟩)|((first|refine .inr (.inr (.inr ?_))|refine .inr ?_);(conv=>whnf);refine⟨_,_,h1,?_⟩)|refine wf ?_|refine az ?_|refine nn ?_|fail)<;>conv=>whnf)
 exact .inl fun _ _=>rfl
theorem F7(dA:(default:cc).ns)(l:List MS)(row:Nat->List A)(hr:∀i,i<l.length->row i=cR Ck l i)(hl:l.length<=1000000)(h0:0<l.length):
  aM Tryz.prog G 144 [.fn 202 [.bref [.sl l.length 26 row] 0],.fn 146 []] [] (.own 0) [.row 57 26 l.length (cR Ck (eL vd l))]:=by
 have h1:=vG (G:=G) dA l.length row (fun i h=>by rw[hr i h];rfl) hl;have h2:=I4 (G:=G) dA l hl h0;generalize cR Ck (eL vd l)=r2 at *;generalize cR Ck l=r1 at *
 have h3:aM Tryz.prog G 201 [.own 1,.fn 146 []] [.ghost [.own 1,.af,.af],.row 57 26 l.length row] (.tup []) [.ghost [.own 1,.af,.af],.row 57 26 l.length r2]:=by
  refine aM.fit h2 rfl ?_;show ga _;(conv=>whnf)
  repeat (first|exact fa|((first|refine fb ?_|(refine And.intro ?_ ?_;rotate_left));conv=>whnf))
  all_goals first|exact Or.inl hr
 refine aM.ah al Tryz.func144 rfl rfl _ rfl ?_;(conv=>whnf);repeat' ((first|refine st ?_|(refine⟨fun h=>?_,fun h=>?_⟩<;>try simp only[ae] at h)|(refine .inr (.inl ?_);(conv=>whnf);refine⟨_,_,h3,?_⟩)|((first|refine .inr (.inr (.inr ?_))|refine .inr ?_);(conv=>whnf);refine⟨_,_,h1,?_⟩)|refine wf ?_|refine az ?_|refine nn ?_|fail)<;>conv=>whnf)
 exact .inl fun _ _=>rfl
/-- The spots that may be, as a list of such. -/
def gu(l:List RS)(h:∀r∈l,eC r):List MS:=l.pmap Subtype.mk h
theorem zI(l:List RS)(h:∀r∈l,eC r):(gu l h).length=l.length:=by simp[gu]
theorem I5(l:List RS)(h:∀r∈l,eC r)(i:Nat)(hi:i<l.length):cR Ck (gu l h) i=iS (l.getD i default):=by
 unfold cR Ck gu;simp[List.getD_eq_getElem?_getD,hi]
def Ek(l:List RS)(h:∀r∈l,eC r):List MS:=dj (eL vd (gu l h))
theorem MP(dA:(default:cc).ns)(l:List RS)(hl:l.length<=1000000)(h:∀r∈l,eC r)(h0:0<l.length):
  aa Tryz.prog G 96 [dX l] (.tup [.sl (Ek l h).length 26 (cR ve ((Ek l h).map mz)),.int .i64 0]):=by
 have h1:=IX (G:=G) l h hl;have hlen:=zI l h;have dC:=I5 l h;have Bp:=gW vd Cj (gu l h);have h2:=zD (G:=G) l.length (fun i=>iS (l.getD i default));have h3:=F7 (G:=G) dA (gu l h) (fun i=>iS (l.getD i default)) (fun i q=>(dC i (by omega)).symm) (by omega) (by omega);have h4:=zH (G:=G) (eL vd (gu l h)) (by omega) (by omega);rw[hlen] at h3;rw[Bp,hlen] at h4;unfold Ek;unfold dX at *;generalize cR ve ((dj (eL vd (gu l h))).map mz)=r3 at *;generalize (dj (eL vd (gu l h))).length=n3 at *;generalize cR Ck (eL vd (gu l h))=r2 at *;clear dC;refine aa.ah al Tryz.func96 rfl rfl _ rfl ?_;(conv=>whnf);repeat' ((first|refine st ?_|(refine⟨fun h=>?_,fun h=>?_⟩<;>try simp only[ae] at h)|(refine .inl ?_;(conv=>whnf);(first|refine⟨_,h1,?_⟩|refine⟨_,h2,?_⟩))|(refine .inr (.inl ?_);(conv=>whnf);refine⟨_,_,h4,?_⟩)|((first|refine .inr (.inr (.inr ?_))|refine .inr ?_);(conv=>whnf);refine⟨_,_,h3,?_⟩)|refine wf ?_|refine az ?_|refine nn ?_|fail)<;>conv=>whnf)
 all_goals first|contradiction|skip
 all_goals first|exact⟨.inl fun _ _=>rfl,rfl⟩|exact⟨.inl fun _ _=>rfl,rfl,trivial⟩
theorem I6(dA:(default:cc).ns):
  aa Tryz.prog G 96 [dX []] (.tup [dX [],.int .i64 0]):=by
 have h1:=IX (G:=G) [] (fun r q=>absurd q (by simp)) (by simp);have h2:=zD (G:=G) 0 (fun i=>iS (([]:List RS).getD i default));have h3:=F6 (G:=G) dA (fun i=>iS (([]:List RS).getD i default));have h4:=FK (G:=G) (fun i=>iS (([]:List RS).getD i default));unfold dX at *;refine aa.ah al Tryz.func96 rfl rfl _ rfl ?_;(conv=>whnf);repeat' ((first|refine st ?_|(refine⟨fun h=>?_,fun h=>?_⟩<;>try simp only[ae] at h)|(refine .inl ?_;(conv=>whnf);(first|refine⟨_,h1,?_⟩|refine⟨_,h2,?_⟩|refine⟨_,h3,?_⟩|refine⟨_,h4,?_⟩))|refine wf ?_|refine az ?_|refine nn ?_|fail)<;>conv=>whnf)
 all_goals first|contradiction|skip
 all_goals first|exact⟨.inl fun _ _=>rfl,rfl⟩|exact⟨.inl fun _ _=>rfl,rfl,trivial⟩
end Go.Proofs.YtijddijloelacaaGreat
namespace Go.Proofs.YtijddijloelacaaGreat
open Go.Proofs.YtijddijloelacaaGreat.Am Go.Sort Go.Proofs
variable [Inhabited cc]
variable {G:aG}
end Go.Proofs.YtijddijloelacaaGreat
namespace Go.Proofs.YtijddijloelacaaGreat.Am
open Go.Lib
section
variable {α : Type} [Inhabited α] [DecidableEq α] {R : α -> α -> Prop}
/-- What is sorted, each once. -/
theorem mA(L:List α)(ht:∀x y z,R x y->R y z->R x z)(hs:∀i j,i<j->j<L.length->¬R (L.getD j default) (L.getD i default))(hi:∀x∈L,∀y∈L,¬R x y->¬R y x->x=y):
  ∀m,m<=L.length->(compactUpTo L.toArray m).Pairwise R/\∀x,x∈compactUpTo L.toArray m↔∃i,i<m/\L.getD i default=x:=by
 have rK:∀i:Nat,L.toArray[i]! = L.getD i default:=fun i=>by
  rw[List.getD_eq_getElem?_getD];simp[Array.getElem!_eq_getD,Array.getD_eq_getD_getElem?]
 have jK:∀i,i<L.length->L.getD i default∈L:=fun i h=>by
  rw[List.getD_eq_getElem?_getD,List.getElem?_eq_getElem h];exact List.getElem_mem _
 intro m
 induction m with
 | zero=>intro _;exact⟨by simp[compactUpTo],fun x=>by simp[compactUpTo]⟩
 | succ m ih =>
  intro hm;obtain⟨h1,h2⟩:=ih (by omega);rw[compactUpTo_succ];by_cases hk:keeps L.toArray m
  ·rw[if_pos hk,rK];refine⟨List.pairwise_append.2 ⟨h1,by simp,fun x hx y hy=>?_⟩,fun x=>?_⟩
   ·obtain⟨i,nC,rfl⟩:=(h2 x).1 hx;rw[List.mem_singleton.1 hy];refine Classical.byContradiction fun hn=>?_;have e:=hi _ (jK i (by omega)) _ (jK m (by omega)) hn (hs i m nC (by omega));have hm0:m≠0:=by omega
    have gv:L.getD m default≠L.getD (m-1) default:=by
     unfold keeps at hk;rw[rK,rK] at hk;simpa[hm0] using hk
    refine gv ?_;refine hi _ (jK m (by omega)) _ (jK (m-1) (by omega)) (hs (m-1) m (by omega) (by omega)) ?_;intro hr;rcases Nat.lt_or_ge i (m-1) with h|h
    ·rw[<-e] at hr;exact hs i (m-1) h (by omega) hr
    ·have:i=m-1:=by omega
     subst this;exact hn hr
   ·rw[List.mem_append,h2,List.mem_singleton];constructor
    ·rintro(⟨i,h,e⟩|h)
     ·exact⟨i,by omega,e⟩
     ·exact⟨m,by omega,h.symm⟩
    ·rintro⟨i,h,e⟩;rcases Nat.lt_or_ge i m with h'|h'
     ·exact .inl ⟨i,h',e⟩
     ·have:i=m:=by omega
      subst this;exact .inr e.symm
  ·rw[if_neg hk,List.append_nil]
   have gv:m≠0/\L.getD m default=L.getD (m-1) default:=by
    unfold keeps at hk;rw[rK,rK] at hk;simpa using hk
   refine⟨h1,fun x=>?_⟩;rw[h2];constructor
   ·rintro⟨i,h,e⟩;exact⟨i,by omega,e⟩
   ·rintro⟨i,h,e⟩;rcases Nat.lt_or_ge i m with h'|h'
    ·exact⟨i,h',e⟩
    ·have:i=m:=by omega
     subst this;exact⟨i-1,by omega,by rw[<-gv.2];exact e⟩
theorem pT(hr:∀x,¬R x x)(ha:∀x y,R x y->R y x->False):∀(l m:List α),l.Pairwise R->m.Pairwise R->(∀x,x∈l↔x∈m)->l=m
 | [],[],_,_,_=>rfl
 | [],b::m,_,_,h=>by have:=(h b).2 (List.mem_cons_self ..);cases this
 | a::l,[],_,_,h=>by have:=(h a).1 (List.mem_cons_self ..);cases this
 | a::l,b::m,h1,h2,h=>by
  have g1:=List.pairwise_cons.1 h1;have g2:=List.pairwise_cons.1 h2;have TB:∀p q,R p q->p≠q:=fun p q h e=>by subst e;exact hr _ h
  have e:a=b:=by
   rcases List.mem_cons.1 ((h a).1 (List.mem_cons_self ..)) with e|SB
   ·exact e
   ·rcases List.mem_cons.1 ((h b).2 (List.mem_cons_self ..)) with e|hb
    ·exact e.symm
    ·exact(ha _ _ (g2.1 a SB) (g1.1 b hb)).elim
  subst e;rw[pT hr ha l m g1.2 g2.2 fun x=>?_];constructor
  ·intro hx;rcases List.mem_cons.1 ((h x).1 (List.mem_cons_of_mem _ hx)) with e|h'
   ·exact absurd e.symm (TB _ _ (g1.1 x hx))
   ·exact h'
  ·intro hx;rcases List.mem_cons.1 ((h x).2 (List.mem_cons_of_mem _ hx)) with e|h'
   ·exact absurd e.symm (TB _ _ (g2.1 x hx))
   ·exact h'
variable [DecidableRel R]
/-- How far what is put in goes, of the first k. -/
def zJ(R:α->α->Prop)[DecidableRel R](l:List α)(c:α):Nat->Nat
 | 0=>0
 | k+1=>if R (l.getD k default) c then k+1 else zJ R l c k
theorem pU(l:List α)(c:α):∀k,zJ R l c k<=k
 | 0=>Nat.le_refl _
 | k+1=>by
  have:=pU l c k;unfold zJ;split<;>omega
theorem I7(l:List α)(c:α):∀k i,zJ R l c k<=i->i<k->¬R (l.getD i default) c
 | 0,i,_,h=>by omega
 | k+1,i,h,hi=>by
  unfold zJ at h;split at h
  ·omega
  ·rcases Nat.lt_or_ge i k with h'|h'
   ·exact I7 l c k i h h'
   ·have:i=k:=by omega
    subst this;assumption
theorem I8(l:List α)(c:α):∀k,0<zJ R l c k->R (l.getD (zJ R l c k-1) default) c
 | 0,h=>by simp[zJ] at h
 | k+1,h=>by
  unfold zJ at h ⊢;split
  ·simpa using by assumption
  ·rename_i hn;rw[if_neg hn] at h;exact I8 l c k h
def oR(R:α->α->Prop)[DecidableRel R](l:List α)(c:α):List α:=if c∈l then l else l.take (zJ R l c l.length)++c::l.drop (zJ R l c l.length)
theorem tL(ht:∀x y z,R x y->R y z->R x z)(l:List α)(c:α)(hl:l.Pairwise R)(hi:∀x∈l,¬R x c->¬R c x->x=c):
  (oR R l c).Pairwise R/\∀x,x∈oR R l c↔x=c\/x∈l:=by
 unfold oR;by_cases hc:c∈l
 ·rw[if_pos hc];refine⟨hl,fun x=>⟨.inr,?_⟩⟩;rintro(rfl|h)
  ·exact hc
  ·exact h
 ·rw[if_neg hc];have hle:=pU (R:=R) l c l.length;have I9:=I7 (R:=R) l c l.length;have gJ:=I8 (R:=R) l c l.length;generalize zJ R l c l.length=a at *;have hp:=List.pairwise_iff_getElem.1 hl;have gd:∀i (h:i<l.length),l.getD i default=l[i]:=fun i h=>by rw[List.getD_eq_getElem?_getD,List.getElem?_eq_getElem h];rfl
  have W5:∀x∈l.take a,R x c:=fun x hx=>by
   obtain⟨i,h,rfl⟩:=List.getElem_of_mem hx;rw[List.length_take] at h;rw[List.getElem_take];have h3:=gJ (by omega);rw[gd (a-1) (by omega)] at h3;rcases Nat.lt_or_ge i (a-1) with h4|h4
   ·exact ht _ _ _ (hp i (a-1) (by omega) (by omega) h4) h3
   ·have:i=a-1:=by omega
    subst this;exact h3
  have T5:∀x∈l.drop a,R c x:=fun x hx=>by
   obtain⟨i,h,rfl⟩:=List.getElem_of_mem hx;rw[List.length_drop] at h;rw[List.getElem_drop];have h3:=I9 (a+i) (by omega) (by omega);rw[gd (a+i) (by omega)] at h3;refine Classical.byContradiction fun hn=>?_;have e:=hi _ (List.getElem_mem (by omega:a+i<l.length)) h3 hn;exact hc (by rw[<-e];exact List.getElem_mem _)
  have I':l.take a++l.drop a=l:=List.take_append_drop a l;have hpa:(l.take a++l.drop a).Pairwise R:=by rw[I'];exact hl
  obtain⟨p1,p2,p3⟩:=List.pairwise_append.1 hpa;refine⟨List.pairwise_append.2 ⟨p1,List.pairwise_cons.2 ⟨T5,p2⟩,fun x hx y hy=>?_⟩,fun x=>?_⟩
  ·rcases List.mem_cons.1 hy with rfl|hy
   ·exact W5 x hx
   ·exact p3 x hx y hy
  ·rw[List.mem_append,List.mem_cons];have hx:x∈l↔x∈l.take a\/x∈l.drop a:=by rw[<-List.mem_append,I']
   rw[hx];constructor
   ·rintro(h|h|h)
    ·exact .inr (.inl h)
    ·exact .inl h
    ·exact .inr (.inr h)
   ·rintro(h|h|h)
    ·exact .inr (.inl h)
    ·exact .inl h
    ·exact .inr (.inr h)
end
end Go.Proofs.YtijddijloelacaaGreat.Am
namespace Go.Proofs.YtijddijloelacaaGreat
open Go.Proofs.YtijddijloelacaaGreat.Am Go.Sort Go.Proofs Go.Lib
variable [Inhabited cc]
variable {G:aG}
def xc(a b:MS):Prop:=gI a.1 b.1<0
instance:DecidableRel xc:=fun a b=>inferInstanceAs (Decidable (gI a.1 b.1 < 0))
def QD(c:MS)(L:List MS):Bool:=L.any fun x=>decide (gI x.1 c.1=0)
def xd(L:List MS)(c:MS):List MS:=if QD c L=true then L else L.take (zJ xc L c L.length)++c::L.drop (zJ xc L c L.length)
theorem Ja(L:List MS)(c:MS):(xd L c).length<=L.length+1:=by
 unfold xd;split
 ·omega
 ·have:=pU (R:=xc) L c L.length;simp;omega
def dm(l:List MS):List MS:=l.foldl xd []
theorem zK(l:List MS)(i:Nat)(h:i<l.length):dm (l.take (i+1))=xd (dm (l.take i)) (l.getD i default):=by
 unfold dm;rw[List.take_add_one,List.foldl_append,List.getElem?_eq_getElem h,List.getD_eq_getElem?_getD,List.getElem?_eq_getElem h];rfl
theorem tM(l:List MS):∀k,k<=l.length->(dm (l.take k)).length<=k
 | 0,_=>by simp[dm]
 | k+1,h=>by
  rw[zK l k (by omega)];exact Nat.le_trans (Ja _ _) (by have:=tM l k (by omega);omega)
end Go.Proofs.YtijddijloelacaaGreat
namespace Go.Proofs.YtijddijloelacaaGreat
open Go.Proofs.YtijddijloelacaaGreat.Am Go.Sort Go.Proofs Go.Lib
variable [Inhabited cc]
theorem pV(x y z:MS)(h1:xc x y)(h2:xc y z):xc x z:=tJ x.2.2.1 y.2.2.1 z.2.2.1 h1 h2
theorem xe(x:MS):¬xc x x:=by unfold xc;rw[pR];omega
theorem MQ(x y:MS)(h1:xc x y)(h2:xc y x):False:=xe x (pV x y x h1 h2)
theorem Jb{x y:MS}(h:gI x.1 y.1=0):x=y:=Subtype.ext (F3 x.2 y.2 h)
theorem O1{x y:MS}(h1:¬xc x y)(h2:¬xc y x):x=y:=by
 unfold xc at *;rw[xb] at h1 h2;exact Jb ((Cg _ _).2 ⟨by omega,by omega⟩)
theorem El(c:MS)(L:List MS):QD c L=true↔c∈L:=by
 unfold QD;rw[List.any_eq_true];constructor
 ·rintro⟨x,h1,h2⟩;rw[<-Jb (of_decide_eq_true h2)];exact h1
 ·intro h;exact⟨c,h,decide_eq_true (pR _)⟩
theorem MR(L:List MS)(c:MS):xd L c=oR xc L c:=by
 unfold xd oR;by_cases h:c∈L
 ·rw[if_pos ((El c L).2 h),if_pos h]
 ·rw[if_neg (fun q=>h ((El c L).1 q)),if_neg h]
theorem fE:∀(M L:List MS),L.Pairwise xc->(M.foldl xd L).Pairwise xc/\(∀x,x∈M.foldl xd L↔x∈L\/x∈M)
 | [],L,h=>⟨h,fun x=>by simp⟩
 | c::M,L,h=>by
  obtain⟨p1,p2⟩:=tL pV L c h (fun x _=>O1);rw[<-MR] at p1 p2;obtain⟨q1,q2⟩:=fE M (xd L c) p1;refine⟨q1,fun x=>?_⟩;rw[List.foldl_cons,q2,p2,List.mem_cons];constructor
  ·rintro((h|h)|h)
   ·exact .inr (.inl h)
   ·exact .inl h
   ·exact .inr (.inr h)
  ·rintro(h|h|h)
   ·exact .inl (.inr h)
   ·exact .inl (.inl h)
   ·exact .inr h
theorem zL(L:List MS):(dj (eL vd L)).Pairwise xc/\∀x,x∈dj (eL vd L)↔x∈L:=by
 obtain⟨hp,hs⟩:=cY vd Cj L;have hlen:=hp.length_eq
 obtain⟨c1,c2⟩:=mA (R:=xc) (eL vd L) pV (fun i j kK hj hr=>by
  have:=hs i j kK (by omega);rw[(Ci _ _).2 hr] at this;exact Bool.noConfusion this) (fun x _ y _=>O1) (eL vd L).length (Nat.le_refl _)
 refine⟨c1,fun x=>?_⟩;show x∈compactUpTo _ _↔_;rw[c2,<-hp.mem_iff];constructor
 ·rintro⟨i,hi,rfl⟩;rw[List.getD_eq_getElem?_getD,List.getElem?_eq_getElem hi];exact List.getElem_mem _
 ·intro hx;obtain⟨i,hi,e⟩:=List.getElem_of_mem hx;exact⟨i,hi,by rw[List.getD_eq_getElem?_getD,List.getElem?_eq_getElem hi];exact e⟩
/-- The program's list is the document's. -/
theorem Cl(L:List MS):dj (eL vd L)=dm L:=by
 obtain⟨a1,a2⟩:=zL L;obtain⟨b1,b2⟩:=fE L [] List.Pairwise.nil;refine pT xe MQ _ _ a1 b1 fun x=>?_;rw[a2,show(x∈dm L↔x∈L) from by unfold dm;rw[b2];simp]
end Go.Proofs.YtijddijloelacaaGreat
namespace Go.Proofs.YtijddijloelacaaGreat
open Go.Proofs.YtijddijloelacaaGreat.Am Go.Sort Go.Proofs Go.Lib
variable [Inhabited cc]
variable {G:aG}
def kZ(L:List MS):List RS:=L.map (·.1)
theorem Jc(L:List MS):cR ve (L.map mz)=fun i=>iS ((kZ L).getD i default):=by
 funext i
 unfold cR ve kZ
 congr 1
 rw[List.getD_eq_getElem?_getD,List.getD_eq_getElem?_getD,List.getElem?_map,List.getElem?_map];cases L[i]?<;>rfl
theorem QE(dA:(default:cc).ns)(l:List RS)(hl:l.length<=10000)(h:∀r∈l,eC r):
  aa Tryz.prog G 96 [dX l] (.tup [dX (kZ (dm (gu l h))),.int .i64 0]):=by
 by_cases h0:l=[]
 ·subst h0;exact I6 dA
 ·have k:=MP (G:=G) dA l (by omega) h (List.length_pos_iff.2 h0);rw[Jc] at k;unfold Ek at k;rw[Cl] at k;have e:(dm (gu l h)).length=(kZ (dm (gu l h))).length:=by simp[kZ]
  rw[e] at k;exact k
end Go.Proofs.YtijddijloelacaaGreat
namespace Go.Proofs.YtijddijloelacaaGreat
open Go.Proofs.YtijddijloelacaaGreat.Am
variable [Inhabited cc]
variable {G:aG}
def rX(n d:Int):Prop:=n<0\/d<1\/d<n
instance (n d:Int):Decidable (rX n d):=inferInstanceAs (Decidable (_\/_))
def gP(n d:Int):Nat:=Nat.gcd n.toNat d.toNat
def b9(n d:Int):Int:=if rX n d then 0 else ((n.toNat/gP n d:Nat):Int)
def aW(n d:Int):Int:=if rX n d then 1 else ((d.toNat/gP n d:Nat):Int)
theorem jN(n d:Int)(hd:d<=9223372036854775807):0<=b9 n d/\b9 n d<=aW n d/\1<=aW n d/\aW n d<=9223372036854775807:=by
 unfold b9 aW;by_cases h:rX n d
 ·rw[if_pos h,if_pos h];decide
 ·rw[if_neg h,if_neg h];unfold rX at h;have hp:0<gP n d:=Nat.gcd_pos_of_pos_right _ (by omega);have h1:n.toNat/gP n d<=d.toNat/gP n d:=Nat.div_le_div_right (by omega);have h2:0<d.toNat/gP n d:=Nat.div_pos (Nat.le_of_dvd (by omega) (Nat.gcd_dvd_right _ _)) hp;have h3:d.toNat/gP n d<=d.toNat:=Nat.div_le_self _ _;generalize n.toNat/gP n d=u at *;generalize d.toNat/gP n d=v at *;omega
theorem QF(N g D:Nat)(h:N<=D)(hD:(D:Int)<=9223372036854775807):IntKind.i64.wrap ((N:Int).tdiv (g:Int))=((N/g:Nat):Int):=by
 have e:(N:Int).tdiv (g:Int)=((N/g:Nat):Int):=rfl;have:=Nat.div_le_self N g;rw[e];generalize N/g=q at *;rw[IntKind.wrap_i64];omega
theorem QG(n d:Int)(hd:d<=9223372036854775807):aa Tryz.prog G 188 [.int .i64 n,.int .i64 d] (.tup [.int .i64 (b9 n d),.int .i64 (aW n d)]):=by
 unfold b9 aW;by_cases hB:rX n d
 ·rw[if_pos hB,if_pos hB];unfold rX at hB;refine aa.ah al Tryz.func188 rfl rfl _ rfl ?_;(conv=>whnf);repeat' ((first|refine st ?_|(refine⟨fun h=>?_,fun h=>?_⟩<;>try simp only[ae] at h)|refine wf ?_|refine az ?_|refine nn ?_|fail)<;>conv=>whnf)
  all_goals first|contradiction|(exfalso;omega)|skip
 ·rw[if_neg hB,if_neg hB];have h1:0<=n/\1<=d/\n<=d:=by unfold rX at hB;omega
  obtain⟨N,rfl⟩:∃N:Nat,n=N:=⟨n.toNat,by omega⟩;obtain⟨D,rfl⟩:∃D:Nat,d=D:=⟨d.toNat,by omega⟩;unfold gP;rw[Int.toNat_natCast,Int.toNat_natCast];refine aa.ah al Tryz.func188 rfl rfl _ rfl ?_;(conv=>whnf);repeat' ((first|(exact absurd (show((N:Nat):Int)<0 by assumption) (by omega))|(exact absurd (show((D:Nat):Int)<1 by assumption) (by omega))|(exact absurd (show((D:Nat):Int)<N by assumption) (by omega))|refine st ?_|(refine⟨fun h=>?_,fun h=>?_⟩<;>try simp only[ae] at h)|refine wf ?_|refine az ?_|refine nn ?_|fail)<;>conv=>whnf)
  refine ak (fun x:Nat×Nat=>Nat.gcd x.1 x.2=Nat.gcd N D/\0<x.2/\x.1<=D/\x.2<=D) (fun x=>match x with|(a,b)=>[(6,.int .i64 (a:Int)),(7,.int .i64 (b:Int))]) (fun _=>[]) (fun x=>x.1) (N,D) ⟨rfl,by omega,by omega,Nat.le_refl _⟩ ?_ ?_
  ·conv=>whnf
   repeat (first|exact fa|((first|refine fb ?_|(refine And.intro ?_ ?_;rotate_left));conv=>whnf))
  ·rintro⟨a,b⟩ ⟨hg,hb,Y6,mU⟩;simp only at hg hb Y6 mU;(conv=>whnf);repeat' ((first|refine st ?_|(refine⟨fun h=>?_,fun h=>?_⟩<;>try simp only[ae] at h)|refine wf ?_|refine az ?_|refine nn ?_|fail)<;>conv=>whnf)
   ·have ha:0<a:=by omega
    have hm:=Nat.mod_lt b ha;refine⟨(b%a,a),⟨by show Nat.gcd (b%a) a=_;rw[<-hg,<-Nat.gcd_rec],ha,(by show b%a<=D;omega),Y6⟩,hm,?_⟩;(conv=>whnf)
    repeat (first|exact fa|((first|refine fb ?_|(refine And.intro ?_ ?_;rotate_left));conv=>whnf))
   ·have ha:a=0:=by omega
    subst ha;rw[Nat.gcd_zero_left] at hg;subst hg;repeat' ((first|refine st ?_|(refine⟨fun h=>?_,fun h=>?_⟩<;>try simp only[ae] at h)|refine wf ?_|refine az ?_|refine nn ?_|fail)<;>conv=>whnf)
    refine⟨QF N _ D (by omega) hd,?_⟩;(conv=>whnf)
    first|exact QF D _ D (Nat.le_refl _) hd|exact⟨QF D _ D (Nat.le_refl _) hd,trivial⟩
structure W8 where
 a:Nat
 b:Nat
 c:Nat
 d:Nat
 e:Nat
 f:Nat
 g:Nat
 h:Nat
 deriving Inhabited,DecidableEq
structure Ct where
 n:Int
 d:Int
 p:Bool
 q:Bool
 X:W8
 Y:W8
 W:W8
 deriving Inhabited,DecidableEq
def w8(f:Nat->Nat):W8:=⟨f 0,f 1,f 2,f 3,f 4,f 5,f 6,f 7⟩
def zM(c:Ct):List A:=[.sb c.p,.int .u64 (c.X.a:Nat),.int .u64 (c.X.b:Nat),.int .u64 (c.X.c:Nat),.int .u64 (c.X.d:Nat),.int .u64 (c.X.e:Nat),.int .u64 (c.X.f:Nat),.int .u64 (c.X.g:Nat),.int .u64 (c.X.h:Nat),
 .sb c.q,.int .u64 (c.Y.a:Nat),.int .u64 (c.Y.b:Nat),.int .u64 (c.Y.c:Nat),.int .u64 (c.Y.d:Nat),.int .u64 (c.Y.e:Nat),.int .u64 (c.Y.f:Nat),.int .u64 (c.Y.g:Nat),.int .u64 (c.Y.h:Nat),
 .int .u64 (c.W.a:Nat),.int .u64 (c.W.b:Nat),.int .u64 (c.W.c:Nat),.int .u64 (c.W.d:Nat),.int .u64 (c.W.e:Nat),.int .u64 (c.W.f:Nat),.int .u64 (c.W.g:Nat),.int .u64 (c.W.h:Nat)]
def vI(c:Ct):List A:=[.int .i64 c.n,.int .i64 c.d,.sb c.p,.int .u64 (c.X.a:Nat),.int .u64 (c.X.b:Nat),.int .u64 (c.X.c:Nat),.int .u64 (c.X.d:Nat),.int .u64 (c.X.e:Nat),.int .u64 (c.X.f:Nat),.int .u64 (c.X.g:Nat),.int .u64 (c.X.h:Nat),
 .sb c.q,.int .u64 (c.Y.a:Nat),.int .u64 (c.Y.b:Nat),.int .u64 (c.Y.c:Nat),.int .u64 (c.Y.d:Nat),.int .u64 (c.Y.e:Nat),.int .u64 (c.Y.f:Nat),.int .u64 (c.Y.g:Nat),.int .u64 (c.Y.h:Nat),
 .int .u64 (c.W.a:Nat),.int .u64 (c.W.b:Nat),.int .u64 (c.W.c:Nat),.int .u64 (c.W.d:Nat),.int .u64 (c.W.e:Nat),.int .u64 (c.W.f:Nat),.int .u64 (c.W.g:Nat),.int .u64 (c.W.h:Nat)]
def vJ(c:Ct):Prop:=0<=c.n/\c.n<=c.d/\1<=c.d/\c.d<=9223372036854775807
instance (c:Ct):Decidable (vJ c):=inferInstanceAs (Decidable (_/\_))
abbrev Cu:Type:={ c:Ct//vJ c }

instance:Inhabited Cu:=⟨⟨⟨0,1,false,false,default,default,default⟩,by decide⟩⟩
def zN(c:Cu):List A:=vI c.1
/-- A cut of parts, at a spot that is made lowest. -/
def T6(n d x y:Int)(w:Nat):Ct:=⟨n,d,decide (qz x (gg x y w)<0),decide (qz y (gg x y w)<0),w8 (wW (qz x (gg x y w)).natAbs),w8 (wW (qz y (gg x y w)).natAbs),w8 (wW (w/gg x y w))⟩
def yy(s:Sg)(n d:Int):Ct:=T6 (b9 n d) (aW n d) (xS s (b9 n d) (aW n d)) (yS s (b9 n d) (aW n d)) (aW n d).toNat
theorem Jd(s:Sg)(n d:Int)(h:d<=9223372036854775807):vJ (yy s n d):=jN n d h
def np(s:Sg)(n d:Int):Cu:=if h:d<=9223372036854775807 then ⟨yy s n d,Jd s n d h⟩ else default
theorem dF{s:Sg}{n d:Int}(h:d<=9223372036854775807):(np s n d).1=yy s n d:=by unfold np;rw[dif_pos h]
theorem xf(c:Ct):∃n d p q X Y W,c=⟨n,d,p,q,X,Y,W⟩:=⟨_,_,_,_,_,_,_,rfl⟩
theorem Je(s:Sg)(n d:Int):∃c:Ct,yy s n d=c/\pP (xS s (b9 n d) (aW n d)) (yS s (b9 n d) (aW n d)) (aW n d).toNat=.agg (zM c)/\c.n=b9 n d/\c.d=aW n d:=⟨_,rfl,rfl,rfl,rfl⟩
theorem sK(s:Sg)(n d:Int)(hL:bJ s)(hd:d<=9223372036854775807):aa Tryz.prog G 137 [.agg (kN s),.int .i64 n,.int .i64 d] (.agg (zN (np s n d))):=by
 have c1:=QG (G:=G) n d hd;obtain⟨l1,l2,l3,l4⟩:=jN n d hd;have c2:=Qq (G:=G) s (b9 n d) (aW n d) ⟨hL,l3,l1,l2⟩ l4;unfold zN;rw[dF hd];obtain⟨c,e1,e2,e3,e4⟩:=Je s n d;rw[e1];rw[e2] at c2;rw[<-e3,<-e4] at c1 c2;clear e1 e2 e3 e4 l1 l2 l3 l4;obtain⟨N,D,p,q,X,Y,W,rfl⟩:=xf c;refine aa.ah al Tryz.func137 rfl rfl _ rfl ?_;(conv=>whnf);repeat' ((first|refine st ?_|(refine⟨fun h=>?_,fun h=>?_⟩<;>try simp only[ae] at h)|(refine .inl ?_;(conv=>whnf);(first|refine⟨_,c1,?_⟩|refine⟨_,c2,?_⟩))|refine wf ?_|refine az ?_|refine nn ?_|fail)<;>conv=>whnf)
 all_goals first|contradiction|(exfalso;omega)|skip
def MT(s:Sg)(p:Pt):Cu:=np s (cD s.a s.b p) (cD s.a s.b s.b)
theorem T7(a b:Pt):aa Tryz.prog G 196 [.agg (lP a),.agg (lP b)] (.int .i64 (cD a b b)):=by
 have h:=wR (G:=G) a b b;refine aa.ah al Tryz.func196 rfl rfl _ rfl ?_;(conv=>whnf);repeat' ((first|refine st ?_|(refine⟨fun h=>?_,fun h=>?_⟩<;>try simp only[ae] at h)|(refine .inl ?_;(conv=>whnf);refine⟨_,h,?_⟩)|refine wf ?_|refine az ?_|refine nn ?_|fail)<;>conv=>whnf)
theorem tN(a b c:Pt):cD a b c<=9223372036854775807:=by
 unfold cD;split
 ·rename_i h;have:=(tc h).2.2.2.1;omega
 ·omega
def Y7:Ct:=⟨0,0,false,false,default,default,default⟩
theorem O2(s:Sg)(p:Pt):aa Tryz.prog G 139 [.agg (kN s),.agg (lP p)] (if jV s p then .tup [.agg (zN (MT s p)),.int .i64 0] else .tup [.agg (vI Y7),.int .i64 1]):=by
 have h0:=wT (G:=G) s p;have h1:=wR (G:=G) s.a s.b p;have h2:=T7 (G:=G) s.a s.b;by_cases hO:jV s p
 ·rw[if_pos hO];rw[decide_eq_true hO] at h0;have h3:=sK (G:=G) s (cD s.a s.b p) (cD s.a s.b s.b) hO.1 (tN _ _ _);unfold MT zN at *;generalize (np s (cD s.a s.b p) (cD s.a s.b s.b)).1=c at *;generalize cD s.a s.b p=D1 at *;generalize cD s.a s.b s.b=D2 at *;refine aa.ah al Tryz.func139 rfl rfl _ rfl ?_;(conv=>whnf);repeat' ((first|refine st ?_|(refine⟨fun h=>?_,fun h=>?_⟩<;>try simp only[ae] at h)|(refine .inl ?_;(conv=>whnf);(first|refine⟨_,h0,?_⟩|refine⟨_,h1,?_⟩|refine⟨_,h2,?_⟩|refine⟨_,h3,?_⟩))|refine wf ?_|refine az ?_|refine nn ?_|fail)<;>conv=>whnf)
  all_goals first|contradiction|(exfalso;omega)|skip
 ·rw[if_neg hO];rw[decide_eq_false hO] at h0;refine aa.ah al Tryz.func139 rfl rfl _ rfl ?_;(conv=>whnf);repeat' ((first|refine st ?_|(refine⟨fun h=>?_,fun h=>?_⟩<;>try simp only[ae] at h)|(refine .inl ?_;(conv=>whnf);refine⟨_,h0,?_⟩)|refine wf ?_|refine az ?_|refine nn ?_|fail)<;>conv=>whnf)
  all_goals first|contradiction|(exfalso;omega)|rfl|skip
theorem T8{s t:Sg}(h:(bA s t).k=2):jV s (bA s t).p/\jV s (bA s t).q/\jV t (bA s t).p/\jV t (bA s t).q:=by
 have hT:cT s t:=(nO s t).1 (by omega);unfold bA at *;rw[if_pos hT] at *;by_cases hd:rD s t=0
 ·rw[if_pos hd] at *;obtain⟨f,l,hE,hR⟩:=exts hT ((jX s t hT).2 hd);rw[hR] at h ⊢;unfold Vs at h ⊢;by_cases hf:f=l
  ·rw[if_neg (fun q=>q hf)] at h;exact absurd (show(1:Int)=2 from h) (by decide)
  ·rw[if_pos hf];exact⟨hE.fb.1,hE.lb.1,hE.fb.2,hE.lb.2⟩
 ·rw[if_neg hd] at h;have:=(tp hT hd).2.2.2.2;omega
theorem F8(s t:Sg):(bA s t).k=0\/(bA s t).k=1\/(bA s t).k=2:=by
 by_cases hT:cT s t
 ·unfold bA;rw[if_pos hT];by_cases hd:rD s t=0
  ·rw[if_pos hd];obtain⟨f,l,hE,hR⟩:=exts hT ((jX s t hT).2 hd);rw[hR];unfold Vs;split
   ·exact .inr (.inr rfl)
   ·exact .inr (.inl rfl)
  ·rw[if_neg hd];exact .inr (.inl (tp hT hd).2.2.2.2)
 ·exact .inl (Classical.byContradiction fun h=>hT ((nO s t).1 h))
def pE(s t:Sg):List Cu:=if (bA s t).k=1 then [np s (bA s t).n (bA s t).d] else if (bA s t).k=2 then [MT s (bA s t).p,MT s (bA s t).q] else []
def jO(l:List Cu):Nat->List A:=fun i=>zN (l.getD i default)
def tO(l:List Cu):A:=.sl l.length 28 (jO l)
theorem O3(s t:Sg):aa Tryz.prog G 94 [.agg (kN s),.agg (kN t)] (tO (pE s t)):=by
 have hm:=WM (G:=G) s t;rcases F8 s t with hk|hk|hk
 ·have e:pE s t=[]:=by unfold pE;rw[if_neg (by omega),if_neg (by omega)]
  rw[e];generalize bA s t=m at *;obtain⟨k,n,mm,d,p,q⟩:=m;simp only at hk;subst hk;refine aa.ah al Tryz.func94 rfl rfl _ rfl ?_;(conv=>whnf);repeat' ((first|refine st ?_|(refine⟨fun h=>?_,fun h=>?_⟩<;>try simp only[ae] at h)|(refine .inl ?_;(conv=>whnf);refine⟨_,hm,?_⟩)|refine wf ?_|refine az ?_|refine nn ?_|fail)<;>conv=>whnf)
  all_goals first|contradiction|(exfalso;omega)|rfl|(refine Or.inl fun i hi=>?_;rcases i with _|_|_|_|i<;>first|rfl|omega)
 ·have e:pE s t=[np s (bA s t).n (bA s t).d]:=by unfold pE;rw[if_pos hk]
  obtain⟨hT,_,_,_,_,_,hd,_⟩:=tI s t hk;have h1:=sK (G:=G) s (bA s t).n (bA s t).d hT.1 hd;rw[e];generalize np s (bA s t).n (bA s t).d=c at *;generalize bA s t=m at *;obtain⟨k,n,mm,d,p,q⟩:=m;simp only at hk h1;subst hk;unfold zN at h1;refine aa.ah al Tryz.func94 rfl rfl _ rfl ?_;(conv=>whnf);repeat' ((first|refine st ?_|(refine⟨fun h=>?_,fun h=>?_⟩<;>try simp only[ae] at h)|(refine .inl ?_;(conv=>whnf);(first|refine⟨_,hm,?_⟩|refine⟨_,h1,?_⟩))|refine wf ?_|refine az ?_|refine nn ?_|fail)<;>conv=>whnf)
  all_goals first|contradiction|(exfalso;omega)|rfl|(refine Or.inl fun i hi=>?_;rcases i with _|_|_|_|i<;>first|rfl|omega)
 ·have e:pE s t=[MT s (bA s t).p,MT s (bA s t).q]:=by unfold pE;rw[if_neg (by omega),if_pos hk]
  obtain⟨o1,o2,_,_⟩:=T8 hk;have h1:=O2 (G:=G) s (bA s t).p;have h2:=O2 (G:=G) s (bA s t).q;rw[if_pos o1] at h1;rw[if_pos o2] at h2;rw[e];generalize MT s (bA s t).p=c1 at *;generalize MT s (bA s t).q=c2 at *;generalize bA s t=m at *;obtain⟨k,n,mm,d,p,q⟩:=m;simp only at hk h1 h2;subst hk;unfold zN at h1 h2;refine aa.ah al Tryz.func94 rfl rfl _ rfl ?_;(conv=>whnf);repeat' ((first|refine st ?_|(refine⟨fun h=>?_,fun h=>?_⟩<;>try simp only[ae] at h)|(refine .inl ?_;(conv=>whnf);(first|refine⟨_,hm,?_⟩|refine⟨_,h1,?_⟩|refine⟨_,h2,?_⟩))|refine wf ?_|refine az ?_|refine nn ?_|fail)<;>conv=>whnf)
  all_goals first|contradiction|(exfalso;omega)|rfl|(refine Or.inl fun i hi=>?_;rcases i with _|_|_|_|i<;>first|rfl|omega)
end Go.Proofs.YtijddijloelacaaGreat
namespace Go.Proofs.YtijddijloelacaaGreat
open Go.Proofs.YtijddijloelacaaGreat.Am Go.Sort
variable [Inhabited cc]
variable {G:aG}
def F9(a b:Cu):Nat:=a.1.n.toNat*b.1.d.toNat
def jP(a b:Cu):Prop:=F9 a b<F9 b a
instance (a b:Cu):Decidable (jP a b):=inferInstanceAs (Decidable (_ < _))
def uY(a b:Cu):Int:=cC [dV (F9 a b/18446744073709551616) (F9 b a/18446744073709551616),dV (F9 a b%18446744073709551616) (F9 b a%18446744073709551616)]
theorem Ga(x y:Nat):cC [dV (x/18446744073709551616) (y/18446744073709551616),dV (x%18446744073709551616) (y%18446744073709551616)]<0↔x<y:=by
 unfold dV;simp only[cC];repeat' split
 all_goals omega
theorem Cm(a b:Cu):ltOf uY a b=true↔jP a b:=by
 unfold ltOf jP uY;rw[decide_eq_true_iff];exact Ga _ _
theorem pW(a:Cu):0<a.1.d.toNat:=by have:=a.2;unfold vJ at this;omega
theorem pX(a b c:Cu)(h1:jP a b)(h2:jP b c):jP a c:=by
 unfold jP F9 at *;have pa:=pW a;have pb:=pW b;have pc:=pW c;generalize a.1.n.toNat=an at *;generalize b.1.n.toNat=bn at *;generalize c.1.n.toNat=cn at *;generalize a.1.d.toNat=ad at *;generalize b.1.d.toNat=bd at *;generalize c.1.d.toNat=cd at *;have e1:=Nat.mul_lt_mul_of_pos_right h1 pc;have e2:=Nat.mul_lt_mul_of_pos_right h2 pa;have k1:an*cd*bd=an*bd*cd:=by grind
 have k2:cn*ad*bd=cn*bd*ad:=by grind
 have k3:bn*ad*cd=bn*cd*ad:=by grind
 refine Nat.lt_of_mul_lt_mul_right (a:=bd) ?_;omega
theorem Cn(a b c:Cu)(h1:¬jP a b)(h2:¬jP b c):¬jP a c:=by
 unfold jP F9 at *;have pa:=pW a;have pb:=pW b;have pc:=pW c;generalize a.1.n.toNat=an at *;generalize b.1.n.toNat=bn at *;generalize c.1.n.toNat=cn at *;generalize a.1.d.toNat=ad at *;generalize b.1.d.toNat=bd at *;generalize c.1.d.toNat=cd at *;have e1:=Nat.mul_le_mul_right cd (Nat.le_of_not_lt h1);have e2:=Nat.mul_le_mul_right ad (Nat.le_of_not_lt h2);have k1:an*cd*bd=an*bd*cd:=by grind
 have k2:cn*ad*bd=cn*bd*ad:=by grind
 have k3:bn*ad*cd=bn*cd*ad:=by grind
 refine Nat.not_lt.2 (Nat.le_of_mul_le_mul_right (c:=bd) ?_ pb);omega
theorem Co:SWO (ltOf uY):=by
 have e':∀a b,ltOf uY a b=false↔¬jP a b:=fun a b=>by rw[<-Cm];simp
 refine⟨fun x=>?_,fun x y z h1 h2=>?_,fun x y z h1 h2=>?_⟩
 ·rw[e'];unfold jP;omega
 ·rw[Cm] at *;exact pX x y z h1 h2
 ·rw[e'] at *;exact Cn x y z h1 h2
theorem Jf(a b:Cu):aa Tryz.prog G 141 [.agg (zN a),.agg (zN b)] (.int .i64 (uY a b)):=by
 obtain⟨a,ha⟩:=a;obtain⟨b,hb⟩:=b;unfold uY F9 zN;simp only;obtain⟨n,d,p,q,X,Y,W,rfl⟩:=xf a;obtain⟨n',d',p',q',X',Y',W',rfl⟩:=xf b;unfold vJ at ha hb;simp only at ha hb ⊢;obtain⟨N,rfl⟩:∃N:Nat,n=N:=⟨n.toNat,by omega⟩;obtain⟨D,rfl⟩:∃D:Nat,d=D:=⟨d.toNat,by omega⟩;obtain⟨N',rfl⟩:∃N:Nat,n'=N:=⟨n'.toNat,by omega⟩;obtain⟨D',rfl⟩:∃D:Nat,d'=D:=⟨d'.toNat,by omega⟩;simp only[Int.toNat_natCast];have m1:=j0 (G:=G) N D' (by omega) (by omega);have m2:=j0 (G:=G) N' D (by omega) (by omega);have m1:aa Tryz.prog G 198 [.int .u64 (IntKind.u64.wrap (N:Int)),.int .u64 (IntKind.u64.wrap (D':Int))] (.tup [.int .u64 ((N*D'/18446744073709551616:Nat):Int),.int .u64 ((N*D'%18446744073709551616:Nat):Int)]):=by rw[ep N (by omega),ep D' (by omega)];exact m1
 have m2:aa Tryz.prog G 198 [.int .u64 (IntKind.u64.wrap (N':Int)),.int .u64 (IntKind.u64.wrap (D:Int))] (.tup [.int .u64 ((N'*D/18446744073709551616:Nat):Int),.int .u64 ((N'*D%18446744073709551616:Nat):Int)]):=by rw[ep N' (by omega),ep D (by omega)];exact m2
 have k1:=BZ (G:=G) (N*D'/18446744073709551616) (N'*D/18446744073709551616);have k2:=BZ (G:=G) (N*D'%18446744073709551616) (N'*D%18446744073709551616);generalize N*D'/18446744073709551616=h1 at *;generalize N*D'%18446744073709551616=l1 at *;generalize N'*D/18446744073709551616=h2 at *;generalize N'*D%18446744073709551616=l2 at *;have k3:=HA (G:=G) [dV h1 h2,dV l1 l2] (by simp);generalize dV h1 h2=z1 at *;generalize dV l1 l2=z2 at *
 have k4:aa Tryz.prog G 102 [.sl 2 1 (fun i=>iv 1 (List.drop (i*1) [.int .i64 z1,.int .i64 z2]))] (.int .i64 (cC [z1,z2])):=k3.fit (by
  conv=>whnf
  repeat (first|exact fa|((first|refine fb ?_|(refine And.intro ?_ ?_;rotate_left));conv=>whnf))
  all_goals (refine Or.inl fun i hi=>?_;rcases i with _|_|_|_|i<;>first|rfl|omega))
 generalize cC [z1,z2]=z at *;refine aa.ah al Tryz.func141 rfl rfl _ rfl ?_;(conv=>whnf);repeat' ((first|refine st ?_|(refine⟨fun h=>?_,fun h=>?_⟩<;>try simp only[ae] at h)|(refine .inl ?_;(conv=>whnf);(first|refine⟨_,m1,?_⟩|refine⟨_,m2,?_⟩|refine⟨_,k1,?_⟩|refine⟨_,k2,?_⟩|refine⟨_,k4,?_⟩))|refine wf ?_|refine az ?_|refine nn ?_|fail)<;>conv=>whnf)
 all_goals first|contradiction|(exfalso;omega)|rfl|skip
end Go.Proofs.YtijddijloelacaaGreat
/-
  DERIVED: THE SHELF's CONTRACTS AT THIS DUMP, IN PLAIN WORDS (tools/lay-plain.mjs out of 'TrySortShelf.lean', which tools/lay-shelf.mjs wrote): THE SAME DECLARATIONS UNDER THE SAME NAMES: 'import', 'namespace', 'open', 'def', 'theorem' AND NOTHING ELSE: no command of the shelf's: FOR A HAND-IN. Each laying: the table of numbers ('.._ren') and one theorem, a field a fact of the dump's own or the kernel's comparison; each contract: ONE APPLICATION.
-/
namespace Go.Proofs
open Go.Shelf
def Tryz.mB:Go.Shelf.Ren:=⟨fun|6=>140|15=>152|14=>197|28=>215|29=>216|20=>256|21=>257|22=>258|23=>259|24=>260|25=>261|26=>262|27=>263|46=>299|47=>270|48=>271|49=>300|50=>301|57=>321|n=>n,fun|22=>103|24=>123|25=>207|3=>3|39=>176|0=>0|53=>267|55=>51|4=>4|46=>261|45=>260|50=>68|5=>5|9=>9|66=>301|70=>305|76=>327|77=>242|n=>n,fun|n=>n⟩
theorem Tryz.Cp:Go.Proofs.SlLaysF0.n6 Tryz.prog Tryz.mB:={
 mixed:=by kernel_rfl
 f6:=⟨Tryz.f140.name,by decide,Tryz.func140.trans (congrArg some (by kernel_rfl))⟩
 f14:=⟨Tryz.f197.name,by decide,Tryz.func197.trans (congrArg some (by kernel_rfl))⟩
 f15:=Tryz.func152.trans (congrArg some (by kernel_rfl))
 f20:=⟨Tryz.f256.name,by decide,Tryz.func256.trans (congrArg some (by kernel_rfl))⟩
 f21:=⟨Tryz.f257.name,by decide,Tryz.func257.trans (congrArg some (by kernel_rfl))⟩
 f22:=⟨Tryz.f258.name,by decide,Tryz.func258.trans (congrArg some (by kernel_rfl))⟩
 f23:=⟨Tryz.f259.name,by decide,Tryz.func259.trans (congrArg some (by kernel_rfl))⟩
 f24:=⟨Tryz.f260.name,by decide,Tryz.func260.trans (congrArg some (by kernel_rfl))⟩
 f25:=⟨Tryz.f261.name,by decide,Tryz.func261.trans (congrArg some (by kernel_rfl))⟩
 f26:=⟨Tryz.f262.name,by decide,Tryz.func262.trans (congrArg some (by kernel_rfl))⟩
 f27:=⟨Tryz.f263.name,by decide,Tryz.func263.trans (congrArg some (by kernel_rfl))⟩
 f28:=Tryz.func215.trans (congrArg some (by kernel_rfl))
 f29:=Tryz.func216.trans (congrArg some (by kernel_rfl))
 f46:=⟨Tryz.f299.name,by decide,Tryz.func299.trans (congrArg some (by kernel_rfl))⟩
 f47:=Tryz.func270.trans (congrArg some (by kernel_rfl))
 f48:=Tryz.func271.trans (congrArg some (by kernel_rfl))
 f49:=⟨Tryz.f300.name,by decide,Tryz.func300.trans (congrArg some (by kernel_rfl))⟩
 f50:=⟨Tryz.f301.name,by decide,Tryz.func301.trans (congrArg some (by kernel_rfl))⟩
 f57:=⟨Tryz.f321.name,by decide,Tryz.func321.trans (congrArg some (by kernel_rfl))⟩
 t0:=Tryz.underlying0
 a0:=Tryz.isAgg0
 z0:=Tryz.sizeOf0
 v0:=Tryz.zeroValue0
 t3:=Tryz.underlying3
 a3:=Tryz.isAgg3
 z3:=Tryz.sizeOf3
 v3:=Tryz.zeroValue3
 t4:=Tryz.underlying4
 a4:=Tryz.isAgg4
 z4:=Tryz.sizeOf4
 v4:=Tryz.zeroValue4
 t5:=Tryz.underlying5
 a5:=Tryz.isAgg5
 z5:=Tryz.sizeOf5
 v5:=Tryz.zeroValue5
 t9:=Tryz.underlying9
 a9:=Tryz.isAgg9
 z9:=Tryz.sizeOf9
 v9:=Tryz.zeroValue9
 t22:=Tryz.underlying103
 a22:=Tryz.isAgg103
 z22:=Tryz.sizeOf103
 v22:=Tryz.zeroValue103
 t25:=Tryz.underlying207
 a25:=Tryz.isAgg207
 z25:=Tryz.sizeOf207
 v25:=Tryz.zeroValue207
 t39:=Tryz.underlying176
 a39:=Tryz.isAgg176
 z39:=Tryz.sizeOf176
 v39:=Tryz.zeroValue176
 t45:=Tryz.underlying260
 a45:=Tryz.isAgg260
 z45:=Tryz.sizeOf260
 v45:=Tryz.zeroValue260
 t46:=Tryz.underlying261
 a46:=Tryz.isAgg261
 z46:=Tryz.sizeOf261
 v46:=Tryz.zeroValue261
 t50:=Tryz.underlying68
 a50:=Tryz.isAgg68
 z50:=Tryz.sizeOf68
 v50:=Tryz.zeroValue68
 t53:=Tryz.underlying267
 a53:=Tryz.isAgg267
 z53:=Tryz.sizeOf267
 v53:=Tryz.zeroValue267
 t55:=Tryz.underlying51
 a55:=Tryz.isAgg51
 z55:=Tryz.sizeOf51
 v55:=Tryz.zeroValue51
 t66:=Tryz.underlying301
 a66:=Tryz.isAgg301
 z66:=Tryz.sizeOf301
 v66:=Tryz.zeroValue301
 t70:=Tryz.underlying305
 a70:=Tryz.isAgg305
 z70:=Tryz.sizeOf305
 v70:=Tryz.zeroValue305
 t76:=Tryz.underlying327
 a76:=Tryz.isAgg327
 z76:=Tryz.sizeOf327
 v76:=Tryz.zeroValue327
 t77:=Tryz.underlying242
 a77:=Tryz.isAgg242
 z77:=Tryz.sizeOf242
 v77:=Tryz.zeroValue242 }
end Go.Proofs
namespace Go.Proofs
open Go.Shelf Go.Proofs.YtijddijloelacaaGreat.Am
def Tryz.qW:Go.Shelf.Ren:=⟨fun|43=>142|n=>n,fun|0=>0|3=>3|4=>4|22=>103|23=>123|n=>n,fun|n=>n⟩
theorem Tryz.MU:Ee Tryz.prog Tryz.qW:={
 mixed:=by kernel_rfl
 f43:=⟨Tryz.f142.name,by decide,Tryz.func142.trans (congrArg some (by kernel_rfl))⟩
 t0:=Tryz.underlying0
 a0:=Tryz.isAgg0
 z0:=Tryz.sizeOf0
 v0:=Tryz.zeroValue0
 t3:=Tryz.underlying3
 a3:=Tryz.isAgg3
 z3:=Tryz.sizeOf3
 v3:=Tryz.zeroValue3
 t4:=Tryz.underlying4
 a4:=Tryz.isAgg4
 z4:=Tryz.sizeOf4
 v4:=Tryz.zeroValue4
 t22:=Tryz.underlying103
 a22:=Tryz.isAgg103
 z22:=Tryz.sizeOf103
 v22:=Tryz.zeroValue103 }
end Go.Proofs
namespace Go.Proofs.YtijddijloelacaaGreat
open Go.Proofs.YtijddijloelacaaGreat.Am Go.Sort Go.Proofs Go.Lib
variable [Inhabited cc]
variable {G:aG}
def Vy:List Nat:=[5,5,6,5,5,5,5,5,5,5,5,6,5,5,5,5,5,5,5,5,5,5,5,5,5,5,5,5]
theorem Jg:aY Tryz.prog 6 123=some Vy:=by kernel_rfl
theorem QH(x y:Ct):(x.n==y.n&&(x.d==y.d&&(x.p==y.p&&(((x.X.a:Nat):Int)==((y.X.a:Nat):Int)&&(((x.X.b:Nat):Int)==((y.X.b:Nat):Int)&&(((x.X.c:Nat):Int)==((y.X.c:Nat):Int)&&(((x.X.d:Nat):Int)==((y.X.d:Nat):Int)&&(((x.X.e:Nat):Int)==((y.X.e:Nat):Int)&&(((x.X.f:Nat):Int)==((y.X.f:Nat):Int)&&(((x.X.g:Nat):Int)==((y.X.g:Nat):Int)&&(((x.X.h:Nat):Int)==((y.X.h:Nat):Int)&&(x.q==y.q&&(((x.Y.a:Nat):Int)==((y.Y.a:Nat):Int)&&(((x.Y.b:Nat):Int)==((y.Y.b:Nat):Int)&&(((x.Y.c:Nat):Int)==((y.Y.c:Nat):Int)&&(((x.Y.d:Nat):Int)==((y.Y.d:Nat):Int)&&(((x.Y.e:Nat):Int)==((y.Y.e:Nat):Int)&&(((x.Y.f:Nat):Int)==((y.Y.f:Nat):Int)&&(((x.Y.g:Nat):Int)==((y.Y.g:Nat):Int)&&(((x.Y.h:Nat):Int)==((y.Y.h:Nat):Int)&&(((x.W.a:Nat):Int)==((y.W.a:Nat):Int)&&(((x.W.b:Nat):Int)==((y.W.b:Nat):Int)&&(((x.W.c:Nat):Int)==((y.W.c:Nat):Int)&&(((x.W.d:Nat):Int)==((y.W.d:Nat):Int)&&(((x.W.e:Nat):Int)==((y.W.e:Nat):Int)&&(((x.W.f:Nat):Int)==((y.W.f:Nat):Int)&&(((x.W.g:Nat):Int)==((y.W.g:Nat):Int)&&(((x.W.h:Nat):Int)==((y.W.h:Nat):Int)&&true))))))))))))))))))))))))))))=decide (x=y):=by
 obtain⟨n,d,p,q,⟨a1,a2,a3,a4,a5,a6,a7,a8⟩,⟨b1,b2,b3,b4,b5,b6,b7,b8⟩,⟨c1,c2,c3,c4,c5,c6,c7,c8⟩⟩:=x;obtain⟨n',d',p',q',⟨a1',T9,a3',a4',a5',a6',a7',a8'⟩,⟨b1',b2',b3',b4',b5',b6',b7',b8'⟩,⟨W6,W7,W9,Xa,Xb,c6',c7',c8'⟩⟩:=y;rw[Bool.eq_iff_iff];simp only[Bool.and_eq_true,beq_iff_eq,decide_eq_true_iff,Ct.mk.injEq,W8.mk.injEq,Int.natCast_inj,and_true,and_assoc];constructor
 ·rintro⟨h1,h2,h3,g1,g2,g3,g4,g5,g6,g7,g8,h4,k1,k2,k3,k4,k5,k6,k7,k8,l1,l2,l3,l4,l5,l6,l7,l8⟩;exact⟨h1,h2,h3,h4,g1,g2,g3,g4,g5,g6,g7,g8,k1,k2,k3,k4,k5,k6,k7,k8,l1,l2,l3,l4,l5,l6,l7,l8⟩
 ·rintro⟨h1,h2,h3,h4,g1,g2,g3,g4,g5,g6,g7,g8,k1,k2,k3,k4,k5,k6,k7,k8,l1,l2,l3,l4,l5,l6,l7,l8⟩;exact⟨h1,h2,h3,g1,g2,g3,g4,g5,g6,g7,g8,h4,k1,k2,k3,k4,k5,k6,k7,k8,l1,l2,l3,l4,l5,l6,l7,l8⟩
theorem QI(x y:Ct):tK Vy (bm vI x) (bm vI y) (decide (x=y)):=by
 rw[<-QH]
 refine 
  ⟨_,_,.inl ⟨rfl,_,_,_,rfl,rfl,rfl⟩,⟨_,_,.inl ⟨rfl,_,_,_,rfl,rfl,rfl⟩,⟨_,_,.inr (.inl ⟨rfl,_,_,rfl,rfl,rfl⟩),⟨_,_,.inl ⟨rfl,_,_,_,rfl,rfl,rfl⟩,⟨_,_,.inl ⟨rfl,_,_,_,rfl,rfl,rfl⟩,⟨_,_,.inl ⟨rfl,_,_,_,rfl,rfl,rfl⟩,⟨_,_,.inl ⟨rfl,_,_,_,rfl,rfl,rfl⟩,⟨_,_,.inl ⟨rfl,_,_,_,rfl,rfl,rfl⟩,⟨_,_,.inl ⟨rfl,_,_,_,rfl,rfl,rfl⟩,⟨_,_,.inl ⟨rfl,_,_,_,rfl,rfl,rfl⟩,⟨_,_,.inl ⟨rfl,_,_,_,rfl,rfl,rfl⟩,⟨_,_,.inr (.inl ⟨rfl,_,_,rfl,rfl,rfl⟩),⟨_,_,.inl ⟨rfl,_,_,_,rfl,rfl,rfl⟩,⟨_,_,.inl ⟨rfl,_,_,_,rfl,rfl,rfl⟩,⟨_,_,.inl ⟨rfl,_,_,_,rfl,rfl,rfl⟩,⟨_,_,.inl ⟨rfl,_,_,_,rfl,rfl,rfl⟩,⟨_,_,.inl ⟨rfl,_,_,_,rfl,rfl,rfl⟩,⟨_,_,.inl ⟨rfl,_,_,_,rfl,rfl,rfl⟩,⟨_,_,.inl ⟨rfl,_,_,_,rfl,rfl,rfl⟩,⟨_,_,.inl ⟨rfl,_,_,_,rfl,rfl,rfl⟩,⟨_,_,.inl ⟨rfl,_,_,_,rfl,rfl,rfl⟩,⟨_,_,.inl ⟨rfl,_,_,_,rfl,rfl,rfl⟩,⟨_,_,.inl ⟨rfl,_,_,_,rfl,rfl,rfl⟩,⟨_,_,.inl ⟨rfl,_,_,_,rfl,rfl,rfl⟩,⟨_,_,.inl ⟨rfl,_,_,_,rfl,rfl,rfl⟩,⟨_,_,.inl ⟨rfl,_,_,_,rfl,rfl,rfl⟩,⟨_,_,.inl ⟨rfl,_,_,_,rfl,rfl,rfl⟩,⟨_,_,.inl ⟨rfl,_,_,_,rfl,rfl,rfl⟩,rfl,rfl⟩,rfl⟩,rfl⟩,rfl⟩,rfl⟩,rfl⟩,rfl⟩,rfl⟩,rfl⟩,rfl⟩,rfl⟩,rfl⟩,rfl⟩,rfl⟩,rfl⟩,rfl⟩,rfl⟩,rfl⟩,rfl⟩,rfl⟩,rfl⟩,rfl⟩,rfl⟩,rfl⟩,rfl⟩,rfl⟩,rfl⟩,rfl⟩
theorem Jh(l:List Value):vg Tryz.prog 123 l=.agg l.toArray:=by
 have h:Tryz.prog.underlying 123=_:=Tryz.underlying123;unfold vg;rw[h]
theorem tP(x y:Ct)(w:World)(op:BinOp)(X Y:Operand):(eqGuard op 123 X Y (.agg (bm vI x).toArray) (.agg (bm vI y).toArray)).run Tryz.prog w=.ok () w /\
  (binOp .eql 123 (.agg (bm vI x).toArray) (.agg (bm vI y).toArray)).run Tryz.prog w=.ok (.bool (decide (x=y))) w /\
  (binOp .neq 123 (.agg (bm vI x).toArray) (.agg (bm vI y).toArray)).run Tryz.prog w=.ok (.bool (!decide (x=y))) w:=by
 have MN:6<=Tryz.prog.depth:=by unfold Program.depth Made.depth;omega
 have e2:(Op.equalIn 10000 123 (.agg (bm vI x).toArray) (.agg (bm vI y).toArray)).run Tryz.prog w=.ok (decide (x=y)) w:=by
  have:=fR (P:=Tryz.prog) (w:=w) 6 123 Vy _ _ _ (10000-6) Jg (QI x y);rw[Jh,Jh] at this;exact this
 have hg:Tryz.prog.eqGuardType Tryz.prog.depth 123=false:=by
  have:=fD (P:=Tryz.prog) 6 123 Vy (Tryz.prog.depth-6) Jg
  rwa [show 6+(Tryz.prog.depth-6)=Tryz.prog.depth by omega] at this
 refine⟨?_,?_,?_⟩
 ·unfold eqGuard;cases op<;>simp[hg]
 ·rw[run_eql_struct];simp[e2]
 ·rw[run_neq_struct];simp[e2]
theorem tQ(z:Array Value):∀n,(Builtin.zeroCells z n).toList=(List.replicate n z.toList).flatten
 | 0=>by simp[Builtin.zeroCells]
 | n+1=>by
  have ih:=tQ z n;rw[List.replicate_succ',List.flatten_append,<-ih];unfold Builtin.zeroCells;simp only[Array.toList_map,Array.toList_range];rw[Nat.add_mul,Nat.one_mul,List.range_add,List.map_append,List.map_map]
  congr 1
  simp only[List.flatten_cons,List.flatten_nil,List.append_nil];apply List.ext_getElem
  ·simp
  ·intro j h1 h2;simp only[List.length_map,List.length_range] at h1;simp only[List.getElem_map,List.getElem_range,Function.comp];rw[Nat.mul_comm,Nat.mul_add_mod,Nat.mod_eq_of_lt h1];simp[getElem!_pos z j h1]
theorem Em(x:Ct):∀a∈vI x,oO a:=by
 simp[vI,oO]
theorem Ji(dA:¬(default:cc).ns)(l:List Cu)(hl:l.length<=1000000)(h0:0<l.length):
  aM Tryz.prog G 140 [.own 1,.fn 141 []] [.ghost [.own 1,.af,.af],.row 123 28 l.length (cR zN l)] (.tup []) [.ghost [.own 1,.af,.af],.row 123 28 l.length (cR zN (eL uY l))] :=
 aM.vH dA (ρ:=Tryz.mB) Tryz.Cp 28 (by omega) (fun w=>by kernel_rfl) (fun w=>by kernel_rfl) zN (fun x=>Em x.1) (fun _=>rfl) uY Co 141 [] rfl
  (fun x y=>Jf (G:=G) x y) ⟨_,_,Tryz.func140,rfl,rfl⟩ 123 l hl h0
theorem Gb(l:List Ct)(hl:l.length<=1000000)(h0:0<l.length):
  aM Tryz.prog G 142 [.own 1] [.ghost [.own 1,.af],.row 123 28 l.length (cR vI l)] (.own 1) [.ghost [.af,.af],.row 123 28 (dj l).length (cR vI (dj l))] :=
 aM.zB (ρ:=Tryz.qW) Tryz.MU 28 (by omega) (fun w=>by kernel_rfl) (fun w=>by kernel_rfl) vI Em (fun _=>rfl)
  (fun x y w=>(tP x y w .eql default default).2.1) (fun x y w=>(tP x y w .eql default default).2.2) (fun op a b x y w=>(tP x y w op a b).1)
  Y7 _ Tryz.zeroValue123 (fun n=>by rw[tQ,List.flatMap_def,List.map_replicate];rfl)
  ⟨_,_,Tryz.func142,rfl,rfl⟩ 123 l hl h0
theorem qX(l:List Cu):∀m,m<=l.length->compactUpTo (l.map (·.1)).toArray m=(compactUpTo l.toArray m).map (·.1)
 | 0,_=>by simp[compactUpTo]
 | m+1,h=>by
  rw[compactUpTo_succ,compactUpTo_succ,List.map_append,qX l m (by omega)]
  congr 1
  have g:∀i,i<l.length->(l.map (·.1)).toArray[i]! = (l.toArray[i]!).1:=fun i hi=>by
   rw[getElem!_pos _ _ (by simpa using hi),getElem!_pos _ _ (by simpa using hi)];simp
  have hk:keeps (l.map (·.1)).toArray m=keeps l.toArray m:=by
   unfold keeps;rw[decide_eq_decide,g m (by omega),g (m-1) (by omega)];constructor
   ·rintro(h|h)
    ·exact .inl h
    ·exact .inr fun e=>h (congrArg Subtype.val e)
   ·rintro(h|h)
    ·exact .inl h
    ·exact .inr fun e=>h (Subtype.ext e)
  rw[hk];split
  ·rw[g m (by omega)];rfl
  ·rfl
def vh(l:List Cu):List Cu:=dj (eL uY l)
theorem En(l:List Cu)(i:Nat)(h:i<l.length):cR vI (l.map (·.1)) i=cR zN l i:=by
 unfold cR zN;simp[List.getD_eq_getElem?_getD,h]
theorem MV(l:List Cu):dj (l.map (·.1))=(dj l).map (·.1):=by
 unfold dj;rw[List.length_map,qX l l.length (Nat.le_refl _)]
theorem Gc(dA:¬(default:cc).ns)(l:List Cu)(hl:l.length<=1000000)(h0:0<l.length):
  aM Tryz.prog G 95 [.own 1] [.ghost [.own 1,.af],.row 123 28 l.length (jO l)] (.own 1) [.ghost [.af,.af],.row 123 28 (vh l).length (jO (vh l))]:=by
 have h1:=Ji (G:=G) dA l hl h0;have hlen:=gW uY Co l;have h2:=Gb (G:=G) ((eL uY l).map (·.1)) (by simpa[hlen] using hl) (by simpa[hlen] using h0);rw[MV] at h2;have e1:=En (eL uY l);have e2:=En (dj (eL uY l));rw[List.length_map,List.length_map,hlen] at h2;rw[hlen] at e1
 have h3:aM Tryz.prog G 142 [.own 1] [.ghost [.own 1,.af],.row 123 28 l.length (cR zN (eL uY l))] (.own 1) [.ghost [.af,.af],.row 123 28 (dj (eL uY l)).length (cR vI ((dj (eL uY l)).map (·.1)))]:=by
  refine aM.fit h2 rfl ?_;show ga _;(conv=>whnf)
  repeat (first|exact fa|((first|refine fb ?_|(refine And.intro ?_ ?_;rotate_left));conv=>whnf))
  all_goals first|exact Or.inl fun i hi=>(e1 i hi).symm
 unfold vh;generalize cR vI ((dj (eL uY l)).map (·.1))=r3 at *;generalize dj (eL uY l)=L2 at *;refine aM.ah al Tryz.func95 rfl rfl _ rfl ?_;(conv=>whnf);repeat' ((first|refine st ?_|(refine⟨fun h=>?_,fun h=>?_⟩<;>try simp only[ae] at h)|(refine .inr (.inl ?_);(conv=>whnf);(first|refine⟨_,_,h1,?_⟩|refine⟨_,_,h3,?_⟩))|refine wf ?_|refine az ?_|refine nn ?_|fail)<;>conv=>whnf)
 all_goals first|contradiction|exact Or.inl e2
end Go.Proofs.YtijddijloelacaaGreat
namespace Go.Proofs.YtijddijloelacaaGreat
open Go.Proofs.YtijddijloelacaaGreat.Am Go.Sort Go.Proofs
variable [Inhabited cc]
variable {G:aG}
theorem Jj{α:Type}[Inhabited α](e:α->List Int)(L:List α)(x:α)(r:Nat->List A)(hr:r 0=(e x).map fun n=>.int .i64 n)(i:Nat)(hi:i<L.length+1):bM L.length (bF e L) r i=bF e (L++[x]) i:=by
 unfold bM;split
 ·rename_i h;have h:i<L.length:=Nat.le_of_ble_eq_true h;simp only[bF,List.getD_eq_getElem?_getD,List.getElem?_append_left h]
 ·rename_i h;have h:¬i<L.length:=fun h'=>by rw[show Nat.blt i L.length=true from Nat.ble_eq_true_of_le h'] at h;cases h
  have:i=L.length:=by omega
  subst this;simp[hr,bF,List.getD_eq_getElem?_getD]
theorem vK{α:Type}[Inhabited α]{L:List α}{i:Nat}(h:i<L.length):L.drop i=L.getD i default::L.drop (i+1):=by
 rw[List.drop_eq_getElem_cons h,List.getD_eq_getElem?_getD,List.getElem?_eq_getElem h];rfl
theorem Ge(l:List Sg):(iq (sB l)).length<=l.length*l.length:=by
 have:=za (sB l);rw[tu] at this;exact this
theorem MW(dA:¬(default:cc).ns)(l:List Sg)(h0:0<l.length)(hk:wX l=0):aa Tryz.prog G 92 [rR l] (.tup [.sl (dD l).length 2 (bF w3 (dD l)),.int .i64 0]):=by
 have hc:=DS (G:=G) l;rw[hk] at hc;have hb:aa Tryz.prog G 133 [rR l] (.sl l.length 5 (bF OT (sB l))):=Mb (G:=G) dA l (tr hk).1 h0 (tr hk).2;have FE:=(tr hk).1;have hSl:=tu l;have hol:(iq (sB l)).length<=160000:=Nat.le_trans (Ge l) (Nat.mul_le_mul FE FE);have Xc:=H' l;generalize hS:sB l=S at *;refine aa.ah al Tryz.func92 rfl rfl _ rfl ?_;(conv=>whnf);repeat' ((first|refine st ?_|(refine⟨fun h=>?_,fun h=>?_⟩<;>try simp only[ae] at h)|(refine .inl ?_;(conv=>whnf);(first|refine⟨_,hc,?_⟩|refine⟨_,hb,?_⟩))|refine wf ?_|refine az ?_|refine nn ?_|fail)<;>conv=>whnf)
 ·exact absurd trivial h
 refine iG 5 76 2 rfl ?_;(conv=>whnf);refine ak (fun x:Nat×List Pr=>x.1<=l.length/\x.2++iq (S.drop x.1)=iq S) (fun x=>match x with|(i,cur)=>[(20,.int .i64 (i:Int)),(5,.own 0)]) (fun x=>match x with|(i,cur)=>[.row 76 2 cur.length (bF w3 cur)]) (fun x=>l.length-x.1) (0,[]) ⟨by omega,by simp⟩ ?_ ?_
 ·exact ff
 ·rintro⟨i,cur⟩ ⟨hi,hI⟩;simp only at hi hI;(conv=>whnf)
  repeat (first|(refine st ?_;conv=>whnf))
  refine⟨fun h=>?_,fun h=>?_⟩
  ·have h:=of_decide_eq_true h;have yM:=vK (L:=S) (i:=i) (by omega);rw[yM,iq] at hI;(conv=>whnf);repeat' ((first|refine st ?_|(refine⟨fun h=>?_,fun h=>?_⟩<;>try simp only[ae] at h)|refine wf ?_|refine az ?_|refine nn ?_|fail)<;>conv=>whnf)
   refine ak (fun x:Nat×List Pr=>x.1<=l.length-(i+1)/\x.2++BM (S.getD i default) (S.drop (i+1+x.1))=cur++BM (S.getD i default) (S.drop (i+1))) (fun x=>match x with|(j,cur)=>[(30,.int .i64 (j:Int)),(5,.own 0)]) (fun x=>match x with|(j,cur)=>[.row 76 2 cur.length (bF w3 cur),.box 196 (Vt (S.getD i default))]) (fun x=>l.length-(i+1)-x.1) (0,cur) ⟨by omega,rfl⟩ ?_ ?_
   ·exact ff
   ·rintro⟨j,cu⟩ ⟨hj,hJ⟩;simp only at hj hJ;(conv=>whnf)
    repeat (first|(refine st ?_;conv=>whnf))
    refine⟨fun h2=>?_,fun h2=>?_⟩
    ·have h2:=of_decide_eq_true h2;have Xd:=vK (L:=S) (i:=i+1+j) (by omega);rw[Xd,BM] at hJ
     have P0:cu.length<=160000:=by
      have e1:=congrArg List.length hJ;have e2:=congrArg List.length hI;simp only[List.length_append] at e1 e2;omega
     have Vz:((i:Int)+1).toNat+(j:Int).toNat=i+1+j:=by omega
     have hpc:=P8 (G:=G) (S.getD i default).at' (S.getD (i+1+j) default).at';(conv=>whnf);repeat' ((first|refine st ?_|(refine⟨fun h=>?_,fun h=>?_⟩<;>try simp only[ae] at h)|(refine .inl ?_;(conv=>whnf);refine⟨_,hpc,?_⟩)|refine wf ?_|refine az ?_|refine nn ?_|fail)<;>conv=>whnf)
     ·rw[Vz] at h;rw[if_pos h,List.append_nil] at hJ;refine⟨(i+1,cu),⟨by show i+1<=l.length;omega,by show cu++iq (S.drop (i+1))=iq S;rw[hJ,List.append_assoc];exact hI⟩,(by show l.length-(i+1)<l.length-i;omega),?_⟩;exact ff
     ·rename_i g1 g2;rw[Vz] at g1 g2 h;rw[if_neg g1,if_pos (show OU (S.getD i default) (S.getD (i+1+j) default) from⟨g2,h⟩)] at hJ;refine⟨(j+1,cu++[tv (S.getD i default) (S.getD (i+1+j) default)]),⟨by show j+1<=l.length-(i+1);omega,by rw[<-hJ,List.append_assoc];rfl⟩,(by show l.length-(i+1)-(j+1)<l.length-(i+1)-j;omega),?_⟩;(conv=>whnf)
      repeat (first|exact fa|((first|refine fb ?_|(refine And.intro ?_ ?_;rotate_left));conv=>whnf))
      all_goals first|(refine Or.inl fun t ht=>?_;exact Jj w3 cu (tv (S.getD i default) (S.getD (i+1+j) default)) _ rfl t ht)|(simp;done)
     ·rename_i g1 g2;rw[Vz] at g1 g2 h;rw[if_neg g1,if_neg (show ¬OU (S.getD i default) (S.getD (i+1+j) default) from fun q=>h q.2)] at hJ;refine⟨(j+1,cu),⟨by show j+1<=l.length-(i+1);omega,hJ⟩,(by show l.length-(i+1)-(j+1)<l.length-(i+1)-j;omega),?_⟩;exact ff
     ·rename_i g1;rw[Vz] at g1 h;rw[if_neg g1,if_neg (show ¬OU (S.getD i default) (S.getD (i+1+j) default) from fun q=>h q.1)] at hJ;refine⟨(j+1,cu),⟨by show j+1<=l.length-(i+1);omega,hJ⟩,(by show l.length-(i+1)-(j+1)<l.length-(i+1)-j;omega),?_⟩;exact ff
    ·have h2:=of_decide_eq_false h2;rw[List.drop_eq_nil_of_le (show S.length<=i+1+j by omega),BM,List.append_nil] at hJ;(conv=>whnf);repeat' ((first|refine st ?_|(refine⟨fun h=>?_,fun h=>?_⟩<;>try simp only[ae] at h)|refine wf ?_|refine az ?_|refine nn ?_|fail)<;>conv=>whnf)
     refine⟨(i+1,cu),⟨by show i+1<=l.length;omega,by show cu++iq (S.drop (i+1))=iq S;rw[hJ,List.append_assoc];exact hI⟩,(by show l.length-(i+1)<l.length-i;omega),?_⟩;exact ff
  ·have h:=of_decide_eq_false h;have e:i=l.length:=by omega
   subst e;rw[List.drop_eq_nil_of_le (by omega),iq,List.append_nil] at hI;subst hI;by_cases hz:(iq S).length=0
   ·have Bu:iq S=[]:=List.length_eq_zero_iff.1 hz;have Ik:dD l=[]:=by rw[<-Xc,Bu,<-List.length_eq_zero_iff,gW ou kW];rfl
    rw[Ik];refine mW 0 ?_;(conv=>whnf);have hs:aa Tryz.prog G 135 [.sl (iq S).length 2 (bF w3 (iq S)),.fn 136 []] (.tup []):=by rw[hz];exact y9 _
    repeat' ((first|refine st ?_|(refine⟨fun h=>?_,fun h=>?_⟩<;>try simp only[ae] at h)|(refine .inl ?_;(conv=>whnf);refine⟨_,hs,?_⟩)|refine wf ?_|refine az ?_|refine nn ?_|fail)<;>conv=>whnf)
    exact⟨Or.inl fun i hi=>by omega,rfl⟩
   ·have hs:=Ic (G:=G) dA (iq S) (by omega) (by omega);rw[Xc] at hs;(conv=>whnf);repeat' ((first|refine st ?_|(refine⟨fun h=>?_,fun h=>?_⟩<;>try simp only[ae] at h)|(refine .inr (.inl ?_);(conv=>whnf);refine⟨_,_,hs,?_⟩)|refine wf ?_|refine az ?_|refine nn ?_|fail)<;>conv=>whnf)
    refine⟨?_,Or.inl fun _ _=>rfl,rfl⟩;rw[<-Xc,gW ou kW]
theorem Cq:aa Tryz.prog G 135 [.aV,.fn 136 []] (.tup []):=(y9 (fun _=>[])).fit ⟨rfl,rfl⟩
theorem Gf(l:List Sg)(h0:l.length=0):aa Tryz.prog G 92 [rR l] (.tup [.aV,.int .i64 0]):=by
 have hc:=DS (G:=G) l;have hk:wX l=0:=by unfold wX;rw[if_neg (show ¬400<l.length by omega),if_pos (show yv l from fun i hi=>by omega)]
 rw[hk] at hc;have hb:=FL (G:=G) l h0;have hs:=Cq (G:=G);refine aa.ah al Tryz.func92 rfl rfl _ rfl ?_;(conv=>whnf);repeat' ((first|refine st ?_|(refine⟨fun h=>?_,fun h=>?_⟩<;>try simp only[ae] at h)|(refine .inl ?_;(conv=>whnf);(first|refine⟨_,hc,?_⟩|refine⟨_,hb,?_⟩))|refine wf ?_|refine az ?_|refine nn ?_|fail)<;>conv=>whnf)
 refine ak (fun _:Nat=>True) (fun _=>[(20,.int .i64 0),(5,.aV)]) (fun _=>[]) (fun _=>0) 0 trivial ?_ ?_
 ·exact ff
 ·intro k _;(conv=>whnf)
  repeat (first|(refine st ?_;conv=>whnf))
  refine⟨fun h=>?_,fun h=>?_⟩
  ·exact absurd (of_decide_eq_true h) (by decide)
  ·(conv=>whnf);repeat' ((first|refine st ?_|(refine⟨fun h=>?_,fun h=>?_⟩<;>try simp only[ae] at h)|(refine .inl ?_;(conv=>whnf);refine⟨_,hs,?_⟩)|refine wf ?_|refine az ?_|refine nn ?_|fail)<;>conv=>whnf)
theorem zO(l:List Sg)(i:Nat):∀n k,(rS l i n k).length<=n
 | 0,k=>by simp[rS]
 | n+1,k=>by
  have:=zO l i n (k+1);rw[rS,List.length_append];split<;>simp<;>omega
theorem zP(l:List Sg):∀n i,(tB l n i).length<=n*l.length
 | 0,i=>by simp[tB]
 | n+1,i=>by
  have h1:=zO l i (l.length-(i+1)) (i+1);have h2:=zP l n (i+1);rw[tB,List.length_append,Nat.add_mul];omega
theorem zQ(l:List Sg):(dD l).length<=l.length*l.length:=zP l l.length 0
theorem MX{w1 w2 u v M m:Int}(h1:0<=w1)(h2:0<=w2)(u1:u<=M)(v1:v<=M)(u2:m<=u)(v2:m<=v):
  w1*u+w2*v<=(w1+w2)*M/\(w1+w2)*m<=w1*u+w2*v:=by
 have a1:=Int.mul_le_mul_of_nonneg_left u1 h1;have a2:=Int.mul_le_mul_of_nonneg_left v1 h2;have a3:=Int.mul_le_mul_of_nonneg_left u2 h1;have a4:=Int.mul_le_mul_of_nonneg_left v2 h2;rw[Int.add_mul,Int.add_mul];omega
/-- Two weighted means that are alike: their bounds meet. -/
theorem O4{w1 w2 z1 z2 u v p q lu hu lp hp:Int}(hw:(0<w1/\0<w2/\0<z1/\0<z2)\/(w1<0/\w2<0/\z1<0/\z2<0))(hs:w1+w2=z1+z2)(he:w1*u+w2*v=z1*p+z2*q)
  (Jk:u<=hu) (Bo:v<=hu) (yz:lu<=u) (Jl:lu<=v) (Y8:p<=hp) (Bv:q<=hp) (OX:lp<=p) (D4:lp<=q):lu<=hp/\lp<=hu:=by
 rcases hw with⟨h1,h2,h3,h4⟩|⟨h1,h2,h3,h4⟩
 ·obtain⟨a1,a2⟩:=MX (M:=hu) (m:=lu) (Int.le_of_lt h1) (Int.le_of_lt h2) Jk Bo yz Jl;obtain⟨a3,a4⟩:=MX (M:=hp) (m:=lp) (Int.le_of_lt h3) (Int.le_of_lt h4) Y8 Bv OX D4;rw[<-hs] at a3 a4;exact⟨Int.le_of_mul_le_mul_left (a:=w1+w2) (by omega) (by omega),Int.le_of_mul_le_mul_left (a:=w1+w2) (by omega) (by omega)⟩
 ·obtain⟨a1,a2⟩:=MX (w1:=-w1) (w2:=-w2) (M:=hu) (m:=lu) (by omega) (by omega) Jk Bo yz Jl;obtain⟨a3,a4⟩:=MX (w1:=-z1) (w2:=-z2) (M:=hp) (m:=lp) (by omega) (by omega) Y8 Bv OX D4;rw[show -z1 + -z2 = -w1 + -w2 by omega] at a3 a4;simp only[Int.neg_mul] at a1 a2 a3 a4;exact⟨Int.le_of_mul_le_mul_left (a:=-w1 + -w2) (by omega) (by omega),Int.le_of_mul_le_mul_left (a:=-w1 + -w2) (by omega) (by omega)⟩
theorem T'(ax ay bx Hm px py qx qy:Int):
  ((qx-px)*(ay-py)-(qy-py)*(ax-px))*bx+(-((qx-px)*(Hm-py)-(qy-py)*(bx-px)))*ax =
  ((bx-ax)*(qy-ay)-(Hm-ay)*(qx-ax))*px+(-((bx-ax)*(py-ay)-(Hm-ay)*(px-ax)))*qx:=by grind
theorem Ua(ax ay bx Hm px py qx qy:Int):
  ((qx-px)*(ay-py)-(qy-py)*(ax-px))*Hm+(-((qx-px)*(Hm-py)-(qy-py)*(bx-px)))*ay =
  ((bx-ax)*(qy-ay)-(Hm-ay)*(qx-ax))*py+(-((bx-ax)*(py-ay)-(Hm-ay)*(px-ax)))*qy:=by grind
theorem Ub(ax ay bx Hm px py qx qy:Int):
  ((qx-px)*(ay-py)-(qy-py)*(ax-px))+(-((qx-px)*(Hm-py)-(qy-py)*(bx-px))) =
  ((bx-ax)*(qy-ay)-(Hm-ay)*(qx-ax))+(-((bx-ax)*(py-ay)-(Hm-ay)*(px-ax))):=by grind
theorem Cr{s t:Sg}(h1:Hh (dY s.a s.b t.a) (dY s.a s.b t.b))(h2:Hh (dY t.a t.b s.a) (dY t.a t.b s.b)):jZ s t:=by
 have ex:dY t.a t.b s.a*s.b.x + -dY t.a t.b s.b*s.a.x=dY s.a s.b t.b*t.a.x + -dY s.a s.b t.a*t.b.x:=T' s.a.x s.a.y s.b.x s.b.y t.a.x t.a.y t.b.x t.b.y;have ey:dY t.a t.b s.a*s.b.y + -dY t.a t.b s.b*s.a.y=dY s.a s.b t.b*t.a.y + -dY s.a s.b t.a*t.b.y:=Ua s.a.x s.a.y s.b.x s.b.y t.a.x t.a.y t.b.x t.b.y;have es:dY t.a t.b s.a + -dY t.a t.b s.b=dY s.a s.b t.b + -dY s.a s.b t.a:=Ub s.a.x s.a.y s.b.x s.b.y t.a.x t.a.y t.b.x t.b.y;generalize dY t.a t.b s.a=c1 at *;generalize dY t.a t.b s.b=c2 at *;generalize dY s.a s.b t.a=c3 at *;generalize dY s.a s.b t.b=c4 at *;have hw:(0<c1/\0 < -c2/\0<c4/\0 < -c3)\/(c1<0 /\ -c2<0/\c4<0 /\ -c3<0):=by unfold Hh at h1 h2;omega
 have rx:=O4 (lu:=(fY s).x) (hu:=(cS s).x) (lp:=(fY t).x) (hp:=(cS t).x) hw es ex (by simp only[cS];omega) (by simp only[cS];omega) (by simp only[fY];omega) (by simp only[fY];omega) (by simp only[cS];omega) (by simp only[cS];omega) (by simp only[fY];omega) (by simp only[fY];omega);have ry:=O4 (lu:=(fY s).y) (hu:=(cS s).y) (lp:=(fY t).y) (hp:=(cS t).y) hw es ey (by simp only[cS];omega) (by simp only[cS];omega) (by simp only[fY];omega) (by simp only[fY];omega) (by simp only[cS];omega) (by simp only[cS];omega) (by simp only[fY];omega) (by simp only[fY];omega);exact⟨rx.1,rx.2,ry.1,ry.2⟩
theorem xg{s:Sg}{p:Pt}(h:jV s p):((fY s).x<=p.x/\p.x<=(cS s).x)/\(fY s).y<=p.y/\p.y<=(cS s).y:=(DH s p h.1.2.2 h.2.2.1).2 h.2.2.2
theorem Cs{s t:Sg}(h:cT s t):jZ s t:=by
 obtain⟨hs,ht,h⟩:=h;rcases h with h|h|h|h|⟨h1,h2⟩
 ·have:=xg h;simp only[jZ,fY,cS] at *;omega
 ·have:=xg h;simp only[jZ,fY,cS] at *;omega
 ·have:=xg h;simp only[jZ,fY,cS] at *;omega
 ·have:=xg h;simp only[jZ,fY,cS] at *;omega
 ·unfold ju at h1 h2;rw[if_pos (br hs ht.1),if_pos (br hs ht.2.1)] at h1;rw[if_pos (br ht hs.1),if_pos (br ht hs.2.1)] at h2;exact Cr h1 h2
theorem aa.res{P:Program}{G:aG}{f:FuncId}{args:List A}{r r':A}(h:aa P G f args r)(hr:∀im w v,aw im w r v->aw im w r' v):aa P G f args r':=by
 refine⟨h.1,fun im w vs h1 h2 h3 h4=>?_⟩;refine bl (h.2 im w vs h1 h2 h3 h4) ?_;rintro e w' ⟨v,e1,e2,e3⟩;exact⟨v,e1,hr _ _ _ e2,e3⟩
theorem Gg(dA:¬(default:cc).ns)(l:List Sg)(hk:wX l=0):aa Tryz.prog G 92 [rR l] (.tup [.sl (dD l).length 2 (bF w3 (dD l)),.int .i64 0]):=by
 by_cases h0:l.length=0
 ·have hz:(dD l).length=0:=by have:=zQ l;rw[h0] at this;omega
  rw[hz];refine aa.res (Gf l h0) fun im w v h=>?_;cases h with
  | tup _ vs hl hr =>
   refine .tup _ vs (by simpa using hl) fun j h h'=>?_
   match j,h with
   | 0,_ =>
    have:=hr 0 (by simp) h';show aw im w (.sl 0 2 _) vs[0];have this:aw im w .aV vs[0]:=this;generalize vs[0]=x at this;cases this;exact .sn _ _
   | 1,_=>exact hr 1 (by simp) h'
 ·exact MW dA l (by omega) hk
def fk(s:Sg):List Cu:=[np s 0 1,np s 1 1]
theorem Jm(L M:List Cu)(r:Nat->List A)(hr:∀i,i<M.length->r i=jO M i)(i:Nat)(hi:i<L.length+M.length):bM L.length (jO L) r i=jO (L++M) i:=by
 unfold bM;split
 ·rename_i h;have h:i<L.length:=Nat.le_of_ble_eq_true h;simp only[jO,List.getD_eq_getElem?_getD,List.getElem?_append_left h]
 ·rename_i h;have h:¬i<L.length:=fun h'=>by rw[show Nat.blt i L.length=true from Nat.ble_eq_true_of_le h'] at h;cases h
  rw[hr (i-L.length) (by omega)];simp only[jO,List.getD_eq_getElem?_getD,List.getElem?_append_right (show L.length<=i by omega)]
theorem MY(s:Sg)(hL:bJ s):aM Tryz.prog G 93 [.agg (kN s)] [] (.own 0) [.row 123 28 2 (jO (fk s))]:=by
 have h1:=sK (G:=G) s 0 1 hL (by omega);have h2:=sK (G:=G) s 1 1 hL (by omega);unfold fk;generalize np s 0 1=c1 at *;generalize np s 1 1=c2 at *;unfold zN at h1 h2;refine aM.ah al Tryz.func93 rfl rfl _ rfl ?_;(conv=>whnf);repeat' ((first|refine st ?_|(refine⟨fun h=>?_,fun h=>?_⟩<;>try simp only[ae] at h)|(refine .inl ?_;(conv=>whnf);(first|refine⟨_,h1,?_⟩|refine⟨_,h2,?_⟩))|refine wf ?_|refine az ?_|refine nn ?_|fail)<;>conv=>whnf)
 all_goals (refine Or.inl fun i hi=>?_;rcases i with _|_|_|_|i<;>first|rfl|omega)
theorem sL(s t:Sg):(pE s t).length<=2:=by unfold pE;split<;>(try split)<;>simp
def qY(l:List Sg):Nat->List Cu:=fun i=>fk (l.getD i default)
def vi(l:List Sg)(O:Nat->List Cu)(i k:Nat):Nat->List Cu:=gQ O i (O i++pE (l.getD i default) (l.getD k default))
def VA(l:List Sg)(O:Nat->List Cu)(i k:Nat):Nat->List Cu:=vi l (vi l O i k) k i
def vL(l:List Sg):Nat->Nat->List Cu
 | 0=>qY l
 | k+1=>VA l (vL l k) ((dD l).getD k default).i.toNat ((dD l).getD k default).k.toNat
def SD(l:List Sg)(i:Nat):List Cu:=vh (vL l (dD l).length i)
def pY(n:Nat)(F:Nat->List Cu):A:=.sl n 1 (fun i=>[tO (F i)])
def oS(n:Nat)(F:Nat->List Cu):aq:=.nest 103 123 28 n none (fun i=>(F i).length) (fun i=>jO (F i))
theorem zR(l:List Sg)(O:Nat->List Cu)(i k j:Nat):(O j).length<=(vi l O i k j).length/\(vi l O i k j).length<=(O j).length+2:=by
 unfold vi gQ;have:=sL (l.getD i default) (l.getD k default);split
 ·rename_i e;subst e;rw[List.length_append];omega
 ·omega
theorem xh(l:List Sg)(j:Nat):∀k,2<=(vL l k j).length/\(vL l k j).length<=2+4*k
 | 0=>⟨Nat.le_refl _,Nat.le_refl _⟩
 | k+1=>by
  have h:=xh l j k;unfold vL VA;generalize ((dD l).getD k default).i.toNat=i;generalize ((dD l).getD k default).k.toNat=m;have h1:=zR l (vL l k) i m j;have h2:=zR l (vi l (vL l k) i m) m i j;omega
theorem tR(l:List Sg)(k:Nat)(h:k<(dD l).length):∃i m:Nat,(dD l).getD k default=⟨i,m⟩/\i<m/\m<l.length:=by
 have hm:(dD l).getD k default∈dD l:=by rw[List.getD_eq_getElem?_getD,List.getElem?_eq_getElem h];exact List.getElem_mem _
 generalize (dD l).getD k default=p at *;unfold dD at hm;obtain⟨i,_,h2,h3⟩:=(mf l p _ _).1 hm;obtain⟨m,h4,h5,_,rfl⟩:=(gr l i p _ _).1 h3;exact⟨i,m,rfl,by omega,by omega⟩
theorem Gh(l:List Sg)(k:Nat):∀i,i<k+1->rY k (fun i=>(qY l i).length) (fun _=>2) i=(qY l i).length /\
  ∀j,j<rY k (fun i=>(qY l i).length) (fun _=>2) i->rY k (fun i=>jO (qY l i)) (fun _=>jO (fk (l.getD k default))) i j=jO (qY l i) j:=by
 intro i hi;rcases Nat.lt_or_ge i k with h|h
 ·rw[k9 _ _ h,k9 _ _ h];exact⟨rfl,fun _ _=>rfl⟩
 ·have:i=k:=by omega
  subst this;rw[la _ _ h,la _ _ h];exact⟨rfl,fun _ _=>rfl⟩
def yA(l:List Sg)(k:Nat):Nat->List Cu:=fun i=>if i<k then SD l i else vL l (dD l).length i
theorem tS(l:List Sg)(k:Nat):yA l k k=vL l (dD l).length k:=if_neg (Nat.lt_irrefl k)
theorem Jn(l:List Sg)(k:Nat)(v:Nat):yA l (k+1) v=if v=k then vh (yA l k k) else yA l k v:=by
 rw[tS];unfold yA;by_cases h:v=k
 ·subst h;rw[if_pos (by omega),if_pos rfl];rfl
 ·rw[if_neg h];by_cases h2:v<k
  ·rw[if_pos (by omega),if_pos h2]
  ·rw[if_neg (by omega),if_neg h2]
theorem Jo(l:List Sg)(k v:Nat):gQ (fun i=>(yA l k i).length) (k:Int).toNat (vh (yA l k k)).length v=(yA l (k+1) v).length /\
  ∀j,j<gQ (fun i=>(yA l k i).length) (k:Int).toNat (vh (yA l k k)).length v->gQ (fun i=>jO (yA l k i)) (k:Int).toNat (jO (vh (yA l k k))) v j=jO (yA l (k+1) v) j:=by
 rw[Jn,Int.toNat_natCast];unfold gQ;by_cases h:v=k
 ·subst h;simp only[if_pos];exact⟨trivial,fun _ _=>trivial⟩
 ·simp only[if_neg h];exact⟨trivial,fun _ _=>trivial⟩
/-- Lengths and rows stand for lists. -/
def QJ(F:Nat->Nat)(R:Nat->Nat->List A)(O:Nat->List Cu):Prop:=∀v,F v=(O v).length/\∀j,j<F v->R v j=jO (O v) j
theorem Jp(O:Nat->List Cu):QJ (fun i=>(O i).length) (fun i=>jO (O i)) O:=fun _=>⟨rfl,fun _ _=>rfl⟩
theorem Eo{F:Nat->Nat}{R:Nat->Nat->List A}{O:Nat->List Cu}(h:QJ F R O)(l:List Sg)(i k:Nat):
  QJ (gQ F i (F i+(pE (l.getD i default) (l.getD k default)).length)) (gQ R i (bM (F i) (R i) (jO (pE (l.getD i default) (l.getD k default))))) (vi l O i k):=by
 intro v;unfold vi;by_cases hv:v=i
 ·subst hv;simp only[gQ,if_pos];obtain⟨h1,h2⟩:=h v;refine⟨by rw[List.length_append,h1],fun j hj=>?_⟩;have hc:=Jm (O v) (pE (l.getD v default) (l.getD k default)) (jO (pE (l.getD v default) (l.getD k default))) (fun _ _=>rfl) j (by omega);rw[<-hc];unfold bM;rw[h1];split
  ·rename_i hb;exact h2 j (by have:=Nat.le_of_ble_eq_true hb;omega)
  ·rfl
 ·simp only[gQ,if_neg hv];exact h v
theorem QK(dA:¬(default:cc).ns)(l:List Sg)(hk:wX l=0)(F:Nat->List Cu)(hF:∀i,i<l.length->F i=SD l i):aa Tryz.prog G 45 [rR l] (.tup [pY l.length F,.int .i64 0]):=by
 have h2:=Gg (G:=G) dA l hk;have hlen:=(tr hk).1;have xi:=(tr hk).2;have Ht:=zQ l;have hrl2:l.length*l.length<=400*400:=Nat.mul_le_mul hlen hlen;refine aa.ah al Tryz.func45 rfl rfl _ rfl ?_;(conv=>whnf);repeat' ((first|(contradiction)|refine st ?_|(refine⟨fun h=>?_,fun h=>?_⟩<;>try simp only[ae] at h)|(refine .inl ?_;(conv=>whnf);refine⟨_,h2,?_⟩)|refine wf ?_|refine az ?_|refine nn ?_|fail)<;>conv=>whnf)
 all_goals first|contradiction|(exfalso;omega)|skip
 refine iG 6 103 1 rfl ?_;(conv=>whnf)
 repeat (first|(refine st ?_;conv=>whnf))
 refine MZ 0 123 28 rfl (fun _ h=>absurd h (Nat.not_lt_zero _)) ?_;(conv=>whnf)
 repeat (first|(refine st ?_;conv=>whnf))
 refine ak (fun k:Nat=>k<=l.length) (fun k=>[(24,.int .i64 (k:Int)),(6,.own 0)]) (fun k=>[oS k (qY l)]) (fun k=>l.length-k) 0 (Nat.zero_le _) ?_ ?_
 ·unfold oS;(conv=>whnf)
  repeat (first|exact fa|((first|refine fb ?_|(refine And.intro ?_ ?_;rotate_left));conv=>whnf))
  exact fun i h=>absurd h (Nat.not_lt_zero _)
 ·intro k jY;unfold oS;have he:=fun h:k<l.length=>MY (G:=G) (l.getD k default) (xi k h);(conv=>whnf)
  repeat (first|(refine st ?_;conv=>whnf))
  refine⟨fun h=>?_,fun h=>?_⟩
  ·have h:=of_decide_eq_true h;have he:=he (by omega);(conv=>whnf);repeat' ((first|refine st ?_|(refine⟨fun h=>?_,fun h=>?_⟩<;>try simp only[ae] at h)|((first|refine .inr (.inr (.inr ?_))|refine .inr ?_);(conv=>whnf);refine⟨_,_,he,?_⟩)|refine wf ?_|refine az ?_|refine nn ?_|fail)<;>conv=>whnf)
   refine⟨k+1,(by show k+1<=l.length;omega),(by show l.length-(k+1)<l.length-k;omega),?_⟩;(conv=>whnf)
   repeat (first|exact fa|((first|refine fb ?_|(refine And.intro ?_ ?_;rotate_left));conv=>whnf))
   exact Gh l k
  ·have h:=of_decide_eq_false h;have e:k=l.length:=by omega
   subst e;(conv=>whnf);repeat' ((first|refine st ?_|(refine⟨fun h=>?_,fun h=>?_⟩<;>try simp only[ae] at h)|refine wf ?_|refine az ?_|refine nn ?_|fail)<;>conv=>whnf)
   refine ak (fun k:Nat=>k<=(dD l).length) (fun k=>[(36,.int .i64 (k:Int))]) (fun k=>[oS l.length (vL l k)]) (fun k=>(dD l).length-k) 0 (Nat.zero_le _) ?_ ?_
   ·unfold oS;(conv=>whnf)
    repeat (first|exact fa|((first|refine fb ?_|(refine And.intro ?_ ?_;rotate_left));conv=>whnf))
    all_goals first|exact fun i _=>⟨rfl,fun _ _=>rfl⟩
   ·intro k Uc;unfold oS;(conv=>whnf)
    repeat (first|(refine st ?_;conv=>whnf))
    refine⟨fun h=>?_,fun h=>?_⟩
    ·have h:=of_decide_eq_true h;have hk:k<(dD l).length:=by omega
     obtain⟨i,m,e,nC,wM⟩:=tR l k hk;have mU:=O3 (G:=G) (l.getD i default) (l.getD m default);have kM:=O3 (G:=G) (l.getD m default) (l.getD i default);have ei:((dD l).getD (k:Int).toNat default).i=(i:Int):=by rw[Int.toNat_natCast,e]
     have em:((dD l).getD (k:Int).toNat default).k=(m:Int):=by rw[Int.toNat_natCast,e]
     have ho:=fun j=>xh l j k;have YK:=ho i;have YL:=ho m;have hy1:=sL (l.getD i default) (l.getD m default);have FV:=sL (l.getD m default) (l.getD i default)
     have hup:gQ (fun i=>(vL l k i).length) (i:Int).toNat ((fun i=>(vL l k i).length) (i:Int).toNat+(pE (l.getD i default) (l.getD m default)).length) (m:Int).toNat<=2+4*k:=by
      have hne:¬(m:Int).toNat=(i:Int).toNat:=by omega
      unfold gQ;rw[if_neg hne];exact(ho _).2
     have ho3:=ho (i:Int).toNat;(conv=>whnf)
     iterate 5 (first|(refine st ?_;conv=>whnf))
     refine And.intro ⟨by omega,by omega⟩ ?_;(conv=>whnf);rw[ei,em];repeat' ((first|(refine tT (id:=14) [(7,1)] al mixed ?_)|(refine tT (id:=15) [(7,1)] al mixed ?_)|refine st ?_|(refine⟨fun h=>?_,fun h=>?_⟩<;>try simp only[ae] at h)|(refine .inl ?_;(conv=>whnf);(first|refine⟨_,mU,?_⟩|refine⟨_,kM,?_⟩))|refine wf ?_|refine az ?_|refine nn ?_|fail)<;>conv=>whnf)
     have pQ:vL l (k+1)=VA l (vL l k) i m:=by
      rw[vL,e];rfl
     refine⟨k+1,(by show k+1<=(dD l).length;omega),(by show(dD l).length-(k+1)<(dD l).length-k;omega),?_⟩;(conv=>whnf)
     repeat (first|exact fa|((first|refine fb ?_|(refine And.intro ?_ ?_;rotate_left));conv=>whnf))
     rw[pQ];exact fun v _=>Eo (Eo (Jp (vL l k)) l i m) l m i v
    ·have h:=of_decide_eq_false h;have e:k=(dD l).length:=by omega
     subst e;(conv=>whnf);repeat' ((first|refine st ?_|(refine⟨fun h=>?_,fun h=>?_⟩<;>try simp only[ae] at h)|refine wf ?_|refine az ?_|refine nn ?_|fail)<;>conv=>whnf)
     refine ak (fun k:Nat=>k<=l.length) (fun k=>[(79,.int .i64 (k:Int))]) (fun k=>[oS l.length (yA l k)]) (fun k=>l.length-k) 0 (Nat.zero_le _) ?_ ?_
     ·unfold oS;(conv=>whnf)
      repeat (first|exact fa|((first|refine fb ?_|(refine And.intro ?_ ?_;rotate_left));conv=>whnf))
      all_goals first|exact fun i _=>⟨rfl,fun _ _=>rfl⟩
     ·intro k jY;unfold oS;have hol:=xh l k (dD l).length;have hs:=Gc (G:=G) dA (yA l k k) (by rw[tS];omega) (by rw[tS];omega);(conv=>whnf);repeat' ((first|refine st ?_|(refine⟨fun h=>?_,fun h=>?_⟩<;>try simp only[ae] at h)|(refine .inr (.inl ?_);(conv=>whnf);refine⟨_,_,hs,?_⟩)|refine wf ?_|refine az ?_|refine nn ?_|fail)<;>conv=>whnf)
      ·refine⟨k+1,(by show k+1<=l.length;omega),(by show l.length-(k+1)<l.length-k;omega),?_⟩;(conv=>whnf)
       repeat (first|exact fa|((first|refine fb ?_|(refine And.intro ?_ ?_;rotate_left));conv=>whnf))
       exact fun v _=>Jo l k v
      ·have e:k=l.length:=by omega
       subst e;refine⟨Or.inl fun i hi=>?_,rfl⟩;have ej:yA l l.length i=SD l i:=if_pos hi;show[A.sl (yA l l.length i).length 28 (jO (yA l l.length i))]=[tO (F i)];rw[hF i hi,ej];rfl
end Go.Proofs.YtijddijloelacaaGreat
namespace Go.Proofs.YtijddijloelacaaGreat
open Go.Proofs.YtijddijloelacaaGreat.Am Go.Sort Go.Proofs Go.Lib
variable [Inhabited cc]
theorem sM(n d:Int):Nat.gcd (b9 n d).toNat (aW n d).toNat=1:=by
 unfold b9 aW;by_cases h:rX n d
 ·rw[if_pos h,if_pos h];rfl
 ·rw[if_neg h,if_neg h,Int.toNat_natCast,Int.toNat_natCast];have hp:0<gP n d:=Nat.gcd_pos_of_pos_right _ (by unfold rX at h;omega);exact Nat.coprime_iff_gcd_eq_one.1 (Nat.coprime_div_gcd_div_gcd hp)
theorem Ep{a b c d:Nat}(h1:Nat.gcd a b=1)(h2:Nat.gcd c d=1)(h:a*d=c*b):a=c/\b=d:=by
 have e1:b ∣ d:=by
  have:b ∣ d*a:=⟨c,by rw[Nat.mul_comm d a,h,Nat.mul_comm]⟩;exact Nat.Coprime.dvd_of_dvd_mul_right (show Nat.Coprime b a by rw[Nat.coprime_iff_gcd_eq_one,Nat.gcd_comm];exact h1) this
 have e2:d ∣ b:=by
  have:d ∣ b*c:=⟨a,by rw[Nat.mul_comm b c,<-h,Nat.mul_comm]⟩;exact Nat.Coprime.dvd_of_dvd_mul_right (show Nat.Coprime d c by rw[Nat.coprime_iff_gcd_eq_one,Nat.gcd_comm];exact h2) this
 have e:=Nat.dvd_antisymm e1 e2;subst e;refine⟨?_,rfl⟩;rcases Nat.eq_zero_or_pos b with hb|hb
 ·subst hb;rw[Nat.gcd_zero_right] at h1 h2;omega
 ·exact Nat.eq_of_mul_eq_mul_right hb h
def zT(s:Sg)(c:Cu):Prop:=∃n d,d<=9223372036854775807/\c=np s n d
theorem Jq{s:Sg}{n d n' d':Int}(h:d<=9223372036854775807)(h':d'<=9223372036854775807)(e1:b9 n d=b9 n' d')(e2:aW n d=aW n' d'):np s n d=np s n' d':=by
 apply Subtype.ext;rw[dF h,dF h'];unfold yy;rw[e1,e2]
theorem Jr{s:Sg}{a b:Cu}(ha:zT s a)(hb:zT s b)(h1:¬jP a b)(h2:¬jP b a):a=b:=by
 obtain⟨n,d,hd,rfl⟩:=ha;obtain⟨n',d',gk,rfl⟩:=hb;unfold jP F9 at h1 h2;rw[dF hd,dF gk] at h1 h2;simp only[yy,T6] at h1 h2;obtain⟨a1,a2,a3,a4⟩:=jN n d hd;obtain⟨b1,b2,b3,b4⟩:=jN n' d' gk;obtain⟨e1,e2⟩:=Ep (sM n d) (sM n' d') (by omega);exact Jq hd gk (by omega) (by omega)
theorem Cv(s t:Sg):∀x∈pE s t,zT s x:=by
 intro x hx;unfold pE at hx;split at hx
 ·rename_i hk;obtain⟨_,_,_,_,_,_,hd,_⟩:=tI s t hk;rw[List.mem_singleton.1 hx];exact⟨_,_,hd,rfl⟩
 ·split at hx
  ·simp only[List.mem_cons,List.not_mem_nil,or_false] at hx;rcases hx with rfl|rfl
   ·exact⟨_,_,tN _ _ _,rfl⟩
   ·exact⟨_,_,tN _ _ _,rfl⟩
  ·cases hx
theorem Er(s:Sg):∀x∈fk s,zT s x:=by
 intro x hx;unfold fk at hx;simp only[List.mem_cons,List.not_mem_nil,or_false] at hx;rcases hx with rfl|rfl
 ·exact⟨0,1,by omega,rfl⟩
 ·exact⟨1,1,by omega,rfl⟩
theorem Es(s:Sg):jP (np s 0 1) (np s 1 1):=by
 unfold jP F9;rw[dF (by omega),dF (by omega)];simp only[yy,T6];decide
theorem xj(a:Cu):¬jP a a:=by unfold jP;omega
theorem M0(a b:Cu)(h1:jP a b)(h2:jP b a):False:=by unfold jP at *;omega
theorem zU(s:Sg):(fk s).Pairwise jP:=by
 unfold fk;refine List.pairwise_cons.2 ⟨fun x hx=>?_,by simp⟩;rw[List.mem_singleton.1 hx];exact Es s
/-- What is sorted, each once: strict, the same cuts. -/
theorem zV{s:Sg}(L:List Cu)(h:∀x∈L,zT s x):(vh L).Pairwise jP/\∀x,x∈vh L↔x∈L:=by
 obtain⟨hp,hs⟩:=cY uY Co L;have hlen:=hp.length_eq;have hm:∀x∈eL uY L,zT s x:=fun x hx=>h x (hp.mem_iff.1 hx)
 obtain⟨c1,c2⟩:=mA (R:=jP) (eL uY L) pX (fun i j kK hj hr=>by
  have:=hs i j kK (by omega);rw[(Cm _ _).2 hr] at this;exact Bool.noConfusion this) (fun x hx y hy=>Jr (hm x hx) (hm y hy)) (eL uY L).length (Nat.le_refl _)
 refine⟨c1,fun x=>?_⟩;show x∈compactUpTo _ _↔_;rw[c2,<-hp.mem_iff];constructor
 ·rintro⟨i,hi,rfl⟩;rw[List.getD_eq_getElem?_getD,List.getElem?_eq_getElem hi];exact List.getElem_mem _
 ·intro hx;obtain⟨i,hi,e⟩:=List.getElem_of_mem hx;exact⟨i,hi,by rw[List.getD_eq_getElem?_getD,List.getElem?_eq_getElem hi];exact e⟩
theorem zW{s:Sg}:∀(M L:List Cu),L.Pairwise jP->(∀x∈L,zT s x)->(∀x∈M,zT s x)->(M.foldl (oR jP) L).Pairwise jP/\(∀x,x∈M.foldl (oR jP) L↔x∈L\/x∈M)
 | [],L,h,_,_=>⟨h,fun x=>by simp⟩
 | c::M,L,h,hL,hM=>by
  have hc:=hM c (List.mem_cons_self ..);obtain⟨p1,p2⟩:=tL pX L c h (fun x hx=>Jr (hL x hx) hc)
  have Vr:∀x∈oR jP L c,zT s x:=fun x hx=>by
   rcases (p2 x).1 hx with rfl|h
   ·exact hc
   ·exact hL x h
  obtain⟨q1,q2⟩:=zW M (oR jP L c) p1 Vr (fun x hx=>hM x (List.mem_cons_of_mem _ hx));refine⟨q1,fun x=>?_⟩;rw[List.foldl_cons,q2,p2,List.mem_cons];constructor
  ·rintro((h|h)|h)
   ·exact .inr (.inl h)
   ·exact .inl h
   ·exact .inr (.inr h)
  ·rintro(h|h|h)
   ·exact .inl (.inr h)
   ·exact .inl (.inl h)
   ·exact .inr h
def iM(s:Sg)(l:List Sg)(Et:Int):Nat->List Cu
 | 0=>fk s
 | k+1=>if (k:Int)=Et then iM s l Et k else (pE s (l.getD k default)).foldl (oR jP) (iM s l Et k)
theorem eO(s:Sg)(l:List Sg)(Et:Int):∀k,(iM s l Et k).Pairwise jP/\(∀x∈iM s l Et k,zT s x)/\∀x,x∈iM s l Et k↔x∈fk s\/∃j,j<k/\(j:Int)≠Et/\x∈pE s (l.getD j default)
 | 0=>⟨zU s,Er s,fun x=>by simp[iM]⟩
 | k+1=>by
  obtain⟨h1,h2,h3⟩:=eO s l Et k;unfold iM;by_cases hk:(k:Int)=Et
  ·rw[if_pos hk];refine⟨h1,h2,fun x=>?_⟩;rw[h3];constructor
   ·rintro(h|⟨j,a,b,c⟩)
    ·exact .inl h
    ·exact .inr ⟨j,by omega,b,c⟩
   ·rintro(h|⟨j,a,b,c⟩)
    ·exact .inl h
    ·exact .inr ⟨j,by omega,b,c⟩
  ·rw[if_neg hk];obtain⟨q1,q2⟩:=zW (pE s (l.getD k default)) _ h1 h2 (Cv s _);refine⟨q1,fun x hx=>?_,fun x=>?_⟩
   ·rcases (q2 x).1 hx with h|h
    ·exact h2 x h
    ·exact Cv s _ x h
   ·rw[q2,h3];constructor
    ·rintro((h|⟨j,a,b,c⟩)|h)
     ·exact .inl h
     ·exact .inr ⟨j,by omega,b,c⟩
     ·exact .inr ⟨k,by omega,hk,h⟩
    ·rintro(h|⟨j,a,b,c⟩)
     ·exact .inl (.inl h)
     ·rcases Nat.lt_or_ge j k with q|q
      ·exact .inl (.inr ⟨j,q,b,c⟩)
      ·have:j=k:=by omega
       subst this;exact .inr c
theorem zX(l:List Sg)(O:Nat->List Cu)(a b i:Nat)(x:Cu):x∈vi l O a b i↔x∈O i\/(i=a/\x∈pE (l.getD a default) (l.getD b default)):=by
 unfold vi gQ;by_cases h:i=a
 ·subst h;rw[if_pos rfl,List.mem_append];simp
 ·rw[if_neg h];simp[h]
theorem xk(l:List Sg)(i:Nat)(x:Cu):∀k,k<=(dD l).length->(x∈vL l k i↔x∈fk (l.getD i default)\/∃j m:Nat,j<k/\((dD l).getD j default=⟨i,m⟩\/(dD l).getD j default=⟨m,i⟩)/\x∈pE (l.getD i default) (l.getD m default))
 | 0,_=>by simp[vL,qY]
 | k+1,h=>by
  obtain⟨a,b,e,yw,hb⟩:=tR l k (by omega);unfold vL VA;rw[e];simp only[Int.toNat_natCast];rw[zX,zX,xk l i x k (by omega)];constructor
  ·rintro(((h|⟨j,m,h1,h2,h3⟩)|⟨rfl,h⟩)|⟨rfl,h⟩)
   ·exact .inl h
   ·exact .inr ⟨j,m,by omega,h2,h3⟩
   ·exact .inr ⟨k,b,by omega,.inl e,h⟩
   ·exact .inr ⟨k,a,by omega,.inr e,h⟩
  ·rintro(h|⟨j,m,h1,h2,h3⟩)
   ·exact .inl (.inl (.inl h))
   ·rcases Nat.lt_or_ge j k with q|q
    ·exact .inl (.inl (.inr ⟨j,m,q,h2,h3⟩))
    ·have:j=k:=by omega
     subst this;rw[e] at h2;simp only[Pr.mk.injEq,Int.natCast_inj] at h2;rcases h2 with⟨rfl,rfl⟩|⟨rfl,rfl⟩
     ·exact .inl (.inr ⟨rfl,h3⟩)
     ·exact .inr ⟨rfl,h3⟩
theorem Gi{s t:Sg}(h:jZ s t):jZ t s:=⟨h.2.1,h.1,h.2.2.2,h.2.2.1⟩
theorem Js{s t:Sg}{x:Cu}(h:x∈pE s t):jZ s t:=by
 refine Cs ((nO s t).1 fun h0=>?_);unfold pE at h;rw[if_neg (by omega),if_neg (by omega)] at h;cases h
theorem of_eq(l:List Sg)(i:Nat)(hi:i<l.length):SD l i=iM (l.getD i default) l i l.length:=by
 have O5:∀x∈vL l (dD l).length i,zT (l.getD i default) x:=fun x hx=>by
  rcases (xk l i x _ (Nat.le_refl _)).1 hx with h|⟨_,_,_,_,h⟩
  ·exact Er _ x h
  ·exact Cv _ _ x h
 obtain⟨a1,a2⟩:=zV _ O5;obtain⟨b1,_,b2⟩:=eO (l.getD i default) l i l.length;refine pT xj M0 _ _ a1 b1 fun x=>?_;unfold SD;rw[a2,b2,xk l i x _ (Nat.le_refl _)];constructor
 ·rintro(h|⟨j,m,h1,h2,h3⟩)
  ·exact .inl h
  ·obtain⟨a,b,e,yw,hb⟩:=tR l j h1;rw[e] at h2;simp only[Pr.mk.injEq,Int.natCast_inj] at h2;exact .inr ⟨m,by omega,by omega,h3⟩
 ·rintro(h|⟨m,h1,h2,h3⟩)
  ·exact .inl h
  ·refine .inr ?_;have hn:=Js h3
   have key:∀a b:Nat,a<b->b<l.length->jZ (l.getD a default) (l.getD b default)->∃j,j<(dD l).length/\(dD l).getD j default=⟨a,b⟩:=fun a b yw hb hnr=>by
    have hm:(⟨a,b⟩:Pr)∈dD l:=by
     unfold dD;exact(mf l _ _ _).2 ⟨a,Nat.zero_le _,by omega,(gr l a _ _ _).2 ⟨b,by omega,by omega,hnr,rfl⟩⟩
    obtain⟨j,hj,e⟩:=List.getElem_of_mem hm;exact⟨j,hj,by rw[List.getD_eq_getElem?_getD,List.getElem?_eq_getElem hj];exact e⟩
   rcases Nat.lt_or_ge i m with q|q
   ·obtain⟨j,hj,e⟩:=key i m q h1 hn;exact⟨j,m,hj,.inl e,h3⟩
   ·obtain⟨j,hj,e⟩:=key m i (by omega) hi (Gi hn);exact⟨j,m,hj,.inr e,h3⟩
theorem Jt(x y:Int)(w g:Nat):gg (x*g) (y*g) (w*g)=gg x y w*g:=by
 unfold gg;rw[Int.natAbs_mul,Int.natAbs_mul,Int.natAbs_natCast,Nat.gcd_mul_right,Nat.gcd_mul_right]
theorem zY(x:Int)(G g:Nat)(hg:0<g):qz (x*g) (G*g)=qz x G:=by
 have e:(x*(g:Int)).natAbs/(G*g)=x.natAbs/G:=by
  rw[Int.natAbs_mul,Int.natAbs_natCast,Nat.mul_div_mul_right _ _ hg]
 have hs:x*(g:Int)<0↔x<0:=by
  constructor
  ·intro h;refine Classical.byContradiction fun hn=>?_;have:=Int.mul_nonneg (show 0<=x by omega) (show(0:Int)<=g by omega);omega
  ·intro h;exact Int.mul_neg_of_neg_of_pos h (by omega)
 unfold qz;rw[e];by_cases h:x<0
 ·rw[if_pos h,if_pos (hs.2 h)]
 ·rw[if_neg h,if_neg (fun q=>h (hs.1 q))]
theorem Cw(x y:Int)(w g:Nat)(hg:0<g):pP (x*g) (y*g) (w*g)=pP x y w:=by
 unfold pP;rw[Jt,zY _ _ _ hg,zY _ _ _ hg,Nat.mul_div_mul_right _ _ hg]
theorem Gj{n d:Int}(h:0<=n/\n<=d/\1<=d):∃g:Nat,0<g/\n=b9 n d*g/\d=aW n d*g:=by
 have hB:¬rX n d:=by unfold rX;omega
 unfold b9 aW;rw[if_neg hB,if_neg hB];have hp:0<gP n d:=Nat.gcd_pos_of_pos_right _ (by omega);refine⟨gP n d,hp,?_,?_⟩
 ·have e:=Nat.div_mul_cancel (show gP n d ∣ n.toNat from Nat.gcd_dvd_left _ _);rw[<-Int.natCast_mul,e];omega
 ·have e:=Nat.div_mul_cancel (show gP n d ∣ d.toNat from Nat.gcd_dvd_right _ _);rw[<-Int.natCast_mul,e];omega
theorem QL(s:Sg)(n d g:Int):xS s (n*g) (d*g)=xS s n d*g:=by unfold xS;grind
theorem QM(s:Sg)(n d g:Int):yS s (n*g) (d*g)=yS s n d*g:=by unfold yS;grind
/-- The spot of a cut of parts that may be. -/
theorem Eu{s:Sg}{n d:Int}(h:0<=n/\n<=d/\1<=d)(hd:d<=9223372036854775807):A.agg (zM (np s n d).1)=pP (xS s n d) (yS s n d) d.toNat:=by
 rw[dF hd];obtain⟨g,hg,e1,e2⟩:=Gj h;have e3:A.agg (zM (yy s n d))=pP (xS s (b9 n d) (aW n d)) (yS s (b9 n d) (aW n d)) (aW n d).toNat:=rfl;rw[e3];have hl:=jN n d hd
 have e4:d.toNat=(aW n d).toNat*g:=by
  have:((aW n d).toNat:Int)=aW n d:=by omega
  have h2:(d.toNat:Int)=((aW n d).toNat:Int)*g:=by rw[this,<-e2];omega
  exact_mod_cast h2
 have ex:xS s n d=xS s (b9 n d) (aW n d)*g:=by rw[<-QL,<-e1,<-e2]
 have ey:yS s n d=yS s (b9 n d) (aW n d)*g:=by rw[<-QM,<-e1,<-e2]
 rw[e4,ex,ey,Cw _ _ _ _ hg]
theorem O6{x y:Int}(hx:iE x)(hy:iE y):pP x y 1=iu x y 1:=zw (MI hx hy)
theorem Cx{s:Sg}(h:bJ s):A.agg (zM (np s 0 1).1)=iu s.a.x s.a.y 1:=by
 rw[Eu (by omega) (by omega),<-O6 h.1.1 h.1.2];have ex:xS s 0 1=s.a.x:=by unfold xS;omega
 have ey:yS s 0 1=s.a.y:=by unfold yS;omega
 rw[ex,ey];rfl
theorem Ju{s:Sg}(h:bJ s):A.agg (zM (np s 1 1).1)=iu s.b.x s.b.y 1:=by
 rw[Eu (by omega) (by omega),<-O6 h.2.1.1 h.2.1.2];have ex:xS s 1 1=s.b.x:=by unfold xS;omega
 have ey:yS s 1 1=s.b.y:=by unfold yS;omega
 rw[ex,ey];rfl
theorem xl{a b:Nat}(ha:a<65536 ^ 32)(hb:b<65536 ^ 32)(h:w8 (wW a)=w8 (wW b)):a=b:=by
 rw[<-fh ha,<-fh hb,cv (cx a),cv (cx b)];unfold w8 at h;simp only[W8.mk.injEq] at h;obtain⟨h0,h1,h2,h3,h4,h5,h6,h7⟩:=h;rw[h0,h1,h2,h3,h4,h5,h6,h7]
theorem zZ{a b:Int}(h1:a.natAbs=b.natAbs)(h2:decide (a<0)=decide (b<0)):a=b:=by
 have:=decide_eq_decide.1 h2;omega
theorem M7{x y:Ct}(h:zM x=zM y):x.p=y.p/\x.q=y.q/\x.X=y.X/\x.Y=y.Y/\x.W=y.W:=by
 obtain⟨n,d,p,q,⟨a1,a2,a3,a4,a5,a6,a7,a8⟩,⟨b1,b2,b3,b4,b5,b6,b7,b8⟩,⟨c1,c2,c3,c4,c5,c6,c7,c8⟩⟩:=x;obtain⟨n',d',p',q',⟨a1',T9,a3',a4',a5',a6',a7',a8'⟩,⟨b1',b2',b3',b4',b5',b6',b7',b8'⟩,⟨W6,W7,W9,Xa,Xb,c6',c7',c8'⟩⟩:=y;simp only[zM,List.cons.injEq,A.sb.injEq,A.int.injEq,true_and,Int.natCast_inj,and_true] at h;simp only[W8.mk.injEq];obtain⟨h3,g1,g2,g3,g4,g5,g6,g7,g8,h4,k1,k2,k3,k4,k5,k6,k7,k8,l1,l2,l3,l4,l5,l6,l7,l8⟩:=h;exact⟨h3,h4,⟨g1,g2,g3,g4,g5,g6,g7,g8⟩,⟨k1,k2,k3,k4,k5,k6,k7,k8⟩,l1,l2,l3,l4,l5,l6,l7,l8⟩
theorem vM{n d:Int}(hd:d<=9223372036854775807){s:Sg}(hL:bJ s):∃(X Y:Int) (W g:Nat),0<g/\xS s (b9 n d) (aW n d)=X*g/\yS s (b9 n d) (aW n d)=Y*g/\(aW n d).toNat=W*g /\
  (yy s n d).p=decide (X<0)/\(yy s n d).q=decide (Y<0)/\(yy s n d).X=w8 (wW X.natAbs)/\(yy s n d).Y=w8 (wW Y.natAbs)/\(yy s n d).W=w8 (wW W)/\X.natAbs<65536 ^ 32/\Y.natAbs<65536 ^ 32/\W<65536 ^ 32:=by
 obtain⟨l1,l2,l3,l4⟩:=jN n d hd;obtain⟨⟨ax,ay⟩,⟨bx,HR⟩,_⟩:=hL;have b1:=oL ax bx ⟨l1,l2⟩ l4;have b2:=oL ay HR ⟨l1,l2⟩ l4
 have hN:=zz b1 b2 (show 0<(aW n d).toNat by omega) (by omega);have hg:=B4 (x:=s.a.x*aW n d+(s.b.x-s.a.x)*b9 n d) (y:=s.a.y*aW n d+(s.b.y-s.a.y)*b9 n d) (show 0<(aW n d).toNat by omega);obtain⟨g1,g2,g3⟩:=Qu (s.a.x*aW n d+(s.b.x-s.a.x)*b9 n d) (s.a.y*aW n d+(s.b.y-s.a.y)*b9 n d) (aW n d).toNat;have Jv:(2:Nat) ^ 119<65536 ^ 32:=by decide
 refine⟨_,_,_,_,hg,(IM g1).symm,(IM g2).symm,(Nat.div_mul_cancel g3).symm,rfl,rfl,rfl,rfl,rfl,?_,?_,?_⟩
 ·exact Nat.lt_trans hN.2.1 Jv
 ·exact Nat.lt_trans hN.2.2.1 Jv
 ·have h5:=hN.2.2.2.2;have:(18446744073709551616:Nat)<65536 ^ 32:=by decide
  omega
theorem Jw{ax ux n d n' d' X g W g':Int}(h1:ax*d+ux*n=X*g)(h2:ax*d'+ux*n'=X*g')(hd:d=W*g)(gk:d'=W*g'):ux*(n*d'-n'*d)=0:=by
 have e:ux*(n*d'-n'*d)=(ax*d+ux*n)*d'-(ax*d'+ux*n')*d:=by grind
 rw[e,h1,h2,hd,gk];grind
theorem Gk{s:Sg}(hL:bJ s){a b:Cu}(ha:zT s a)(hb:zT s b)(h:zM a.1=zM b.1):a=b:=by
 obtain⟨n,d,hd,rfl⟩:=ha;obtain⟨n',d',gk,rfl⟩:=hb;rw[dF hd,dF gk] at h;obtain⟨e1,e2,e3,e4,e5⟩:=M7 h;obtain⟨X,Y,W,g,hg,x1,x2,x3,c1,c2,c3,c4,c5,d1,d2,d3⟩:=vM (n:=n) hd hL;obtain⟨X',Y',W',g',hg',x1',x2',x3',W6,W7,W9,Xa,Xb,d1',d2',d3'⟩:=vM (n:=n') gk hL;rw[c1,W6] at e1;rw[c2,W7] at e2;rw[c3,W9] at e3;rw[c4,Xa] at e4;rw[c5,Xb] at e5;obtain rfl:=zZ (xl d1 d1' e3) e1;obtain rfl:=zZ (xl d2 d2' e4) e2;obtain rfl:=xl d3 d3' e5;obtain⟨l1,l2,l3,l4⟩:=jN n d hd;obtain⟨m1,m2,m3,m4⟩:=jN n' d' gk
 have f1:aW n d=(W:Int)*g:=by
  have:((aW n d).toNat:Int)=(W:Int)*g:=by rw[x3];exact Int.natCast_mul _ _
  omega
 have f2:aW n' d'=(W:Int)*g':=by
  have:((aW n' d').toNat:Int)=(W:Int)*g':=by rw[x3'];exact Int.natCast_mul _ _
  omega
 have z1:=Jw x1 x1' f1 f2;have z2:=Jw x2 x2' f1 f2
 have hz:b9 n d*aW n' d'=b9 n' d'*aW n d:=by
  rcases Int.mul_eq_zero.1 z1 with h|h
  ·rcases Int.mul_eq_zero.1 z2 with h'|h'
   ·exact absurd ⟨h,h'⟩ (sv hL)
   ·omega
  ·omega
 have Ik:(b9 n d).toNat*(aW n' d').toNat=(b9 n' d').toNat*(aW n d).toNat:=by
  have:(((b9 n d).toNat*(aW n' d').toNat:Nat):Int)=(((b9 n' d').toNat*(aW n d).toNat:Nat):Int):=by
   rw[Int.natCast_mul,Int.natCast_mul,Int.toNat_of_nonneg l1,Int.toNat_of_nonneg (by omega:0<=aW n' d'),Int.toNat_of_nonneg m1,Int.toNat_of_nonneg (by omega:0<=aW n d)];exact hz
  exact_mod_cast this
 obtain⟨p1,p2⟩:=Ep (sM n d) (sM n' d') Ik;exact Jq hd gk (by omega) (by omega)
theorem gw{L:List Cu}{i:Nat}(h:i<L.length):L.getD i default=L[i]:=by rw[List.getD_eq_getElem?_getD,List.getElem?_eq_getElem h];rfl
theorem Gl{s:Sg}{L:List Cu}(hp:L.Pairwise jP)(hm:np s 0 1∈L):L.getD 0 default=np s 0 1:=by
 obtain⟨j,hj,e⟩:=List.getElem_of_mem hm;rcases Nat.eq_zero_or_pos j with h0|h0
 ·subst h0;rw[gw hj,e]
 ·exfalso;have:=List.pairwise_iff_getElem.1 hp 0 j (by omega) hj h0;rw[e] at this;unfold jP F9 at this;rw[dF (by omega)] at this;have e0:(yy s 0 1).n.toNat=0:=show(b9 0 1).toNat=0 by decide
  rw[e0,Nat.zero_mul] at this;omega
theorem Jx{s:Sg}{L:List Cu}(hp:L.Pairwise jP)(hm:np s 1 1∈L):L.getD (L.length-1) default=np s 1 1:=by
 obtain⟨j,hj,e⟩:=List.getElem_of_mem hm;rcases Nat.lt_or_ge j (L.length-1) with h0|h0
 ·exfalso;have:=List.pairwise_iff_getElem.1 hp j (L.length-1) hj (by omega) h0;rw[e] at this;have hg:=L[L.length-1].2;generalize L[L.length-1]=c at *;unfold jP F9 at this;rw[dF (by omega)] at this;have e0:(yy s 1 1).n.toNat=1:=show(b9 1 1).toNat=1 by decide
  have e1:(yy s 1 1).d.toNat=1:=show(aW 1 1).toNat=1 by decide
  rw[e0,e1] at this;unfold vJ at hg;omega
 ·have:j=L.length-1:=by omega
  subst this;rw[gw hj,e]
end Go.Proofs.YtijddijloelacaaGreat
namespace Go.Proofs.YtijddijloelacaaGreat
open Go.Proofs.YtijddijloelacaaGreat.Am Go.Sort Go.Proofs Go.Lib
variable [Inhabited cc]
variable {G:aG}
theorem z8(s:Sg)(l:List Sg)(Et:Int):∀k,(iM s l Et k).length<=2+2*k
 | 0=>Nat.le_refl _
 | k+1=>by
  have h1:=z8 s l Et k;have h2:=sL s (l.getD k default)
  have h3:∀(M L:List Cu),(M.foldl (oR jP) L).length<=L.length+M.length:=by
   intro M
   induction M with
   | nil=>intro L;simp
   | cons c M ih =>
    intro L;have:=ih (oR jP L c)
    have hp:(oR jP L c).length<=L.length+1:=by
     unfold oR;split
     ·omega
     ·simp;omega
    rw[List.foldl_cons,List.length_cons];omega
  unfold iM;split
  ·omega
  ·have:=h3 (pE s (l.getD k default)) (iM s l Et k);omega
end Go.Proofs.YtijddijloelacaaGreat
namespace Go.Proofs.YtijddijloelacaaGreat
open Go.Proofs.YtijddijloelacaaGreat.Am
variable [Inhabited cc]
variable {G:aG}
structure Rd where
 id:Int
 lK:List Pt
 ws:List Int
 ow:Bool
 deriving Inhabited,DecidableEq
def u5(r:Rd):List A:=[.int .i64 r.id,yD r.lK,oz r.ws,.sb r.ow]
def Ud(l:List Rd):Nat->List A:=fun i=>u5 (l.getD i default)
def kO(l:List Rd):A:=.sl l.length 4 (Ud l)
theorem QN(p:Pt):aa Tryz.prog G 176 [.agg (lP p)] (.sb (!decide (bX p))):=by
 refine aa.ah al Tryz.func176 rfl rfl _ rfl ?_;(conv=>whnf);repeat' ((first|refine st ?_|(refine⟨fun h=>?_,fun h=>?_⟩<;>try simp only[ae] at h)|(refine .inl ?_;(conv=>whnf);refine⟨_,lX p,?_⟩)|refine wf ?_|refine az ?_|refine nn ?_|fail)<;>conv=>whnf)
def tU(n:Int):Prop:=n<0\/2147483648<n
instance (n:Int):Decidable (tU n):=inferInstanceAs (Decidable (_\/_))
theorem QO(n:Int):aa Tryz.prog G 180 [.int .i64 n] (.sb (decide (tU n))):=by
 refine aa.ah al Tryz.func180 rfl rfl _ rfl ?_;(conv=>whnf);repeat' ((first|refine st ?_|(refine⟨fun h=>?_,fun h=>?_⟩<;>try simp only[ae] at h)|refine wf ?_|refine az ?_|refine nn ?_|fail)<;>conv=>whnf)
 all_goals (simp only[tU] at *;(first|rfl|exact(decide_eq_true (by omega)).symm|exact(decide_eq_false (by omega)).symm|exact decide_eq_decide.2 (by omega)|(rw[Bool.eq_iff_iff];simp only[s9] at *;omega)))
def Aa(l:List Pt)(i:Nat):Bool:=!decide (bX (l.getD i default))
theorem Jy(l:List Pt)(hl:l.length<=1000000):aa Tryz.prog G 236 [yD l,.fn 176 []] (.int .i64 (fz (Aa l) l.length 0)):=by
 refine aa.ah al Tryz.func236 rfl rfl _ rfl ?_;(conv=>whnf);repeat' ((first|refine st ?_|(refine⟨fun h=>?_,fun h=>?_⟩<;>try simp only[ae] at h)|refine wf ?_|refine az ?_|refine nn ?_|fail)<;>conv=>whnf)
 refine ak (fun i:Nat=>i<=l.length/\fz (Aa l) l.length 0=fz (Aa l) (l.length-i) i) (fun i=>[(8,.int .i64 (i:Int))]) (fun _=>[]) (fun i=>l.length-i) 0 ⟨by omega,rfl⟩ ?_ ?_
 ·exact ff
 ·rintro i ⟨hi,he⟩;have hc:=QN (G:=G) (l.getD i default);(conv=>whnf);repeat' ((first|refine st ?_|(refine⟨fun h=>?_,fun h=>?_⟩<;>try simp only[ae] at h)|(refine .inl ?_;(conv=>whnf);refine⟨_,hc,?_⟩)|refine wf ?_|refine az ?_|refine nn ?_|fail)<;>conv=>whnf)
  ·rw[he,en _ (show i<l.length by omega),if_pos (show Aa l i=true by unfold Aa;rw[decide_eq_false h];rfl)]
  ·refine⟨i+1,⟨by omega,by rw[he,en _ (show i<l.length by omega),if_neg (by unfold Aa;rw[decide_eq_true h];exact Bool.noConfusion)]⟩,(by show l.length-(i+1)<l.length-i;omega),?_⟩;exact ff
  ·rw[he,show l.length-i=0 by omega];rfl
def vN(l:List Pt):Prop:=∃i,i<l.length/\¬bX (l.getD i default)
instance (l:List Pt):Decidable (vN l):=inferInstanceAs (Decidable (∃ i,i < l.length/\¬ bX (l.getD i default)))
theorem Ab(l:List Pt)(hl:l.length<=1000000):aa Tryz.prog G 175 [yD l,.fn 176 []] (.sb (decide (vN l))):=by
 refine aa.ah al Tryz.func175 rfl rfl _ rfl ?_;(conv=>whnf);repeat' ((first|refine st ?_|(refine⟨fun h=>?_,fun h=>?_⟩<;>try simp only[ae] at h)|(refine .inl ?_;(conv=>whnf);refine⟨_,Jy l hl,?_⟩)|refine wf ?_|refine az ?_|refine nn ?_|fail)<;>conv=>whnf)
 all_goals refine jb ?_
 all_goals rw[decide_eq_true_iff,gp]
 all_goals
  constructor
  ·rintro⟨j,_,h2,h3⟩;exact⟨j,by omega,fun h=>by unfold Aa at h3;rw[decide_eq_true h] at h3;cases h3⟩
  ·rintro⟨j,h2,h3⟩;exact⟨j,by omega,by omega,by unfold Aa;rw[decide_eq_false h3];rfl⟩
def Jz(l:List Int)(i:Nat):Bool:=decide (tU (l.getD i 0))
theorem JA(l:List Int)(hl:l.length<=1000000):aa Tryz.prog G 238 [oz l,.fn 180 []] (.int .i64 (fz (Jz l) l.length 0)):=by
 refine aa.ah al Tryz.func238 rfl rfl _ rfl ?_;(conv=>whnf);repeat' ((first|refine st ?_|(refine⟨fun h=>?_,fun h=>?_⟩<;>try simp only[ae] at h)|refine wf ?_|refine az ?_|refine nn ?_|fail)<;>conv=>whnf)
 refine ak (fun i:Nat=>i<=l.length/\fz (Jz l) l.length 0=fz (Jz l) (l.length-i) i) (fun i=>[(8,.int .i64 (i:Int))]) (fun _=>[]) (fun i=>l.length-i) 0 ⟨by omega,rfl⟩ ?_ ?_
 ·exact ff
 ·rintro i ⟨hi,he⟩;have hc:=QO (G:=G) (l.getD i 0);(conv=>whnf);repeat' ((first|refine st ?_|(refine⟨fun h=>?_,fun h=>?_⟩<;>try simp only[ae] at h)|(refine .inl ?_;(conv=>whnf);refine⟨_,hc,?_⟩)|refine wf ?_|refine az ?_|refine nn ?_|fail)<;>conv=>whnf)
  ·rw[he,en _ (show i<l.length by omega),if_pos (show Jz l i=true from decide_eq_true h)]
  ·refine⟨i+1,⟨by omega,by rw[he,en _ (show i<l.length by omega),if_neg (by unfold Jz;rw[decide_eq_false h];exact Bool.noConfusion)]⟩,(by show l.length-(i+1)<l.length-i;omega),?_⟩;exact ff
  ·rw[he,show l.length-i=0 by omega];rfl
def vO(l:List Int):Prop:=∃i,i<l.length/\tU (l.getD i 0)
instance (l:List Int):Decidable (vO l):=inferInstanceAs (Decidable (∃ i,i < l.length/\tU (l.getD i 0)))
theorem Ac(l:List Int)(hl:l.length<=1000000):aa Tryz.prog G 179 [oz l,.fn 180 []] (.sb (decide (vO l))):=by
 refine aa.ah al Tryz.func179 rfl rfl _ rfl ?_;(conv=>whnf);repeat' ((first|refine st ?_|(refine⟨fun h=>?_,fun h=>?_⟩<;>try simp only[ae] at h)|(refine .inl ?_;(conv=>whnf);refine⟨_,JA l hl,?_⟩)|refine wf ?_|refine az ?_|refine nn ?_|fail)<;>conv=>whnf)
 all_goals refine jb ?_
 all_goals rw[decide_eq_true_iff,gp]
 all_goals
  constructor
  ·rintro⟨j,_,h2,h3⟩;exact⟨j,by omega,of_decide_eq_true h3⟩
  ·rintro⟨j,h2,h3⟩;exact⟨j,by omega,by omega,decide_eq_true h3⟩
def Twin(l:List Pt):Prop:=∃i,i<l.length/\0<i/\l.getD i default=l.getD (i-1) default
instance (l:List Pt):Decidable (Twin l):=inferInstanceAs (Decidable (∃ i,i < l.length/\(0 < i/\l.getD i default=l.getD (i - 1) default)))
theorem QP(l:List Pt)(hl:l.length<=1000000):aa Tryz.prog G 178 [yD l] (.sb (decide (Twin l))):=by
 refine aa.ah al Tryz.func178 rfl rfl _ rfl ?_;(conv=>whnf);repeat' ((first|refine st ?_|(refine⟨fun h=>?_,fun h=>?_⟩<;>try simp only[ae] at h)|refine wf ?_|refine az ?_|refine nn ?_|fail)<;>conv=>whnf)
 refine ak (fun i:Nat=>1<=i/\∀k,0<k->k<i->k<l.length->l.getD k default≠l.getD (k-1) default) (fun i=>[(3,.int .i64 (i:Int))]) (fun _=>[]) (fun i=>l.length-i) 1 ⟨by omega,fun k h1 h2=>by omega⟩ ?_ ?_
 ·exact ff
 ·rintro i ⟨hi,he⟩;have ei:((i:Int)-1).toNat=i-1:=by omega
  (conv=>whnf);repeat' ((first|refine st ?_|(refine⟨fun h=>?_,fun h=>?_⟩<;>try simp only[ae] at h)|refine wf ?_|refine az ?_|refine nn ?_|fail)<;>conv=>whnf)
  all_goals (try simp only[ei] at *)
  ·have h:l.getD i default=l.getD (i-1) default:=of_decide_eq_true ((qK _ _).symm.trans h);exact(decide_eq_true ⟨i,by omega,by omega,h⟩).symm
  ·have h:¬l.getD i default=l.getD (i-1) default:=of_decide_eq_false ((qK _ _).symm.trans h);refine⟨i+1,⟨by omega,fun k h1 h2 h3=>?_⟩,(by show l.length-(i+1)<l.length-i;omega),?_⟩
   ·rcases Nat.lt_or_ge k i with q|q
    ·exact he k h1 q h3
    ·have:k=i:=by omega
     subst this;exact h
   ·exact ff
  ·refine(decide_eq_false ?_).symm;rintro⟨k,h1,h2,h3⟩;exact he k h2 (by omega) h1 h3
def O7(r:Rd):Prop:=r.lK.length<=110/\r.ws.length<=110
def mC(r:Rd):Prop:=1<=r.id/\r.id<=1048576/\2<=r.lK.length/\r.lK.length<=100/\r.ws.length+1=r.lK.length
instance (r:Rd):Decidable (mC r):=inferInstanceAs (Decidable (_/\_))
def fp(r:Rd):Int:=if mC r then (if vN r.lK then 6 else if Twin r.lK then 1 else if vO r.ws then 10 else 0) else 1
theorem JB(r:Rd)(hr:O7 r):aa Tryz.prog G 131 [.agg (u5 r)] (.int .i64 (fp r)):=by
 obtain⟨hp,hw⟩:=hr;have h1:=Ab (G:=G) r.lK (by omega);have h2:=QP (G:=G) r.lK (by omega);have h3:=Ac (G:=G) r.ws (by omega);refine aa.ah al Tryz.func131 rfl rfl _ rfl ?_;(conv=>whnf);repeat' ((first|refine st ?_|(refine⟨fun h=>?_,fun h=>?_⟩<;>try simp only[ae] at h)|(refine .inl ?_;(conv=>whnf);(first|refine⟨_,h1,?_⟩|refine⟨_,h2,?_⟩|refine⟨_,h3,?_⟩))|refine wf ?_|refine az ?_|refine nn ?_|fail)<;>conv=>whnf)
 all_goals simp only[fp,mC]
 all_goals (repeat' split)<;>first|rfl|contradiction|omega
theorem Gm(r:Rd)(hr:O7 r):aa Tryz.prog G 43 [.agg (u5 r)] (.int .i64 (fp r)):=by
 obtain⟨hp,hw⟩:=hr;by_cases hs:mC r
 ·have e:fp r=if vN r.lK then 6 else if Twin r.lK then 1 else if vO r.ws then 10 else 0:=if_pos hs
  rw[e];obtain⟨s1,s2,s3,s4,s5⟩:=hs;refine aa.ah al Tryz.func43 rfl rfl _ rfl ?_;(conv=>whnf);repeat' ((first|refine st ?_|(refine⟨fun h=>?_,fun h=>?_⟩<;>try simp only[ae] at h)|refine wf ?_|refine az ?_|refine nn ?_|fail)<;>conv=>whnf)
  all_goals first|(exfalso;omega)|skip
  refine ak (fun i:Nat=>i<=r.lK.length/\∀k,k<i->bX (r.lK.getD k default)) (fun i=>[(3,.int .i64 (i:Int))]) (fun _=>[.box 31 (u5 r)]) (fun i=>r.lK.length-i) 0 ⟨by omega,fun k hk=>by omega⟩ ?_ ?_
  ·exact ff
  ·rintro i ⟨hi,he⟩;have hc:=PU (G:=G) (r.lK.getD i default);(conv=>whnf);repeat' ((first|refine st ?_|(refine⟨fun h=>?_,fun h=>?_⟩<;>try simp only[ae] at h)|(refine .inl ?_;(conv=>whnf);refine⟨_,hc,?_⟩)|refine wf ?_|refine az ?_|refine nn ?_|fail)<;>conv=>whnf)
   ·rw[if_pos (show vN r.lK from⟨i,by omega,h⟩)]
   ·refine⟨i+1,⟨by omega,fun k hk=>?_⟩,(by show r.lK.length-(i+1)<r.lK.length-i;omega),?_⟩
    ·rcases Nat.lt_or_ge k i with q|q
     ·exact he k q
     ·have:k=i:=by omega
      subst this;exact h
    ·exact ff
   ·have hb:¬vN r.lK:=by rintro⟨k,k1,k2⟩;exact k2 (he k (by omega))
    rw[if_neg hb];refine ak (fun i:Nat=>1<=i/\∀k,0<k->k<i->k<r.lK.length->r.lK.getD k default≠r.lK.getD (k-1) default) (fun i=>[(4,.int .i64 (i:Int))]) (fun _=>[.box 31 (u5 r)]) (fun i=>r.lK.length-i) 1 ⟨by omega,fun k h1 h2=>by omega⟩ ?_ ?_
    ·exact ff
    ·rintro i ⟨hi,he⟩;have ei:((i:Int)-1).toNat=i-1:=by omega
     (conv=>whnf);repeat' ((first|refine st ?_|(refine⟨fun h=>?_,fun h=>?_⟩<;>try simp only[ae] at h)|refine wf ?_|refine az ?_|refine nn ?_|fail)<;>conv=>whnf)
     all_goals (try simp only[ei] at *)
     ·have h:r.lK.getD i default=r.lK.getD (i-1) default:=of_decide_eq_true ((qK _ _).symm.trans h);rw[if_pos (show Twin r.lK from⟨i,by omega,by omega,h⟩)]
     ·have h:¬r.lK.getD i default=r.lK.getD (i-1) default:=of_decide_eq_false ((qK _ _).symm.trans h);refine⟨i+1,⟨by omega,fun k h1 h2 h3=>?_⟩,(by show r.lK.length-(i+1)<r.lK.length-i;omega),?_⟩
      ·rcases Nat.lt_or_ge k i with q|q
       ·exact he k h1 q h3
       ·have:k=i:=by omega
        subst this;exact h
      ·exact ff
     ·have ht:¬Twin r.lK:=by rintro⟨k,h1,h2,h3⟩;exact he k h2 (by omega) h1 h3
      rw[if_neg ht];refine ak (fun i:Nat=>i<=r.ws.length/\∀k,k<i->¬tU (r.ws.getD k 0)) (fun i=>[(5,.int .i64 (i:Int))]) (fun _=>[.box 31 (u5 r)]) (fun i=>r.ws.length-i) 0 ⟨by omega,fun k hk=>by omega⟩ ?_ ?_
      ·exact ff
      ·rintro i ⟨hi,he⟩;(conv=>whnf);repeat' ((first|refine st ?_|(refine⟨fun h=>?_,fun h=>?_⟩<;>try simp only[ae] at h)|refine wf ?_|refine az ?_|refine nn ?_|fail)<;>conv=>whnf)
       all_goals (try simp only[QQ] at *)
       all_goals first
        | (rw[if_pos (show vO r.ws from⟨i,by omega,by unfold tU;omega⟩)])
        | (refine ⟨i + 1, ⟨by omega, fun k hk => ?_⟩, (by show r.ws.length - (i + 1) < r.ws.length - i; omega), ?_⟩
           · rcases Nat.lt_or_ge k i with q|q
             · exact he k q
             · have:k=i:=by omega
               subst this;unfold tU;omega
           · conv=>whnf
             repeat (first|exact fa|((first|refine fb ?_|(refine And.intro ?_ ?_;rotate_left));conv=>whnf)))
        | (rw[if_neg (show ¬vO r.ws by rintro⟨k,k1,k2⟩;exact he k (by omega) k2)])
 ·have e:fp r=1:=if_neg hs;rw[e];simp only[mC] at hs;refine aa.ah al Tryz.func43 rfl rfl _ rfl ?_;(conv=>whnf);repeat' ((first|refine st ?_|(refine⟨fun h=>?_,fun h=>?_⟩<;>try simp only[ae] at h)|refine wf ?_|refine az ?_|refine nn ?_|fail)<;>conv=>whnf)
  all_goals first|(exfalso;omega)|skip
def fC:List Rd->Int
 | []=>0
 | r::l=>if fp r=0 then fC l else fp r
theorem JC:∀(l:List Rd) (i:Nat),i<l.length->(∀k,k<i->fp (l.getD k default)=0)->fp (l.getD i default)≠0->fC l=fp (l.getD i default)
 | [],i,h,_,_=>absurd h (Nat.not_lt_zero _)
 | r::l,0,_,_,h=>if_neg h
 | r::l,i+1,h,hz,hn=>by
  have h0:fp r=0:=hz 0 (by omega);show(if fp r=0 then fC l else fp r)=_;rw[if_pos h0];exact JC l i (by simpa using h) (fun k hk=>hz (k+1) (by omega)) hn
theorem xm:∀(l:List Rd),(∀k,k<l.length->fp (l.getD k default)=0)->fC l=0
 | [],_=>rfl
 | r::l,hz=>by
  have h0:fp r=0:=hz 0 (by simp);show(if fp r=0 then fC l else fp r)=_;rw[if_pos h0];exact xm l fun k hk=>hz (k+1) (by simpa using hk)
theorem JD:∀(l:List Rd),fC l=0->∀k,k<l.length->fp (l.getD k default)=0
 | [],_,k,h=>absurd h (Nat.not_lt_zero _)
 | r::l,h,k,hk=>by
  have h:(if fp r=0 then fC l else fp r)=0:=h;split at h
  ·rename_i h0
   match k with
   | 0=>exact h0
   | k+1=>exact JD l h k (by simpa using hk)
  ·contradiction
def Ev(l:List Rd):Nat->Nat
 | 0=>0
 | k+1=>Ev l k+(l.getD k default).ws.length
def Lt(l:List Rd):Prop:=l.length<=1000/\∀i,i<l.length->O7 (l.getD i default)
theorem pZ{l:List Rd}(h:Lt l):∀k,k<=l.length->Ev l k<=110*k
 | 0,_=>by simp[Ev]
 | k+1,hk=>by
  have:=pZ h k (by omega);have:=(h.2 k (by omega)).2;simp only[Ev];omega
def Xe(l:List Rd):Nat->Int
 | 0=>0
 | k+1=>(l.getD k default).id
def Ad(l:List Rd):Prop:=∀i,i<l.length->0<i->(l.getD (i-1) default).id<(l.getD i default).id
instance (l:List Rd):Decidable (Ad l):=inferInstanceAs (Decidable (∀ i,i < l.length->(0 < i->(l.getD (i - 1) default).id < (l.getD i default).id)))
def jd(l:List Rd):Int:=if 200<l.length then 4 else if fC l≠0 then fC l else if ¬Ad l then 1 else if 400<Ev l l.length then 4 else 0
theorem QR{r:Rd}(h:fp r=0):1<=r.id:=by
 unfold fp at h;split at h
 ·rename_i q;exact q.1
 ·omega
theorem QS(l:List Rd)(hl:Lt l):aa Tryz.prog G 91 [kO l] (.int .i64 (jd l)):=by
 have WG:=hl.1;by_cases JE:200<l.length
 ·have e:jd l=4:=if_pos JE;rw[e];refine aa.ah al Tryz.func91 rfl rfl _ rfl ?_;(conv=>whnf);repeat' ((first|refine st ?_|(refine⟨fun h=>?_,fun h=>?_⟩<;>try simp only[ae] at h)|refine wf ?_|refine az ?_|refine nn ?_|fail)<;>conv=>whnf)
  all_goals first|(exfalso;omega)|skip
 have e0:jd l=if fC l≠0 then fC l else if ¬Ad l then 1 else if 400<Ev l l.length then 4 else 0:=if_neg JE
 rw[e0];refine aa.ah al Tryz.func91 rfl rfl _ rfl ?_;(conv=>whnf);repeat' ((first|refine st ?_|(refine⟨fun h=>?_,fun h=>?_⟩<;>try simp only[ae] at h)|refine wf ?_|refine az ?_|refine nn ?_|fail)<;>conv=>whnf)
 all_goals first|(exfalso;omega)|skip
 refine ak (fun i:Nat=>i<=l.length/\∀k,k<i->fp (l.getD k default)=0) (fun i=>[(15,.int .i64 (i:Int)),(3,.int .i64 (Ev l i:Nat))]) (fun _=>[]) (fun i=>l.length-i) 0 ⟨by omega,fun k hk=>by omega⟩ ?_ ?_
 ·exact ff
 ·rintro i ⟨hi,he⟩;have hb:=pZ hl i hi;(conv=>whnf)
  repeat (first|(refine st ?_;conv=>whnf))
  refine⟨fun h=>?_,fun h=>?_⟩
  ·have h:(i:Int)<l.length:=of_decide_eq_true h;have hc:=JB (G:=G) (l.getD i default) (hl.2 i (by omega));have hw:(l.getD (i:Int).toNat default).ws.length<=110:=by rw[Int.toNat_natCast];exact(hl.2 i (by omega)).2
   (conv=>whnf);repeat' ((first|refine st ?_|(refine⟨fun h=>?_,fun h=>?_⟩<;>try simp only[ae] at h)|(refine .inl ?_;(conv=>whnf);refine⟨_,hc,?_⟩)|refine wf ?_|refine az ?_|refine nn ?_|fail)<;>conv=>whnf)
   ·have h:¬fp (l.getD i default)=0:=h;have e:=JC l i (by omega) he h;rw[if_pos (by rw[e];exact h),e]
   ·have h:fp (l.getD i default)=0:=h;refine⟨i+1,⟨by omega,fun k hk=>?_⟩,(by show l.length-(i+1)<l.length-i;omega),?_⟩
    ·rcases Nat.lt_or_ge k i with q|q
     ·exact he k q
     ·have:k=i:=by omega
      subst this;exact h
    ·exact ff
  ·have h:¬(i:Int)<l.length:=of_decide_eq_false h;have bV:i=l.length:=by omega
   subst bV;have hz:=xm l he;rw[if_neg (fun h=>h hz)];(conv=>whnf);repeat' ((first|refine st ?_|(refine⟨fun h=>?_,fun h=>?_⟩<;>try simp only[ae] at h)|refine wf ?_|refine az ?_|refine nn ?_|fail)<;>conv=>whnf)
   refine ak (fun i:Nat=>i<=l.length/\∀k,0<k->k<i->(l.getD (k-1) default).id<(l.getD k default).id) (fun i=>[(32,.int .i64 (i:Int)),(4,.int .i64 (Xe l i))]) (fun _=>[]) (fun i=>l.length-i) 0 ⟨by omega,fun k hk=>by omega⟩ ?_ ?_
   ·exact ff
   ·rintro i ⟨hi,hr⟩;(conv=>whnf);repeat' ((first|refine st ?_|(refine⟨fun h=>?_,fun h=>?_⟩<;>try simp only[ae] at h)|refine wf ?_|refine az ?_|refine nn ?_|fail)<;>conv=>whnf)
    ·have h:(l.getD i default).id<=Xe l i:=h;rw[if_pos];intro hR
     match i with
     | 0 =>
      have:=QR (he 0 (by omega));have h:(l.getD 0 default).id<=0:=h;omega
     | k+1 =>
      have h:(l.getD (k+1) default).id<=(l.getD k default).id:=h;have:=hR (k+1) (by omega) (by omega);rw[show k+1-1=k by omega] at this;omega
    ·have h:¬(l.getD i default).id<=Xe l i:=h;refine⟨i+1,⟨by omega,fun k k0 hk=>?_⟩,(by show l.length-(i+1)<l.length-i;omega),?_⟩
     ·rcases Nat.lt_or_ge k i with q|q
      ·exact hr k k0 q
      ·have:k=i:=by omega
       subst this
       match k with
       | k+1 =>
        have h:¬(l.getD (k+1) default).id<=(l.getD k default).id:=h;rw[show k+1-1=k by omega];omega
     ·exact ff
    ·rw[if_neg (fun hn=>hn fun k k1 k0=>hr k k0 (by omega)),if_pos (by omega)]
    ·rw[if_neg (fun hn=>hn fun k k1 k0=>hr k k0 (by omega)),if_neg (by omega)]
theorem QT(l:List Rd)(hl:Lt l):aa Tryz.prog G 12 [kO l] (.int .i64 (jd l)):=by
 have WG:=hl.1;by_cases JE:200<l.length
 ·have e:jd l=4:=if_pos JE;rw[e];refine aa.ah al Tryz.func12 rfl rfl _ rfl ?_;(conv=>whnf);repeat' ((first|refine st ?_|(refine⟨fun h=>?_,fun h=>?_⟩<;>try simp only[ae] at h)|refine wf ?_|refine az ?_|refine nn ?_|fail)<;>conv=>whnf)
  all_goals first|(exfalso;omega)|skip
 have e0:jd l=if fC l≠0 then fC l else if ¬Ad l then 1 else if 400<Ev l l.length then 4 else 0:=if_neg JE
 rw[e0];refine aa.ah al Tryz.func12 rfl rfl _ rfl ?_;(conv=>whnf);repeat' ((first|refine st ?_|(refine⟨fun h=>?_,fun h=>?_⟩<;>try simp only[ae] at h)|refine wf ?_|refine az ?_|refine nn ?_|fail)<;>conv=>whnf)
 all_goals first|(exfalso;omega)|skip
 refine ak (fun x:Nat×Bool=>x.1<=l.length/\(∀k,k<x.1->fp (l.getD k default)=0)/\(x.2=true↔∀k,0<k->k<x.1->(l.getD (k-1) default).id<(l.getD k default).id))
  (fun x=>match x with|(i,b)=>[(5,.int .i64 (i:Int)),(3,.int .i64 (Ev l i:Nat)),(4,.sb b)]) (fun _=>[]) (fun x=>l.length-x.1) (0,true) ⟨by simp,fun k hk=>absurd hk (Nat.not_lt_zero _),⟨fun _ k _ hk=>absurd hk (Nat.not_lt_zero _),fun _=>rfl⟩⟩ ?_ ?_
 ·exact ff
 ·rintro⟨i,b⟩ ⟨hi,he,hb⟩;have hi:i<=l.length:=hi;have sN:=pZ hl i hi;have ei:((i:Int)-1).toNat=i-1:=by omega
  conv=>whnf
  repeat (first|(refine st ?_;conv=>whnf))
  refine⟨fun h=>?_,fun h=>?_⟩
  ·have h:(i:Int)<l.length:=of_decide_eq_true h;have hc:=Gm (G:=G) (l.getD i default) (hl.2 i (by omega));have hw:(l.getD (i:Int).toNat default).ws.length<=110:=by rw[Int.toNat_natCast];exact(hl.2 i (by omega)).2
   (conv=>whnf);repeat' ((first|refine st ?_|(refine⟨fun h=>?_,fun h=>?_⟩<;>try simp only[ae] at h)|(refine .inl ?_;(conv=>whnf);refine⟨_,hc,?_⟩)|refine wf ?_|refine az ?_|refine nn ?_|fail)<;>conv=>whnf)
   all_goals (try simp only[QQ] at *)
   all_goals (try simp only[ei] at *)
   ·have h:¬fp (l.getD i default)=0:=by assumption
    have e:=JC l i (by omega) he h;rw[if_pos (by rw[e];exact h),e]
   ·have q3:fp (l.getD i default)=0:=by assumption
    have Y9:i=0:=by omega
    refine⟨(i+1,true),⟨by show i+1<=l.length;omega,?_,?_⟩,(by show l.length-(i+1)<l.length-i;omega),?_⟩
    ·intro k hk;have:k=i:=by have hk:k<i+1:=hk;omega
     subst this;exact q3
    ·refine⟨fun _ k k0 hk=>?_,fun _=>rfl⟩;have hk:k<i+1:=hk;omega
    ·exact ff
   ·have q3:fp (l.getD i default)=0:=by assumption
    have q2:b=true:=by assumption
    refine⟨(i+1,decide ((l.getD (i-1) default).id<(l.getD i default).id)),⟨by show i+1<=l.length;omega,?_,?_⟩,(by show l.length-(i+1)<l.length-i;omega),?_⟩
    ·intro k hk;rcases Nat.lt_or_ge k i with q|q
     ·exact he k q
     ·have:k=i:=by have hk:k<i+1:=hk;omega
      subst this;exact q3
    ·rw[decide_eq_true_iff];refine⟨fun hd k k0 hk=>?_,fun hA=>hA i (by omega) (Nat.lt_succ_self i)⟩;rcases Nat.lt_or_ge k i with q|q
     ·exact hb.1 q2 k k0 q
     ·have:k=i:=by have hk:k<i+1:=hk;omega
      subst this;exact hd
    ·exact ff
   ·have q3:fp (l.getD i default)=0:=by assumption
    have q2:b=false:=by assumption
    refine⟨(i+1,false),⟨by show i+1<=l.length;omega,?_,?_⟩,(by show l.length-(i+1)<l.length-i;omega),?_⟩
    ·intro k hk;rcases Nat.lt_or_ge k i with q|q
     ·exact he k q
     ·have:k=i:=by have hk:k<i+1:=hk;omega
      subst this;exact q3
    ·refine⟨fun h=>Bool.noConfusion h,fun hA=>?_⟩;have:b=true:=hb.2 fun k k0 hk=>hA k k0 (by have hk:k<i:=hk;show k<i+1;omega);rw[this] at q2;exact Bool.noConfusion q2
    ·exact ff
  ·have h:¬(i:Int)<l.length:=of_decide_eq_false h;have bV:i=l.length:=by omega
   subst bV;have hz:=xm l he;rw[if_neg (fun h=>h hz)];(conv=>whnf);repeat' ((first|refine st ?_|(refine⟨fun h=>?_,fun h=>?_⟩<;>try simp only[ae] at h)|refine wf ?_|refine az ?_|refine nn ?_|fail)<;>conv=>whnf)
   ·rw[if_pos (fun hR=>?_)];have:b=true:=hb.2 fun k k0 hk=>hR k hk k0;rw[this] at h;exact Bool.noConfusion h
   all_goals rename_i q
   all_goals rw[if_neg (fun hn=>hn fun k k1 k0=>hb.1 q k k0 k1)]
   ·rw[if_pos (by omega)]
   ·rw[if_neg (by omega)]
structure Sp where
 rd:Int
 pl:Int
 s:Sg
 w:Int
 ow:Bool
 deriving Inhabited,DecidableEq
def QU(x:Sp):List A:=[.int .i64 x.rd,.int .i64 x.pl,.int .i64 x.s.a.x,.int .i64 x.s.a.y,.int .i64 x.s.b.x,.int .i64 x.s.b.y,.int .i64 x.w,.sb x.ow]
def JF(l:List Sp):Nat->List A:=fun i=>QU (l.getD i default)
def JG(l:List Sp):A:=.sl l.length 8 (JF l)
def VB(r:Rd)(i:Nat):Sp:=⟨r.id,i,⟨r.lK.getD i default,r.lK.getD (i+1) default⟩,r.ws.getD i 0,r.ow⟩
def Cy(r:Rd)(k:Nat):List Sp:=(List.range k).map (VB r)
def j8(l:List Rd):Nat->List Sp
 | 0=>[]
 | k+1=>j8 l k++Cy (l.getD k default) (l.getD k default).ws.length
abbrev LF(l:List Rd):List Sp:=j8 l l.length
theorem lf(r:Rd)(k:Nat):(Cy r k).length=k:=by simp[Cy]
theorem Ae(r:Rd)(k:Nat):Cy r (k+1)=Cy r k++[VB r k]:=by simp[Cy,List.range_succ]
theorem oT(l:List Rd):∀k,(j8 l k).length=Ev l k
 | 0=>rfl
 | k+1=>by simp[j8,oT l k,lf,Ev]
theorem j9{α:Type}[Inhabited α](e:α->List A)(L:List α)(x:α)(n:Nat)(hn:n=L.length)(r:Nat->List A)(hr:r 0=e x)(i:Nat)(hi:i<n+1):bM n (fun i=>e (L.getD i default)) r i=e ((L++[x]).getD i default):=by
 subst hn;unfold bM;split
 ·rename_i h;have h:i<L.length:=Nat.le_of_ble_eq_true h;simp only[List.getD_eq_getElem?_getD,List.getElem?_append_left h]
 ·rename_i h;have h:¬i<L.length:=fun h'=>by rw[show Nat.blt i L.length=true from Nat.ble_eq_true_of_le h'] at h;cases h
  have:i=L.length:=by omega
  subst this;rw[Nat.sub_self,hr];simp[List.getD_eq_getElem?_getD]
theorem xn{l:List Rd}(h:jd l=0):l.length<=200/\(∀k,k<l.length->fp (l.getD k default)=0)/\Ad l/\Ev l l.length<=400:=by
 unfold jd at h;split at h
 ·omega
 ·split at h
  ·rename_i h2;exact absurd h h2
  ·rename_i h1 h2;split at h
   ·omega
   ·split at h
    ·omega
    ·rename_i h3 h4;exact⟨by omega,JD l (by simpa using h2),by simpa using h3,by omega⟩
theorem p9{r:Rd}(h:fp r=0):mC r/\(∀i,i<r.lK.length->bX (r.lK.getD i default))/\¬Twin r.lK/\∀i,i<r.ws.length->¬tU (r.ws.getD i 0):=by
 unfold fp at h;split at h
 ·rename_i hs;split at h
  ·omega
  ·rename_i h1;split at h
   ·omega
   ·rename_i h2;split at h
    ·omega
    ·rename_i h3;refine⟨hs,fun i hi=>?_,h2,fun i hi hb=>h3 ⟨i,hi,hb⟩⟩;exact Classical.byContradiction fun hn=>h1 ⟨i,hi,hn⟩
 ·omega
theorem JH(l:List Rd)(hl:Lt l)(h:jd l=0):aa Tryz.prog G 44 [kO l] (.tup [JG (LF l),.int .i64 0]):=by
 have h1:=QS (G:=G) l hl;rw[h] at h1;obtain⟨q1,q2,q3,q4⟩:=xn h;refine aa.ah al Tryz.func44 rfl rfl _ rfl ?_;(conv=>whnf);repeat' ((first|((exfalso;exact h trivial))|refine st ?_|(refine⟨fun h=>?_,fun h=>?_⟩<;>try simp only[ae] at h)|(refine .inl ?_;(conv=>whnf);refine⟨_,h1,?_⟩)|refine wf ?_|refine az ?_|refine nn ?_|fail)<;>conv=>whnf)
 refine iG 5 62 8 rfl ?_;(conv=>whnf);refine ak (fun i:Nat=>i<=l.length) (fun i=>[(17,.int .i64 (i:Int)),(5,.own 0)]) (fun i=>[.row 62 8 (j8 l i).length (JF (j8 l i))]) (fun i=>l.length-i) 0 (Nat.zero_le _) ?_ ?_
 ·conv=>whnf
  repeat (first|exact fa|((first|refine fb ?_|(refine And.intro ?_ ?_;rotate_left));conv=>whnf))
 ·intro i hi;have hi:i<=l.length:=hi;rcases Nat.lt_or_ge i l.length with cy|cy
  ·have hr:=p9 (q2 i cy);have Ew:=hr.1;unfold mC at Ew;have e0:(i:Int).toNat=i:=by omega
   (conv=>whnf);repeat' ((first|(exfalso;omega)|refine st ?_|(refine⟨fun h=>?_,fun h=>?_⟩<;>try simp only[ae] at h)|refine wf ?_|refine az ?_|refine nn ?_|fail)<;>conv=>whnf)
   refine ak (fun k:Nat=>k<=(l.getD i default).ws.length) (fun k=>[(24,.int .i64 (k:Int)),(5,.own 0),(7,.ref 1 0)]) (fun k=>[.row 62 8 (j8 l i++Cy (l.getD i default) k).length (JF (j8 l i++Cy (l.getD i default) k)),.box 31 (u5 (l.getD i default))]) (fun k=>(l.getD i default).ws.length-k) 0 (Nat.zero_le _) ?_ ?_
   ·have ea:j8 l i=j8 l i++Cy (l.getD i default) 0:=(List.append_nil _).symm;rw[<-ea];exact ff
   ·intro k hk;have hk:k<=(l.getD i default).ws.length:=hk
    have hlen:(j8 l i++Cy (l.getD i default) k).length<=110*201:=by
     rw[List.length_append,oT,lf];have:=pZ hl i hi;omega
    rcases Nat.lt_or_ge k (l.getD i default).ws.length with jY|jY
    ·have JI:(k:Int)<(l.getD (i:Int).toNat default).ws.length:=by rw[e0];omega
     (conv=>whnf);repeat' ((first|(exfalso;omega)|((refine lh (id:=12) 4 [3,1] rfl rfl ?_;conv=>whnf))|refine st ?_|(refine⟨fun h=>?_,fun h=>?_⟩<;>try simp only[ae] at h)|refine wf ?_|refine az ?_|refine nn ?_|fail)<;>conv=>whnf)
     refine⟨k+1,jY,(by show _-(k+1)<_-k;omega),?_⟩;(conv=>whnf)
     repeat (first|exact fa|((first|refine fb ?_|(refine And.intro ?_ ?_;rotate_left));conv=>whnf))
     ·rw[List.length_append,List.length_append,lf,lf];omega
     ·exact Or.inl fun j hj=>by rw[Ae,<-List.append_assoc];exact j9 QU _ (VB (l.getD i default) k) _ rfl _ rfl j hj
    ·have e:k=(l.getD i default).ws.length:=by omega
     subst e;have JI:¬(((l.getD i default).ws.length:Nat):Int)<(l.getD (i:Int).toNat default).ws.length:=by rw[e0];omega
     (conv=>whnf);repeat' ((first|(exfalso;omega)|refine st ?_|(refine⟨fun h=>?_,fun h=>?_⟩<;>try simp only[ae] at h)|refine wf ?_|refine az ?_|refine nn ?_|fail)<;>conv=>whnf)
     refine⟨i+1,cy,(by show l.length-(i+1)<l.length-i;omega),?_⟩;(conv=>whnf)
     repeat (first|exact fa|((first|refine fb ?_|(refine And.intro ?_ ?_;rotate_left));conv=>whnf))
  ·have e:i=l.length:=by omega
   subst e;(conv=>whnf);repeat' ((first|(exfalso;omega)|refine st ?_|(refine⟨fun h=>?_,fun h=>?_⟩<;>try simp only[ae] at h)|refine wf ?_|refine az ?_|refine nn ?_|fail)<;>conv=>whnf)
   repeat (first|exact fa|((first|refine fb ?_|(refine And.intro ?_ ?_;rotate_left));conv=>whnf))
theorem Gn(l:List Rd)(hl:Lt l)(h:jd l=0):aa Tryz.prog G 21 [kO l] (JG (LF l)):=by
 obtain⟨q1,q2,q3,q4⟩:=xn h;refine aa.ah al Tryz.func21 rfl rfl _ rfl ?_;(conv=>whnf);repeat' ((first|refine st ?_|(refine⟨fun h=>?_,fun h=>?_⟩<;>try simp only[ae] at h)|refine wf ?_|refine az ?_|refine nn ?_|fail)<;>conv=>whnf)
 refine ak (fun i:Nat=>i<=l.length) (fun i=>[(4,.int .i64 (i:Int)),(3,.own 0),(6,.af)]) (fun i=>[.row 62 8 (j8 l i).length (JF (j8 l i))]) (fun i=>l.length-i) 0 (Nat.zero_le _) ?_ ?_
 ·conv=>whnf
  repeat (first|exact fa|((first|refine fb ?_|(refine And.intro ?_ ?_;rotate_left));conv=>whnf))
 ·intro i hi;have hi:i<=l.length:=hi;rcases Nat.lt_or_ge i l.length with cy|cy
  ·have hr:=p9 (q2 i cy);have Ew:=hr.1;unfold mC at Ew;have e0:(i:Int).toNat=i:=by omega
   (conv=>whnf);repeat' ((first|(exfalso;omega)|refine st ?_|(refine⟨fun h=>?_,fun h=>?_⟩<;>try simp only[ae] at h)|refine wf ?_|refine az ?_|refine nn ?_|fail)<;>conv=>whnf)
   refine ak (fun k:Nat=>k<=(l.getD i default).ws.length) (fun k=>[(5,.int .i64 (k:Int)),(3,.own 0),(6,.af)]) (fun k=>[.row 62 8 (j8 l i++Cy (l.getD i default) k).length (JF (j8 l i++Cy (l.getD i default) k))]) (fun k=>(l.getD i default).ws.length-k) 0 (Nat.zero_le _) ?_ ?_
   ·have ea:j8 l i=j8 l i++Cy (l.getD i default) 0:=(List.append_nil _).symm;rw[<-ea];exact ff
   ·intro k hk;have hk:k<=(l.getD i default).ws.length:=hk
    have hlen:(j8 l i++Cy (l.getD i default) k).length<=110*201:=by
     rw[List.length_append,oT,lf];have:=pZ hl i hi;omega
    have ew:(l.getD (i:Int).toNat default).ws.length+1=(l.getD (i:Int).toNat default).lK.length:=by rw[e0];omega
    rcases Nat.lt_or_ge k (l.getD i default).ws.length with jY|jY
    ·have JI:(k:Int)<(l.getD (i:Int).toNat default).ws.length:=by rw[e0];omega
     (conv=>whnf);repeat' ((first|(exfalso;omega)|((refine lh (id:=7) 3 [2] rfl rfl ?_;conv=>whnf))|refine st ?_|(refine⟨fun h=>?_,fun h=>?_⟩<;>try simp only[ae] at h)|refine wf ?_|refine az ?_|refine nn ?_|fail)<;>conv=>whnf)
     refine⟨k+1,jY,(by show _-(k+1)<_-k;omega),?_⟩;(conv=>whnf)
     repeat (first|exact fa|((first|refine fb ?_|(refine And.intro ?_ ?_;rotate_left));conv=>whnf))
     ·exact Or.inl fun j hj=>by rw[Ae,<-List.append_assoc];exact j9 QU _ (VB (l.getD i default) k) _ rfl _ rfl j hj
     ·rw[List.length_append,List.length_append,lf,lf];omega
    ·have e:k=(l.getD i default).ws.length:=by omega
     subst e;have JI:¬(((l.getD i default).ws.length:Nat):Int)<(l.getD (i:Int).toNat default).ws.length:=by rw[e0];omega
     (conv=>whnf);repeat' ((first|(exfalso;omega)|refine st ?_|(refine⟨fun h=>?_,fun h=>?_⟩<;>try simp only[ae] at h)|refine wf ?_|refine az ?_|refine nn ?_|fail)<;>conv=>whnf)
     refine⟨i+1,cy,(by show l.length-(i+1)<l.length-i;omega),?_⟩;(conv=>whnf)
     repeat (first|exact fa|((first|refine fb ?_|(refine And.intro ?_ ?_;rotate_left));conv=>whnf))
  ·have e:i=l.length:=by omega
   subst e;(conv=>whnf);repeat' ((first|(exfalso;omega)|refine st ?_|(refine⟨fun h=>?_,fun h=>?_⟩<;>try simp only[ae] at h)|refine wf ?_|refine az ?_|refine nn ?_|fail)<;>conv=>whnf)
   exact Or.inl fun _ _=>rfl
def tV(w n d:Int):Int:=((w.toNat*n.toNat/d.toNat:Nat):Int)
def Gp(n d:Int):Prop:=1<=d/\0<=n/\n<=d
instance (n d:Int):Decidable (Gp n d):=inferInstanceAs (Decidable (_/\_))
theorem tW{w n d:Int}(h:Gp n d)(hw:0<=w):0<=tV w n d/\tV w n d<=w:=by
 unfold Gp at h;unfold tV;refine⟨Int.natCast_nonneg _,?_⟩
 have h1:w.toNat*n.toNat/d.toNat<=w.toNat:=by
  refine Nat.div_le_of_le_mul ?_;rw[Nat.mul_comm];exact Nat.mul_le_mul (by omega) (Nat.le_refl _)
 omega
theorem JJ(w n d:Int)(hw:0<=w/\w<=2147483648)(h:Gp n d)(hd:d<=9223372036854775807):aa Tryz.prog G 206 [.int .i64 w,.int .i64 n,.int .i64 d] (.tup [.int .i64 (tV w n d),.int .i64 0]):=by
 have hle:=tW h hw.1;unfold Gp at h;unfold tV at *;obtain⟨w,rfl⟩:=Int.eq_ofNat_of_zero_le hw.1;obtain⟨n,rfl⟩:=Int.eq_ofNat_of_zero_le h.2.1;obtain⟨d,rfl⟩:=Int.eq_ofNat_of_zero_le (show 0<=d by omega);simp only[Int.toNat_natCast] at *;have hm:=j0 (G:=G) w n (by omega) (by omega);have hp:w*n<=w*d:=Nat.mul_le_mul (Nat.le_refl _) (by omega);have OX:w*d<=2147483648*d:=Nat.mul_le_mul (by omega) (Nat.le_refl _);have e:=Nat.div_add_mod (w*n) 18446744073709551616;have hq:=zk (G:=G) (w*n/18446744073709551616) (w*n%18446744073709551616) d (by omega) (by omega) (by omega);rw[show w*n/18446744073709551616*18446744073709551616+w*n%18446744073709551616=w*n by omega] at hq;generalize w*n/d=q at *;generalize w*n%d=r at *;generalize w*n/18446744073709551616=a at *;generalize w*n%18446744073709551616=b at *;clear hp OX e;refine aa.ah al Tryz.func206 rfl rfl _ rfl ?_;(conv=>whnf);repeat' ((first|(exfalso;omega)|refine st ?_|(refine⟨fun h=>?_,fun h=>?_⟩<;>try simp only[ae] at h)|(refine .inl ?_;(conv=>whnf);(first|refine⟨_,hm,?_⟩|refine⟨_,hq,?_⟩))|refine wf ?_|refine az ?_|refine nn ?_|fail)<;>conv=>whnf)
theorem Ex(n d:Int):aa Tryz.prog G 204 [.agg [.int .i64 n,.int .i64 d]] (.sb (decide (Gp n d))):=by
 refine aa.ah al Tryz.func204 rfl rfl _ rfl ?_;(conv=>whnf);repeat' ((first|refine st ?_|(refine⟨fun h=>?_,fun h=>?_⟩<;>try simp only[ae] at h)|refine wf ?_|refine az ?_|refine nn ?_|fail)<;>conv=>whnf)
 all_goals (simp only[Gp] at *;(first|rfl|exact(decide_eq_true (by omega)).symm|exact(decide_eq_false (by omega)).symm|exact decide_eq_decide.2 (by omega)|(rw[Bool.eq_iff_iff];simp only[s9] at *;omega)))
theorem nP(w:Int):aa Tryz.prog G 58 [.int .i64 w] (.sb (decide (0<=w/\w<=2147483648))):=by
 refine aa.ah al Tryz.func58 rfl rfl _ rfl ?_;(conv=>whnf);repeat' ((first|refine st ?_|(refine⟨fun h=>?_,fun h=>?_⟩<;>try simp only[ae] at h)|refine wf ?_|refine az ?_|refine nn ?_|fail)<;>conv=>whnf)
 all_goals (first|rfl|exact(decide_eq_true (by omega)).symm|exact(decide_eq_false (by omega)).symm|exact decide_eq_decide.2 (by omega)|(rw[Bool.eq_iff_iff];simp only[s9] at *;omega))
theorem QV(w n d:Int)(hw:0<=w/\w<=2147483648)(h:Gp n d)(hd:d<=9223372036854775807):aa Tryz.prog G 149 [.int .i64 w,.int .i64 n,.int .i64 d] (.tup [.int .i64 (tV w n d),.int .i64 0]):=by
 have h1:=nP (G:=G) w;have h2:=Ex (G:=G) n d;rw[decide_eq_true hw] at h1;rw[decide_eq_true h] at h2;have h3:=JJ (G:=G) w n d hw h hd;refine aa.ah al Tryz.func149 rfl rfl _ rfl ?_;(conv=>whnf);repeat' ((first|(exact Bool.noConfusion h)|refine st ?_|(refine⟨fun h=>?_,fun h=>?_⟩<;>try simp only[ae] at h)|(refine .inl ?_;(conv=>whnf);(first|refine⟨_,h1,?_⟩|refine⟨_,h2,?_⟩|refine⟨_,h3,?_⟩))|refine wf ?_|refine az ?_|refine nn ?_|fail)<;>conv=>whnf)
theorem Gq(p q:Nat):(decide (q/18446744073709551616<p/18446744073709551616)||(decide (q/18446744073709551616=p/18446744073709551616)&&decide (q%18446744073709551616<p%18446744073709551616)))=decide (q<p):=by
 rw[Bool.eq_iff_iff,Bool.or_eq_true,Bool.and_eq_true,decide_eq_true_eq,decide_eq_true_eq,decide_eq_true_eq,decide_eq_true_eq];omega
theorem M8(a b c d:Nat)(ha:a<9223372036854775808)(hb:b<9223372036854775808)(hc:c<9223372036854775808)(hd:d<9223372036854775808):
  aa Tryz.prog G 205 [.agg [.int .i64 (a:Int),.int .i64 (b:Int)],.agg [.int .i64 (c:Int),.int .i64 (d:Int)]] (.sb (decide (c*b<a*d))):=by
 have h1:=j0 (G:=G) a d (by omega) (by omega);have h2:=j0 (G:=G) c b (by omega) (by omega);have e:=Gq (a*d) (c*b);generalize a*d=p at *;generalize c*b=q at *;rw[<-e];clear e;generalize p/18446744073709551616=p1 at *;generalize p%18446744073709551616=p2 at *;generalize q/18446744073709551616=q1 at *;generalize q%18446744073709551616=q2 at *;refine aa.ah al Tryz.func205 rfl rfl _ rfl ?_;(conv=>whnf);repeat' ((first|refine st ?_|(refine⟨fun h=>?_,fun h=>?_⟩<;>try simp only[ae] at h)|(refine .inl ?_;(conv=>whnf);(first|refine⟨_,h1,?_⟩|refine⟨_,h2,?_⟩))|refine wf ?_|refine az ?_|refine nn ?_|fail)<;>conv=>whnf)
 all_goals (rw[Bool.eq_iff_iff];simp only[Bool.or_eq_true,Bool.and_eq_true,decide_eq_true_eq,Bool.false_eq_true,true_iff,false_iff];omega)
abbrev Qp:=Int×Int
def VC(p:Qp):List A:=[.int .i64 p.1,.int .i64 p.2]
def Ue(l:List Qp):Nat->List A:=fun i=>VC (l.getD i default)
def M9(l:List Qp):A:=.sl l.length 2 (Ue l)
structure SE (l:List Qp):Prop where
 l2:2<=l.length
 l3:l.length<=2000
 ok:∀i,i<l.length->Gp (l.getD i default).1 (l.getD i default).2/\(l.getD i default).2<=9223372036854775807
 up:∀i,0<i->i<l.length->¬(l.getD i default).1.toNat*(l.getD (i-1) default).2.toNat<(l.getD (i-1) default).1.toNat*(l.getD i default).2.toNat
 fst:(l.getD 0 default).1=0
 Za:(l.getD (l.length-1) default).1=(l.getD (l.length-1) default).2
theorem JK(p q:Qp)(hp:Gp p.1 p.2/\p.2<=9223372036854775807)(hq:Gp q.1 q.2/\q.2<=9223372036854775807):aa Tryz.prog G 205 [.agg (VC p),.agg (VC q)] (.sb (decide (q.1.toNat*p.2.toNat<p.1.toNat*q.2.toNat))):=by
 obtain⟨a,b⟩:=p;obtain⟨c,d⟩:=q;unfold Gp at hp hq;simp only at hp hq;obtain⟨a,rfl⟩:=Int.eq_ofNat_of_zero_le hp.1.2.1;obtain⟨b,rfl⟩:=Int.eq_ofNat_of_zero_le (show 0<=b by omega);obtain⟨c,rfl⟩:=Int.eq_ofNat_of_zero_le hq.1.2.1;obtain⟨d,rfl⟩:=Int.eq_ofNat_of_zero_le (show 0<=d by omega);exact M8 a b c d (by omega) (by omega) (by omega) (by omega)
theorem QW(l:List Qp)(hP:SE l):aa Tryz.prog G 148 [M9 l] (.sb true):=by
 have l2:=hP.l2;have l3:=hP.l3;refine aa.ah al Tryz.func148 rfl rfl _ rfl ?_;(conv=>whnf);repeat' ((first|(exfalso;omega)|refine st ?_|(refine⟨fun h=>?_,fun h=>?_⟩<;>try simp only[ae] at h)|refine wf ?_|refine az ?_|refine nn ?_|fail)<;>conv=>whnf)
 refine ak (fun i:Nat=>i<=l.length) (fun i=>[(16,.int .i64 (i:Int)),(4,.af),(3,.af)]) (fun i=>[]) (fun i=>l.length-i) 0 (Nat.zero_le _) ?_ ?_
 ·conv=>whnf
  repeat (first|exact fa|((first|refine fb ?_|(refine And.intro ?_ ?_;rotate_left));conv=>whnf))
 ·intro i hi;have hi:i<=l.length:=hi;rcases Nat.lt_or_ge i l.length with cy|cy
  ·have h1:=Ex (G:=G) (l.getD i default).1 (l.getD i default).2;rw[decide_eq_true (hP.ok i cy).1] at h1;rcases Nat.eq_zero_or_pos i with rfl|hp
   ·(conv=>whnf);repeat' ((first|(exfalso;omega)|(exact Bool.noConfusion h)|refine st ?_|(refine⟨fun h=>?_,fun h=>?_⟩<;>try simp only[ae] at h)|(refine .inl ?_;(conv=>whnf);refine⟨_,h1,?_⟩)|refine wf ?_|refine az ?_|refine nn ?_|fail)<;>conv=>whnf)
    refine⟨1,cy,(by show l.length-1<l.length-0;omega),?_⟩;exact ff
   ·have h2:=JK (G:=G) _ _ (hP.ok (i-1) (by omega)) (hP.ok i cy);rw[decide_eq_false (hP.up i hp cy)] at h2;have ei:((i:Int)-1).toNat=i-1:=by omega
    rw[<-ei] at h2;(conv=>whnf);repeat' ((first|(exfalso;omega)|(exact Bool.noConfusion h)|refine st ?_|(refine⟨fun h=>?_,fun h=>?_⟩<;>try simp only[ae] at h)|(refine .inl ?_;(conv=>whnf);(first|refine⟨_,h1,?_⟩|refine⟨_,h2,?_⟩))|refine wf ?_|refine az ?_|refine nn ?_|fail)<;>conv=>whnf)
    refine⟨i+1,cy,(by show l.length-(i+1)<l.length-i;omega),?_⟩;exact ff
  ·have e:i=l.length:=by omega
   subst e;have hf:=hP.fst;have hl:=hP.Za;have ei:((l.length:Int)-1).toNat=l.length-1:=by omega
   (conv=>whnf);repeat' ((first|(exfalso;omega)|refine st ?_|(refine⟨fun h=>?_,fun h=>?_⟩<;>try simp only[ae] at h)|refine wf ?_|refine az ?_|refine nn ?_|fail)<;>conv=>whnf)
   ·rw[ei,hl];exact beq_self_eq_true _
   ·exact absurd hf h
/-- The pieces' weights. -/
def gR(w:Int)(l:List Qp):List Int:=(List.range (l.length-1)).map fun i=>tV w (l.getD (i+1) default).1 (l.getD (i+1) default).2-tV w (l.getD i default).1 (l.getD i default).2
theorem lj(w:Int)(l:List Qp):(gR w l).length=l.length-1:=by simp[gR]
theorem Cz(w:Int)(l:List Qp){i:Nat}(h:i<l.length-1):(gR w l).getD i 0=tV w (l.getD (i+1) default).1 (l.getD (i+1) default).2-tV w (l.getD i default).1 (l.getD i default).2:=by
 unfold gR;rw[List.getD_eq_getElem?_getD,List.getElem?_map,List.getElem?_range h];rfl
def iR(l:List Int):Nat->List A:=fun i=>[.int .i64 (l.getD i 0)]
theorem M'(w:Int)(l:List Qp)(i:Nat)(h:i<l.length-1)(r:Nat->List A)(hr:r 0=[.int .i64 (tV w (l.getD (i+1) default).1 (l.getD (i+1) default).2-tV w (l.getD i default).1 (l.getD i default).2)])(j:Nat)(hj:j<i+1):
  bM i (iR (gR w l)) r j=iR (gR w l) j:=by
 unfold bM;split
 ·rfl
 ·rename_i q;have q:¬j<i:=fun h'=>by rw[show Nat.blt j i=true from Nat.ble_eq_true_of_le h'] at q;cases q
  have e:j=i:=by omega
  subst e;rw[Nat.sub_self,hr];unfold iR;rw[Cz w l h]
theorem JL(w:Int)(l:List Qp)(hw:0<=w/\w<=2147483648)(hP:SE l):aa Tryz.prog G 97 [.int .i64 w,M9 l] (.tup [oz (gR w l),.int .i64 0]):=by
 have l2:=hP.l2;have l3:=hP.l3;have h1:=nP (G:=G) w;rw[decide_eq_true hw] at h1;have h2:=QW (G:=G) l hP;have h0:tV w (l.getD 0 default).1 (l.getD 0 default).2=0:=by rw[hP.fst];unfold tV;simp
 refine aa.ah al Tryz.func97 rfl rfl _ rfl ?_;(conv=>whnf);repeat' ((first|(exfalso;omega)|(exact Bool.noConfusion h)|refine st ?_|(refine⟨fun h=>?_,fun h=>?_⟩<;>try simp only[ae] at h)|(refine .inl ?_;(conv=>whnf);(first|refine⟨_,h1,?_⟩|refine⟨_,h2,?_⟩))|refine wf ?_|refine az ?_|refine nn ?_|fail)<;>conv=>whnf)
 refine iG 6 3 1 rfl ?_;(conv=>whnf);refine ak (fun i:Nat=>i<=l.length-1) (fun i=>[(23,.int .i64 (i:Int)),(6,.own 0),(7,.int .i64 (tV w (l.getD i default).1 (l.getD i default).2)),(9,.af),(10,.af),(11,.af)]) (fun i=>[.row 3 1 i (iR (gR w l))]) (fun i=>l.length-1-i) 0 (Nat.zero_le _) ?_ ?_
 ·rw[h0];(conv=>whnf)
  repeat (first|exact fa|((first|refine fb ?_|(refine And.intro ?_ ?_;rotate_left));conv=>whnf))
 ·intro i hi;have hi:i<=l.length-1:=hi;rcases Nat.lt_or_ge i (l.length-1) with cy|cy
  ·have hk:=hP.ok (i+1) (by omega);have h3:=QV (G:=G) w _ _ hw hk.1 hk.2;have hk0:=hP.ok i (by omega);have b1:=tW hk.1 hw.1;have b0:=tW hk0.1 hw.1;have dC:=M' w l i cy;generalize hX1:tV w (l.getD (i+1) default).1 (l.getD (i+1) default).2=X1 at *;generalize tV w (l.getD i default).1 (l.getD i default).2=X0 at *;have e1:Int.toNat 1+(i:Int).toNat=i+1:=by rw[Int.toNat_natCast,Nat.add_comm];rfl
   rw[<-e1] at h3;(conv=>whnf);repeat' ((first|(exfalso;omega)|refine st ?_|(refine⟨fun h=>?_,fun h=>?_⟩<;>try simp only[ae] at h)|(refine .inl ?_;(conv=>whnf);refine⟨_,h3,?_⟩)|refine wf ?_|refine az ?_|refine nn ?_|fail)<;>conv=>whnf)
   refine⟨i+1,(by show i+1<=l.length-1;omega),(by show l.length-1-(i+1)<l.length-1-i;omega),?_⟩;(conv=>whnf)
   repeat (first|exact fa|((first|refine fb ?_|(refine And.intro ?_ ?_;rotate_left));conv=>whnf))
   ·exact Or.inl fun j hj=>dC _ rfl j hj
   ·exact hX1.symm
  ·have e:i=l.length-1:=by omega
   subst e;have SF:=lj w l;unfold oz;rw[SF];(conv=>whnf);repeat' ((first|(exfalso;omega)|refine st ?_|(refine⟨fun h=>?_,fun h=>?_⟩<;>try simp only[ae] at h)|refine wf ?_|refine az ?_|refine nn ?_|fail)<;>conv=>whnf)
   exact⟨Or.inl fun _ _=>rfl,rfl⟩
end Go.Proofs.YtijddijloelacaaGreat
namespace Go.Proofs.YtijddijloelacaaGreat
open Go.Proofs.YtijddijloelacaaGreat.Am Go.Sort Go.Proofs Go.Lib
variable [Inhabited cc]
variable {G:aG}
def nW(w:W8):Nat:=w.a+18446744073709551616*(w.b+18446744073709551616*(w.c+18446744073709551616*(w.d+18446744073709551616*(w.e+18446744073709551616*(w.f+18446744073709551616*(w.g+18446744073709551616*w.h))))))
theorem JM{v:Nat}(h:v<65536 ^ 32):nW (w8 (wW v))=v:=by
 have h1:=fh h;have hw:=cx v;unfold wv dW at h1;rw[cF _ _ (hw 0),cF _ _ (hw 1),cF _ _ (hw 2),cF _ _ (hw 3),cF _ _ (hw 4),cF _ _ (hw 5),cF _ _ (hw 6),tE (hw 7)] at h1;exact h1
def nr(c:Cu):RS:=⟨c.1.p,c.1.q,nW c.1.X,nW c.1.Y,nW c.1.W⟩
theorem QX{s:Sg}(hL:bJ s){n d:Int}(hd:d<=9223372036854775807):eC (nr (np s n d))/\iS (nr (np s n d))=zM (np s n d).1:=by
 obtain⟨l1,l2,l3,l4⟩:=jN n d hd;obtain⟨⟨ax,ay⟩,⟨bx,HR⟩,_⟩:=hL;have b1:=oL ax bx ⟨l1,l2⟩ l4;have b2:=oL ay HR ⟨l1,l2⟩ l4
 have hN:=zz b1 b2 (show 0<(aW n d).toNat by omega) (by omega);have Jv:(2:Nat) ^ 119<65536 ^ 32:=by decide
 have TK:(18446744073709551616:Nat)<65536 ^ 32:=by decide
 rw[dF hd] at *;have VD:nD (qz (xS s (b9 n d) (aW n d)) (gg (xS s (b9 n d) (aW n d)) (yS s (b9 n d) (aW n d)) (aW n d).toNat)) (qz (yS s (b9 n d) (aW n d)) (gg (xS s (b9 n d) (aW n d)) (yS s (b9 n d) (aW n d)) (aW n d).toNat)) ((aW n d).toNat/gg (xS s (b9 n d) (aW n d)) (yS s (b9 n d) (aW n d)) (aW n d).toNat):=hN
 have e:nr (np s n d)=⟨decide (qz (xS s (b9 n d) (aW n d)) (gg (xS s (b9 n d) (aW n d)) (yS s (b9 n d) (aW n d)) (aW n d).toNat)<0),decide (qz (yS s (b9 n d) (aW n d)) (gg (xS s (b9 n d) (aW n d)) (yS s (b9 n d) (aW n d)) (aW n d).toNat)<0),(qz (xS s (b9 n d) (aW n d)) (gg (xS s (b9 n d) (aW n d)) (yS s (b9 n d) (aW n d)) (aW n d).toNat)).natAbs,(qz (yS s (b9 n d) (aW n d)) (gg (xS s (b9 n d) (aW n d)) (yS s (b9 n d) (aW n d)) (aW n d).toNat)).natAbs,(aW n d).toNat/gg (xS s (b9 n d) (aW n d)) (yS s (b9 n d) (aW n d)) (aW n d).toNat⟩:=by
  unfold nr;rw[dF hd];unfold yy T6;simp only;rw[JM (Nat.lt_trans VD.2.1 Jv),JM (Nat.lt_trans VD.2.2.1 Jv),JM (Nat.lt_trans VD.2.2.2.2 TK)]
 rw[e];refine⟨?_,?_⟩
 ·obtain⟨n1,n2,n3,n4,n5⟩:=VD;refine⟨⟨n2,n3,n5⟩,n4,n1,fun h=>?_,fun h=>?_⟩
  ·have:=of_decide_eq_true h;simp only;omega
  ·have:=of_decide_eq_true h;simp only;omega
 ·unfold yy T6 iS fQ zM w8;rfl
theorem CA{s:Sg}(hL:bJ s){c:Cu}(h:zT s c):eC (nr c)/\iS (nr c)=zM c.1:=by
 obtain⟨n,d,hd,rfl⟩:=h;exact QX hL hd
theorem Na{s:Sg}(hL:bJ s){a b:Cu}(ha:zT s a)(hb:zT s b)(h:nr a=nr b):a=b:=by
 refine Gk hL ha hb ?_;rw[<-(CA hL ha).2,<-(CA hL hb).2,h]
end Go.Proofs.YtijddijloelacaaGreat
namespace Go.Proofs.YtijddijloelacaaGreat
open Go.Proofs.YtijddijloelacaaGreat.Am Go.Sort Go.Proofs Go.Lib
variable [Inhabited cc]
theorem QY{a b:Pt}:(a.x=b.x/\a.y=b.y)↔a=b:=by
 obtain⟨ax,ay⟩:=a;obtain⟨bx,HR⟩:=b;simp
def oU(c:Cu):Int×Int:=(c.1.n,c.1.d)
theorem JN{s:Sg}{n d:Int}(hd:d<=9223372036854775807):oU (np s n d)=(b9 n d,aW n d):=by
 unfold oU;rw[dF hd];rfl
def QZ(a b:Int×Int):Prop:=a.1.toNat*b.2.toNat<b.1.toNat*a.2.toNat
theorem Gr{L:List Cu}(h:L.Pairwise jP):(L.map oU).Pairwise QZ:=by
 rw[List.pairwise_map];exact h.imp fun h=>h
end Go.Proofs.YtijddijloelacaaGreat
namespace Go.Proofs.YtijddijloelacaaGreat
open Go.Proofs.YtijddijloelacaaGreat.Am Go.Sort Go.Proofs Go.Lib
variable [Inhabited cc]
variable {G:aG}
theorem Nb(l:List Cu)(k:Nat)(h:k<l.length)(r:Nat->List A)(hr:r 0=[.int .i64 (l.getD k default).1.n,.int .i64 (l.getD k default).1.d])(j:Nat)(hj:j<k+1):bM k (Ue (l.map oU)) r j=Ue (l.map oU) j:=by
 unfold bM;split
 ·rfl
 ·rename_i q;have q:¬j<k:=fun h'=>by rw[show Nat.blt j k=true from Nat.ble_eq_true_of_le h'] at q;cases q
  have e:j=k:=by omega
  subst e;rw[Nat.sub_self,hr];unfold Ue VC oU;rw[List.getD_eq_getElem?_getD,List.getD_eq_getElem?_getD,List.getElem?_map,List.getElem?_eq_getElem h];rfl
theorem JO(l:List Cu)(hl:l.length<=1000000):aa Tryz.prog G 98 [tO l] (M9 (l.map oU)):=by
 have hm:(l.map oU).length=l.length:=by simp
 refine aa.ah al Tryz.func98 rfl rfl _ rfl ?_;(conv=>whnf);repeat' ((first|refine st ?_|(refine⟨fun h=>?_,fun h=>?_⟩<;>try simp only[ae] at h)|refine wf ?_|refine az ?_|refine nn ?_|fail)<;>conv=>whnf)
 refine iG 3 76 2 rfl ?_;(conv=>whnf);refine ak (fun i:Nat=>i<=l.length) (fun i=>[(8,.int .i64 (i:Int)),(3,.own 0),(5,.af)]) (fun i=>[.row 76 2 i (Ue (l.map oU))]) (fun i=>l.length-i) 0 (Nat.zero_le _) ?_ ?_
 ·conv=>whnf
  repeat (first|exact fa|((first|refine fb ?_|(refine And.intro ?_ ?_;rotate_left));conv=>whnf))
 ·intro i hi;have hi:i<=l.length:=hi;rcases Nat.lt_or_ge i l.length with cy|cy
  ·have dC:=Nb l i cy;(conv=>whnf);repeat' ((first|(exfalso;omega)|refine st ?_|(refine⟨fun h=>?_,fun h=>?_⟩<;>try simp only[ae] at h)|refine wf ?_|refine az ?_|refine nn ?_|fail)<;>conv=>whnf)
   refine⟨i+1,cy,(by show l.length-(i+1)<l.length-i;omega),?_⟩;(conv=>whnf)
   repeat (first|exact fa|((first|refine fb ?_|(refine And.intro ?_ ?_;rotate_left));conv=>whnf))
   all_goals first|exact Or.inl fun j hj=>dC _ rfl j hj
  ·have e:i=l.length:=by omega
   subst e;unfold M9;rw[hm];(conv=>whnf);repeat' ((first|(exfalso;omega)|refine st ?_|(refine⟨fun h=>?_,fun h=>?_⟩<;>try simp only[ae] at h)|refine wf ?_|refine az ?_|refine nn ?_|fail)<;>conv=>whnf)
   exact Or.inl fun _ _=>rfl
/-- All spots of some strips' cuts, and of some of the next one. -/
def nF(F:Nat->List Cu)(i:Nat):List RS:=(List.range i).flatMap fun j=>(F j).map nr
theorem Af(F:Nat->List Cu)(i:Nat):nF F (i+1)=nF F i++(F i).map nr:=by simp[nF,List.range_succ,List.flatMap_append]
theorem tX(F:Nat->List Cu)(B:Nat):∀i,(∀j,j<i->(F j).length<=B)->(nF F i).length<=B*i
 | 0,_=>by simp[nF]
 | i+1,h=>by
  rw[Af,List.length_append,List.length_map];have:=tX F B i fun j hj=>h j (by omega);have:=h i (by omega);rw[Nat.mul_succ];omega
/-- A spot as a key. -/
def xo(r:RS):List KC:=[.bool r.p,.int (wW r.x 0:Nat),.int (wW r.x 1:Nat),.int (wW r.x 2:Nat),.int (wW r.x 3:Nat),.int (wW r.x 4:Nat),.int (wW r.x 5:Nat),.int (wW r.x 6:Nat),.int (wW r.x 7:Nat),.bool r.q,.int (wW r.y 0:Nat),.int (wW r.y 1:Nat),.int (wW r.y 2:Nat),.int (wW r.y 3:Nat),.int (wW r.y 4:Nat),.int (wW r.y 5:Nat),.int (wW r.y 6:Nat),.int (wW r.y 7:Nat),.int (wW r.w 0:Nat),.int (wW r.w 1:Nat),.int (wW r.w 2:Nat),.int (wW r.w 3:Nat),.int (wW r.w 4:Nat),.int (wW r.w 5:Nat),.int (wW r.w 6:Nat),.int (wW r.w 7:Nat)]
def SG:List KS:=[.bool,.int .u64,.int .u64,.int .u64,.int .u64,.int .u64,.int .u64,.int .u64,.int .u64,.bool,.int .u64,.int .u64,.int .u64,.int .u64,.int .u64,.int .u64,.int .u64,.int .u64,.int .u64,.int .u64,.int .u64,.int .u64,.int .u64,.int .u64,.int .u64,.int .u64]
def rZ(L:List RS)(k:List KC):Bool:=decide (k∈L.map xo)
def xp(L:List RS)(k:List KC):A:=.int .i64 ((L.map xo).idxOf k:Nat)
theorem vP(l:List RS)(h:∀r∈l,eC r){B:Nat}(hl:l.length<=B):(kZ (dm (gu l h))).length<=B:=by
 unfold kZ;rw[List.length_map];have:=tM (gu l h) (gu l h).length (Nat.le_refl _);rw[List.take_length,zI] at this;omega
theorem xq{a b:Nat}(ha:a<65536 ^ 32)(hb:b<65536 ^ 32)(h:∀k,k<8->wW a k=wW b k):a=b:=xl ha hb (by
 unfold w8;rw[h 0 (by omega),h 1 (by omega),h 2 (by omega),h 3 (by omega),h 4 (by omega),h 5 (by omega),h 6 (by omega),h 7 (by omega)])
theorem Ey{r s:RS}(hr:Rk r)(hs:Rk s)(h:xo r=xo s):r=s:=by
 obtain⟨p,q,x,y,w⟩:=r;obtain⟨p',q',x',y',w'⟩:=s;unfold xo at h;simp only[List.cons.injEq,KC.bool.injEq,KC.int.injEq,Int.natCast_inj,and_true] at h;obtain⟨h1,a0,a1,a2,a3,a4,a5,a6,a7,h2,b0,b1,b2,b3,b4,b5,b6,b7,c0,c1,c2,c3,c4,c5,c6,c7⟩:=h;have ex:=xq hr.1 hs.1 (fun k hk=>by rcases (show k=0\/k=1\/k=2\/k=3\/k=4\/k=5\/k=6\/k=7 by omega) with rfl|rfl|rfl|rfl|rfl|rfl|rfl|rfl<;>assumption);have ey:=xq hr.2.1 hs.2.1 (fun k hk=>by rcases (show k=0\/k=1\/k=2\/k=3\/k=4\/k=5\/k=6\/k=7 by omega) with rfl|rfl|rfl|rfl|rfl|rfl|rfl|rfl<;>assumption);have ew:=xq hr.2.2 hs.2.2 (fun k hk=>by rcases (show k=0\/k=1\/k=2\/k=3\/k=4\/k=5\/k=6\/k=7 by omega) with rfl|rfl|rfl|rfl|rfl|rfl|rfl|rfl<;>assumption);simp only at ex ey ew;rw[h1,h2,ex,ey,ew]
theorem Ag(l:List RS)(h:∀r∈l,eC r):((kZ (dm (gu l h))).map xo).Nodup:=by
 have hp:=(fE (gu l h) [] List.Pairwise.nil).1;unfold kZ;rw[List.map_map,List.nodup_iff_pairwise_ne,List.pairwise_map];refine List.Pairwise.imp ?_ hp;intro a b yw e;have:=Ey a.rk b.rk e;have:a=b:=Subtype.ext this;subst this;exact xe a yw
theorem Q0(N:List RS)(k:Nat)(h:k<N.length)(key:List KC):nQ (rZ (N.take k)) (xo (N.getD k default)) true key=rZ (N.take (k+1)) key:=by
 have ht:(N.take (k+1)).map xo=(N.take k).map xo++[xo (N.getD k default)]:=by
  rw[List.take_add_one,List.getElem?_eq_getElem h,List.getD_eq_getElem?_getD,List.getElem?_eq_getElem h,List.map_append];rfl
 unfold nQ rZ;rw[ht];split
 ·rename_i e;subst e;exact(decide_eq_true (List.mem_append_right _ (List.mem_singleton.2 rfl))).symm
 ·rename_i e;rw[decide_eq_decide,List.mem_append,List.mem_singleton];exact⟨.inl,fun q=>q.resolve_right e⟩
theorem CB{L:List (List KC)}(hn:L.Nodup){k:Nat}(h:k<L.length):L.idxOf L[k]=k:=by
 exact hn.idxOf_getElem k h
theorem Q1{N:List RS}(hn:(N.map xo).Nodup)(k:Nat)(h:k<N.length)(key:List KC):qa (xp N) (xo (N.getD k default)) (.int .i64 (k:Int)) key=xp N key:=by
 unfold qa;split
 ·rename_i e;subst e;unfold xp;have:=CB hn (k:=k) (by simpa using h);rw[List.getElem_map] at this;rw[List.getD_eq_getElem?_getD,List.getElem?_eq_getElem h];show _=A.int .i64 (((N.map xo).idxOf (xo N[k]):Nat):Int);rw[this]
 ·rfl
theorem Nc(dA:(default:cc).ns)(n:Nat)(F:Nat->List Cu)(B:Nat)(hB:∀i,i<n->(F i).length<=B)(ox:B*n<=10000)(hn:n<=10000)(hF:∀i,i<n->∀c∈F i,iS (nr c)=zM c.1)(hM:∀r∈nF F n,eC r):
  aa Tryz.prog G 46 [pY n F] (.tup [dX (kZ (dm (gu (nF F n) hM))),.mv true SG (rZ (kZ (dm (gu (nF F n) hM)))) (xp (kZ (dm (gu (nF F n) hM))))]):=by
 have hs:=QE (G:=G) dA (nF F n) (Nat.le_trans (tX F B n hB) ox) hM;have Nd:(kZ (dm (gu (nF F n) hM))).length<=10000:=vP (nF F n) hM (Nat.le_trans (tX F B n hB) ox);have hNn:((kZ (dm (gu (nF F n) hM))).map xo).Nodup:=Ag (nF F n) hM;generalize kZ (dm (gu (nF F n) hM))=N at *;refine aa.ah al Tryz.func46 rfl rfl _ rfl ?_;(conv=>whnf);repeat' ((first|refine st ?_|(refine⟨fun h=>?_,fun h=>?_⟩<;>try simp only[ae] at h)|refine wf ?_|refine az ?_|refine nn ?_|fail)<;>conv=>whnf)
 refine iG 4 57 26 rfl ?_;(conv=>whnf);refine ak (fun i:Nat=>i<=n) (fun i=>[(16,.int .i64 (i:Int)),(4,.own 0),(6,.af),(8,.af)]) (fun i=>[.row 57 26 (nF F i).length (fun j=>iS ((nF F i).getD j default))]) (fun i=>n-i) 0 (Nat.zero_le _) ?_ ?_
 ·conv=>whnf
  repeat (first|exact fa|((first|refine fb ?_|(refine And.intro ?_ ?_;rotate_left));conv=>whnf))
 ·intro i hi;have hi:i<=n:=hi;rcases Nat.lt_or_ge i n with cy|cy
  ·(conv=>whnf);repeat' ((first|(exfalso;omega)|refine st ?_|(refine⟨fun h=>?_,fun h=>?_⟩<;>try simp only[ae] at h)|refine wf ?_|refine az ?_|refine nn ?_|fail)<;>conv=>whnf)
   refine ak (fun k:Nat=>k<=(F i).length) (fun k=>[(22,.int .i64 (k:Int)),(4,.own 0),(8,.af)]) (fun k=>[.row 57 26 (nF F i++((F i).take k).map nr).length (fun j=>iS ((nF F i++((F i).take k).map nr).getD j default))]) (fun k=>(F i).length-k) 0 (Nat.zero_le _) ?_ ?_
   ·have ea:nF F i++((F i).take 0).map nr=nF F i:=by simp
    rw[ea];(conv=>whnf)
    repeat (first|exact fa|((first|refine fb ?_|(refine And.intro ?_ ?_;rotate_left));conv=>whnf))
   ·intro k hk;have hk:k<=(F i).length:=hk;have hFl:(F i).length<=10000:=Nat.le_trans (hB i cy) (Nat.le_trans (Nat.le_mul_of_pos_right B (by omega)) ox);have e0:(i:Int).toNat=i:=Int.toNat_natCast i
    have hlen:(nF F i++((F i).take k).map nr).length<=10000:=by
     rw[List.length_append,List.length_map,List.length_take];have h1:=tX F B i fun j hj=>hB j (by omega);have h2:=hB i cy;have h3:B*(i+1)<=B*n:=Nat.mul_le_mul (Nat.le_refl _) cy;rw[Nat.mul_succ] at h3;omega
    rcases Nat.lt_or_ge k (F i).length with jY|jY
    ·have JI:(k:Int)<(F (i:Int).toNat).length:=by rw[e0];omega
     have hc:=hF i cy _ (List.getElem_mem jY);have hx:(F i).getD k default=(F i)[k]:=gw jY;rw[<-hx] at hc;have et:((F i).take (k+1)).map nr=((F i).take k).map nr++[nr ((F i).getD k default)]:=by rw[List.take_add_one,List.getElem?_eq_getElem jY,hx,List.map_append];rfl
     (conv=>whnf);repeat' ((first|(exfalso;omega)|refine st ?_|(refine⟨fun h=>?_,fun h=>?_⟩<;>try simp only[ae] at h)|refine wf ?_|refine az ?_|refine nn ?_|fail)<;>conv=>whnf)
     refine⟨k+1,jY,(by show(F i).length-(k+1)<(F i).length-k;omega),?_⟩;(conv=>whnf)
     repeat (first|exact fa|((first|refine fb ?_|(refine And.intro ?_ ?_;rotate_left));conv=>whnf))
     ·exact Or.inl fun j hj=>by rw[et,<-List.append_assoc];exact j9 iS _ (nr ((F i).getD k default)) _ rfl _ hc.symm j hj
     ·rw[et];simp only[List.length_append,List.length_map,List.length_cons,List.length_nil];omega
    ·have e:k=(F i).length:=by omega
     have JI:¬(k:Int)<(F (i:Int).toNat).length:=by rw[e0];omega
     have et:nF F i++((F i).take k).map nr=nF F (i+1):=by rw[Af,e,List.take_length]
     rw[et];(conv=>whnf);repeat' ((first|(exfalso;omega)|refine st ?_|(refine⟨fun h=>?_,fun h=>?_⟩<;>try simp only[ae] at h)|refine wf ?_|refine az ?_|refine nn ?_|fail)<;>conv=>whnf)
     refine⟨i+1,cy,(by show n-(i+1)<n-i;omega),?_⟩;(conv=>whnf)
     repeat (first|exact fa|((first|refine fb ?_|(refine And.intro ?_ ?_;rotate_left));conv=>whnf))
  ·have e:i=n:=by omega
   subst e;have Nd:N.length<=10000:=Nd;unfold dX at hs;(conv=>whnf);repeat' ((first|(exfalso;omega)|refine st ?_|(refine⟨fun h=>?_,fun h=>?_⟩<;>try simp only[ae] at h)|(refine .inr (.inr (.inl ?_));(conv=>whnf);refine⟨_,hs,?_⟩)|refine wf ?_|refine az ?_|refine nn ?_|fail)<;>conv=>whnf)
   refine ak (fun i:Nat=>i<=N.length) (fun i=>[(41,.int .i64 (i:Int)),(12,.af),(13,.af)]) (fun i=>[.dead,.eP true SG (rZ (N.take i)) (xp N)]) (fun i=>N.length-i) 0 (Nat.zero_le _) ?_ ?_
   ·conv=>whnf
    repeat (first|exact fa|((first|refine fb ?_|(refine And.intro ?_ ?_;rotate_left));conv=>whnf))
    exact fun _ h=>Bool.noConfusion h
   ·intro k hk;have hk:k<=N.length:=hk;rcases Nat.lt_or_ge k N.length with jY|jY
    ·(conv=>whnf);repeat' ((first|(exfalso;omega)|refine st ?_|(refine⟨fun h=>?_,fun h=>?_⟩<;>try simp only[ae] at h)|refine wf ?_|refine az ?_|refine nn ?_|fail)<;>conv=>whnf)
     refine⟨k+1,jY,(by show N.length-(k+1)<N.length-k;omega),?_⟩;(conv=>whnf)
     repeat (first|exact fa|((first|refine fb ?_|(refine And.intro ?_ ?_;rotate_left));conv=>whnf))
     ·exact fun key _=>Q1 hNn k jY key
     ·exact fun key=>Q0 N k jY key
    ·have e:k=N.length:=by omega
     subst e;(conv=>whnf);repeat' ((first|(exfalso;omega)|((refine VE (id:=18) 2 [1] rfl ?_;(conv=>whnf);refine lh (id:=18) 2 [] rfl rfl ?_;conv=>whnf))|refine st ?_|(refine⟨fun h=>?_,fun h=>?_⟩<;>try simp only[ae] at h)|refine wf ?_|refine az ?_|refine nn ?_|fail)<;>conv=>whnf)
     rw[List.take_length];exact ff
end Go.Proofs.YtijddijloelacaaGreat

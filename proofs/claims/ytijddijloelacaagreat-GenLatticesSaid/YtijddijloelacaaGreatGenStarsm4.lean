/-
  THE ENGINE, part 4: an abstract machine of symbolic values, each step proved sound.
-/
import Derived.Test.YtijddijloelacaaGreatGenStars1
import Derived.Test.YtijddijloelacaaGreatGenStarsm3
import Derived.Deep.Slices
set_option linter.unusedSimpArgs false
set_option linter.unusedSectionVars false
set_option linter.unusedVariables false
namespace Go.Proofs.YtijddijloelacaaGreat.Am
variable [Inhabited bY]
open Go.RowKit (Below)
open Go.Proofs Go.Shelf Go.Sort Go.Lib
def nR:A->Prop
 | .int _ _=>True
 | .sb _=>True
 | _=>False
def Hp:A->Value
 | .int k n=>.int k n
 | .sb b=>.bool b
 | _=>undef
theorem vX{a:A}(h:nR a):(Hp a).oneCell'=true:=by cases a<;>first|rfl|exact absurd h id
theorem A4{im:Nat->Prop}{w:World}{a:A}(h:nR a):aw im w a (Hp a):=by
 cases a<;>first|exact .int _ _|exact .sb _|exact absurd h id
theorem Hq{im:Nat->Prop}{w:World}{a:A}{v:Value}(h:nR a)(r:aw im w a v):v=Hp a:=by
 cases r<;>first|rfl|exact absurd h id
section
variable {P:Program} {ρ : Go.Shelf.Ren} {G:aG} {α : Type} [Inhabited α]
def cJ(e:α->List A)(l:List α):Nat->List A:=fun i=>e (l.getD i default)
def bj(e:α->List A)(x:α):List Value:=(e x).map Hp
theorem aL.uK(dn:¬(default:bY).ns)(L:SlLaysF0.n6 P ρ)(k:Nat)(k0:0<k)(aE:∀w,(isAgg (ρ.t 24)).run P w=.ok true w)(zE:∀w,(Go.sizeOf (ρ.t 24)).run P w=.ok k w)
  (e:α->List A) (xR:∀x,∀a∈e x,nR a) (hk:∀x,(e x).length=k) (cf:α->α->Int) (hO:SWO (ltOf cf)) (g:FuncId) (oL:List A) (ke:oL.any (cE 4)=false)
  (hc:∀x y,aa P G g ([.agg (e x),.agg (e y)]++oL) (.int .i64 (cf x y)))
  (hfn : ∃ fn cd, P.funcs[ρ.f 6]? = some fn ∧ fn.body = some cd ∧ (fn.name == "runtime.NumGoroutine") = false) (ty : TypeId) (l : List α) (hl : l.length ≤ 1000000) (hne : 0 < l.length) :
  aL P G (ρ.f 6) [.own 1,.fn g oL] [.ghost [.own 1,.ae,.ae],.row ty k l.length (cJ e l)] (.tup []) [.ghost [.own 1,.ae,.ae],.row ty k l.length (cJ e (ee cf l))]:=by
 refine⟨hfn,?_⟩;intro im w vs gs ids hG hs;have uC:vs.length=2:=by have:=hs.len;simpa using this
 obtain⟨v0,v1,rfl⟩:∃v0 v1,vs=[v0,v1]:=by
  match vs,uC with
  | [a,b],_=>exact⟨a,b,rfl⟩
 have r0:Rel ids _ w (.own 1) v0:=hs.bE 0 (by simp) (by simp);have r1:Rel ids _ w (.fn g oL) v1:=hs.bE 1 (by simp) (by simp);have vB:ids.length=2:=by have:=hs.aK;simpa using this
 have xA:=hs.bu 1 (by simp) (by omega);simp only[List.getElem_cons_succ,List.getElem_cons_zero] at xA
 obtain⟨p,cap,bQ,xB,FW,rfl⟩:∃p cap,ids[1]?=some (.lv p)/\(p.n<=cap/\cap<=maxLen)/\cap*p.sz=p.k/\v0=.slice (some ⟨p.ao,0,none⟩) p.n cap:=by
  rcases hs.fk r0 (by simp) with⟨h1,_⟩|h
  ·rw[List.getElem?_eq_getElem (by omega)] at h1;rw[Option.some.inj h1] at xA;have:l.length=0:=xA;omega
  ·exact h
 have vC:ids[1]'(by omega)=.lv p:=by rw[List.getElem?_eq_getElem (by omega)] at bQ;exact Option.some.inj bQ
 rw[vC] at xA;obtain⟨g1,g2,cur,g3,g4,g5,g6,g7⟩:=xA;obtain⟨us,rfl,Kk,NC⟩:=r1.fM;rw[g2];have MM:=hs.ar p (List.mem_of_getElem? bQ) p.ao (.inl rfl);have QM:fN ids p.ao:=⟨p,List.mem_of_getElem? bQ,.inl rfl⟩;have Ce:∀x,(bj e x).length=k:=fun x=>by simp[bj,hk]
 have xC:∀x,∀v∈bj e x,v.oneCell'=true:=fun x v hv=>by
  simp only[bj,List.mem_map] at hv;obtain⟨n,hn,rfl⟩:=hv;exact vX (xR x n hn)
 have vD:∀t,t<l.length*k->cur[t]?=some ((bj e (l.getD (t/k) default)).getD (t%k) undef):=by
  intro t ht;obtain⟨q1,q2,q3⟩:=iE ht rfl rfl;have aI:t<cur.size:=by omega
  have FX:(cJ e l (t/k)).length=k:=g6 _ q1;have:=(g7 (t/k) (t%k) q1 (by rw[FX];exact q2) (by rw[q3];exact aI)).1;simp only[q3] at this;have Tf:t%k<(e (l.getD (t/k) default)).length:=by rw[hk];exact q2
  have e1:(cJ e l (t/k))[t%k]'(by rw[FX];exact q2)=(e (l.getD (t/k) default))[t%k]:=rfl;rw[e1] at this;have hv:cur[t]=Hp ((e (l.getD (t/k) default))[t%k]):=Hq (xR _ _ (List.getElem_mem Tf)) this;rw[Array.getElem?_eq_getElem aI,hv];have FY:t%k<(bj e (l.getD (t/k) default)).length:=by rw[Ce];exact q2
  rw[List.getD_eq_getElem?_getD (l:=bj e (l.getD (t/k) default)),List.getElem?_eq_getElem FY,Option.getD_some];simp only[bj,List.getElem_map]
 have qB:∀i,l.toArray[i]! = l.getD i default:=fun i=>by
  rw[List.getD_eq_getElem?_getD];simp[Array.getElem!_eq_getD,Array.getD_eq_getD_getElem?]
 have hH:HoldsK (bj e) k w p.ao 0 l.toArray:=by
  intro j hj;rw[size_flatK] at hj;have hj:j<l.length*k:=by simpa using hj
  constructor
  ·rw[Nat.zero_add,cell_of_row w p.ao j cur ty (0,0) g3,vD j hj,id,get_flatK _ _ _ _ (by simpa using hj),qB];obtain⟨q1,q2,q3⟩:=iE hj rfl rfl;have:j%k<(bj e (l.getD (j/k) default)).length:=by rw[Ce];exact q2
   rw[List.getD_eq_getElem?_getD (l:=bj e (l.getD (j/k) default)),List.getElem?_eq_getElem this,Option.getD_some,getElem!_pos (bj e (l.getD (j/k) default)) _ this]
  ·unfold World.frozen?;simp only[g3];simp
 have QN:=hG.1
 have rG:∀(m:Nat) (dk:Array α) (os:Array Obj) (b:Nat),b<w.heap.size->b≠p.ao->(sortWorldK (bj e) k w p.ao 0 m dk os).heap[b]?=w.heap[b]?:=by
  intro m dk os b hb QO;unfold sortWorldK;rw[heap_grow_old _ _ (by show b<(putRowK (bj e) k (Go.Sort.ahead w m) p.ao 0 dk).heap.size;rw[size_putRowK];exact hb)];show((Go.Sort.ahead w m).heap.modify p.ao _)[b]?=_;rw[Array.getElem?_modify,if_neg (fun h=>QO h.symm)];rfl
 have ND:CmpLays P g us.toArray (bj e) k cf p.ao 0 l.toArray.size w:=by
  intro m os dk Xb x y;have bM:=size_sortWorldK_c (bj e) k w p.ao 0 m dk os;have:=(hc x y).2 (au ⟨w,im,fN ids,gs⟩ ids w) (sortWorldK (bj e) k w p.ao 0 m dk os) ([.agg (bj e x).toArray,.agg (bj e y).toArray]++us) (fun b hb=>Nat.lt_of_lt_of_le (cw hs hb) bM) ?_ (by simp[Kk]) ?_
  ·refine bg (by simpa using this) ?_;rintro e' w' ⟨v,rfl,hv,hb⟩;cases hv;exact⟨rfl,Cc dn hb⟩
  ·refine G.st w _ QN bM (fun b hb=>rG m dk os b (Nat.lt_of_lt_of_le hb (G.lt _ QN)) ?_);intro e';have:=hG.2 p.ao QM;omega
  ·have FZ:∀(x:α) (bl:Nat->Prop) (W:World),aw bl W (.agg (e x)) (.agg (bj e x).toArray):=by
    intro x bl W;refine .agg _ _ (by simp[bj]) (fun v hv=>xC x v hv) (fun j h h'=>?_);simp only[bj,List.getElem_map];exact A4 (xR x _ (List.getElem_mem _))
   intro j h h';rcases j with _|_|j
   ·exact FZ x _ _
   ·exact FZ y _ _
   ·have hj:j<oL.length:=by simpa using h
    have:=NC j hj (by omega)
    have aU:cE 4 oL[j]=false:=by
     have:=List.any_eq_false.1 ke _ (List.getElem_mem hj);simpa using this
    have:=cm (ids:=ids) 4 _ _ aU this;refine(this.mono (fun _ h=>h) (fun b hb=>rG m dk os b (cw hs hb) ?_));intro e';subst e';rcases hb with hb|⟨_,_,hb⟩
    ·exact hs.oM hb MM.1
    ·exact hb p (List.mem_of_getElem? bQ) (.inl rfl)
 have eg:∀args w,(callFunc g args).run P w=.ok (.enter g args) w:=by
  intro args w;obtain ⟨fn,cd,h1,h2,h3⟩:=(hc default default).1;have h4 : ¬ fn.name = "runtime.NumGoroutine" := by simpa using h3
  simp[callFunc,h1,h2,h4]
 have xD:=AnyQ.slices_SortFunc_eq L k aE zE (bj e) Ce xC cf hO g us.toArray p.ao 0 cap l.toArray w eg ND hH MM.2 (by simp;omega);refine bg (by simpa using xD) ?_;rintro e' w' ⟨rfl,n,os,iA⟩;refine⟨.tuple #[],ids,rfl,?_⟩
 have gZ:(pdq (ltOf cf) l.toArray 0 l.toArray.size (Go.Lib.bitLen l.toArray.size) true true).size=l.length:=by
  have:=gF cf hO l;unfold ee at this;simpa using this
 obtain⟨d',fp⟩:∃d',d'=pdq (ltOf cf) l.toArray 0 l.toArray.size (Go.Lib.bitLen l.toArray.size) true true:=⟨_,rfl⟩
 have NF:∀i,(ee cf l).getD i default=d'[i]!:=by
  intro i;unfold ee;rw[<-fp,List.getD_eq_getElem?_getD];simp[Array.getElem!_eq_getD,Array.getD_eq_getD_getElem?]
 have iA:w'=sortWorldK (bj e) k w p.ao 0 n d' os:=by rw[iA,fp];simp
 rw[<-fp] at gZ;have bM:w.heap.size<=w'.heap.size:=by rw[iA];exact size_sortWorldK_c (bj e) k w p.ao 0 n d' os
 have xE:∀b,b<w.heap.size->b≠p.ao->w'.heap[b]?=w.heap[b]?:=fun b h1 h2=>by rw[iA];exact rG n d' os b h1 h2
 have xF:w'.heap[p.ao]?=some (.cells (putCells id 0 (flatK (bj e) k d') cur) ty (0,0)):=by
  rw[iA];unfold sortWorldK;rw[heap_grow_old _ _ (by show p.ao<(putRowK (bj e) k (Go.Sort.ahead w n) p.ao 0 d').heap.size;rw[size_putRowK];exact MM.2)];show((Go.Sort.ahead w n).heap.modify p.ao _)[p.ao]?=_;rw[Array.getElem?_modify,if_pos rfl];show Option.map _ (w.heap[p.ao]?)=_;rw[g3];rfl
 have eU:∀b,b<w.heap.size->(∀(b':Nat) (q:Id),ids[b']?=some (.lv q)->¬q.has b)->w'.heap[b]?=w.heap[b]?:=fun b h1 h2=>xE b h1 (fun e=>h2 1 p bQ (.inl e))
 have aU:∀q,dH.lv q∈ids->∀x,q.has x->x<w'.heap.size/\(w.heap.size<=x\/∃(b:Nat) (p:Id),ids[b]?=some (.lv p)/\p.has x):=by
  intro q hq x hx;obtain⟨i,hi⟩:=List.getElem?_of_mem hq;exact⟨Nat.lt_of_lt_of_le (hs.ar q hq x hx).2 bM,.inr ⟨i,q,hi,hx⟩⟩
 have NG:en w.drawn w'.drawn:=.of (by rw[iA];exact Nat.le_add_right _ _);obtain⟨dt,dI⟩:=hs.cI (w':=w') (ab:=ids) bM eU aU
 have j7:aF ⟨w,im,fN ids,gs⟩ [.ae,.ae] [.ghost [.own 1,.ae,.ae],.row ty k l.length (cJ e (ee cf l))] ⟨[.slice (some ⟨p.ao,0,none⟩) p.n cap,.func (.func g) #[] us.toArray].toArray,[]⟩ w' ids:=by
  refine hs.ln (xG:=NG) (by rw[iA];rfl) (by rw[iA];rfl) (by rw[iA];rfl) bM eU aU (fun _ h=>h) hs.ah rfl (by simpa using vB) ?_ ?_
  ·intro i h h';rcases i with _|_|i
   ·exact .aH (.ae _)
   ·exact .aH (.ae _)
   ·simp at h;omega
  ·intro b h h';rcases b with _|_|b
   ·have D4:=hs.bu 0 (by simp) (by omega);refine D4.mono dt dI (fun _ _ h _=>h) ?_;intro q hq x hx;rw[hq] at D4;exact D4.elim
   ·simp only[List.getElem_cons_succ,List.getElem_cons_zero,vC];refine⟨g1,g2,_,xF,by simp[putCells,g4],g5,fun i _=>by simp[cJ,hk],?_⟩;intro i j hi hj bW;have Cf:j<k:=by simpa[cJ,hk] using hj
    have aI:i*k+j<l.length*k:=by
     have:=Nat.mul_le_mul_right k (show i+1<=l.length from hi);rw[Nat.add_mul] at this;omega
    have QP:(flatK (bj e) k d').size=l.length*k:=by rw[size_flatK,gZ]
    have hv:(putCells id 0 (flatK (bj e) k d') cur)[i*k+j]=Hp ((e ((ee cf l).getD i default))[j]'(by rw[hk];exact Cf)):=by
     simp only[putCells,Array.getElem_mapIdx,QP];rw[if_pos ⟨Nat.zero_le _,by omega⟩,Nat.sub_zero,id,get_flatK _ _ _ _ (by rw[gZ];exact aI)];have e1:(i*k+j)/k=i:=by rw[Nat.mul_comm,Nat.mul_add_div k0,Nat.div_eq_of_lt Cf];simp
     have e2:(i*k+j)%k=j:=by rw[Nat.mul_comm,Nat.mul_add_mod,Nat.mod_eq_of_lt Cf]
     rw[e1,e2,<-NF];have:j<(bj e ((ee cf l).getD i default)).length:=by rw[Ce];exact Cf
     rw[getElem!_pos (bj e ((ee cf l).getD i default)) j this];simp only[bj,List.getElem_map]
    rw[hv];refine⟨?_,vX (xR _ _ (List.getElem_mem _))⟩;exact A4 (xR _ _ (List.getElem_mem _))
   ·simp at h;omega
 refine⟨rfl,rfl,?_,j7.aK,j7.bu,j7.ah,j7.ar,j7.frame,j7.dL,j7.cz⟩;intro i h h';rcases i with _|i
 ·exact .aH (.tup [] [] rfl (fun _ h=>by simp at h))
 ·simp at h
end
end Go.Proofs.YtijddijloelacaaGreat.Am
namespace Go.Proofs.YtijddijloelacaaGreat.Am
variable [Inhabited bY]
open Go.RowKit (Below)
section
variable {c:Ctx} {s:List A} {m:List aq} {a:Act} {w w':World} {ids ab:dp} {P:Program} {im bl:Nat->Prop} {tt:TT} {G:aG}
theorem aF.NB(hs:aF c s m a w ids)(b:Nat)(x:aq)(hx:∀(h:b<ids.length),aV ids (au c ids w) w x ids[b]):aF c s (m.set b x) a w ids where
 defers:=hs.defers
 len:=hs.len
 bE:=hs.bE
 aK:=by rw[List.length_set];exact hs.aK
 bu:=by
  intro i h h';rw[List.length_set] at h;rw[List.getElem_set];split
  ·rename_i e;subst e;exact hx h'
  ·exact hs.bu i h h'
 ah:=hs.ah
 ar:=hs.ar
 frame:=hs.frame
 dL:=hs.dL
 cz:=hs.cz
/-- A cell of a box that holds a nil slice holds a row of ours that has no place yet. -/
theorem Dj{Q:Exit->List A->List aq->Prop}{code:Code}(b j:Nat)(ty:TypeId)(sz:Nat){rC:TypeId}{cs:List A}(hb:m[b]?=some (.box rC cs))(hj:cs[j]?=some .aR)
  (h:dj m.length fun n=>fl (cs.set j (.own n)) fun dc=>pn m b (.box rC dc) fun m1=>kZ m1 (.row ty sz 0 fun _=>[]) fun _ m'=>WA P G code Q s m'):WA P G code Q s m:=by
 rw[aN,ck,eC,eQ] at h;unfold WA at h ⊢;intro c a w ids hG hs
 have kH:b<m.length:=by
  rcases Nat.lt_or_ge b m.length with h'|h'
  ·exact h'
  ·rw[List.getElem?_eq_none h'] at hb;cases hb
 have J7:=hs.grow (Bw.refl _ w) [.row ty sz 0 fun _=>[]] [.aP] rfl (fun i h1 h2=>by
   have:i=0:=by simp at h1;omega
   subst this;exact rfl) (fun p h=>by simp at h) (fun vs h=>by simp at h) (fun i j p q x h1=>by
   cases i with
   | zero=>simp at h1
   | succ i=>simp at h1)
 have j7:=J7.NB b (.box rC (cs.set j (.own m.length))) (by
  intro eD;have hB:=J7.bu b (by simp;omega) eD
  have e:(m++[aq.row ty sz 0 fun _=>[]])[b]'(by simp;omega)=.box rC cs:=by
   rw[List.getElem_append_left kH];rw[List.getElem?_eq_getElem kH] at hb;exact Option.some.inj hb
  rw[e] at hB;cases hp:(ids++[dH.aP])[b] with
  | dead=>rw[hp] at hB;exact hB
  | av=>rw[hp] at hB;exact hB
  | aP=>rw[hp] at hB;exact hB
  | cz vs=>rw[hp] at hB;exact hB
  | lv p =>
   rw[hp] at hB;obtain⟨vs,g1,g2,g3,g4⟩:=hB;refine⟨vs,g1,g2,by rw[List.length_set];exact g3,fun k hk gn=>?_⟩;rw[List.length_set] at hk;have g5:=g4 k hk gn;rw[List.getElem_set];split
   ·rename_i YT;subst YT
    have ec:cs[j]=.aR:=by
     rw[List.getElem?_eq_getElem hk] at hj;exact Option.some.inj hj
    rw[ec] at g5;refine⟨?_,g5.2⟩;rw[g5.1.df];exact .fH _ (by rw[<-hs.aK];simp)
   ·exact g5)
 have e3:(m++[aq.row ty sz 0 fun _=>[]]).set b (.box rC (cs.set j (.own m.length)))=(m.set b (.box rC (cs.set j (.own m.length))))++[aq.row ty sz 0 fun _=>[]]:=by
  rw[List.set_append_left _ _ kH]
 rw[e3] at j7;exact h c a w _ hG j7
end
section
variable {c:Ctx} {s:List A} {m:List aq} {a:Act} {w w':World} {ids ab:dp} {P:Program} {im bl:Nat->Prop} {tt:TT} {G:aG}
theorem ML{l:List Nat}{b j:Nat}(h:eF l 0 b=some j):l[j]?=some b:=by
 have:=(fE l 0 b j h).2;simpa using this
theorem Qk(π:List Nat)(ids:dp):qj (bP (eF π 0)) ids (π.map fun b=>ids.getD b .dead):=by
 have key:∀b b' p,eF π 0 b=some b'->ids[b]?=some p->(π.map fun b=>ids.getD b .dead)[b']?=some p:=by
  intro b b' p h1 h2;rw[List.getElem?_map,ML h1,Option.map_some,List.getD_eq_getElem?_getD,h2];rfl
 exact⟨fun b b' p h1 h2=>⟨p,key b b' _ h1 h2,rfl⟩,fun b b' p h1 h2 _=>⟨p,key b b' _ h1 h2,gD p⟩,fun b b' p h1 h2=>⟨p,key b b' _ h1 h2,rfl⟩,fun b b' h1 h2=>key b b' _ h1 h2,fun b b' h1 h2=>key b b' _ h1 h2⟩
theorem xp{π:List Nat}{ids:dp}{p:dH}(hp:p≠.dead)(h:p∈π.map fun b=>ids.getD b .dead):p∈ids:=by
 obtain⟨b,_,e⟩:=List.mem_map.1 h;rw[List.getD_eq_getElem?_getD] at e;cases hb:ids[b]? with
 | none=>rw[hb] at e;exact absurd e.symm hp
 | some q=>rw[hb] at e;simp at e;subst e;exact List.mem_of_getElem? hb
theorem aF.YU(hs:aF c s m a w ids)(π:List Nat)(hn:π.Nodup):
  aF c (s.map (ij (bP (eF π 0)) 4)) (π.map fun b=>gE (bP (eF π 0)) 4 (m.getD b .dead)) a w (π.map fun b=>ids.getD b .dead):=by
 have hi:∀b,au c ids w b->au c (π.map fun b=>ids.getD b .dead) w b:=by
  intro b h;rcases h with h|⟨h1,h2,h3⟩
  ·exact .inl h
  ·exact .inr ⟨h1,h2,fun p hp=>h3 p (xp (by simp) hp)⟩
 have ht:=Qk π ids
 have gp:∀(j:Nat) (p:Id),(π.map fun b=>ids.getD b .dead)[j]?=some (.lv p)->∃b,π[j]?=some b/\ids[b]?=some (.lv p):=by
  intro j p h;rw[List.getElem?_map] at h;cases hj:π[j]? with
  | none=>rw[hj] at h;cases h
  | some b =>
   rw[hj,Option.map_some,List.getD_eq_getElem?_getD] at h;cases hb:ids[b]? with
   | none=>rw[hb] at h;simp at h
   | some q=>rw[hb] at h;simp at h;subst h;exact⟨b,rfl,hb⟩
 refine⟨hs.defers,by simp[hs.len],?_,by simp,?_,?_,?_,hs.frame,hs.dL,?_⟩
 ·intro i h h';rw[List.getElem_map];exact dA hi (fun _ _=>rfl) ht 4 _ _ (hs.bE i (by simpa using h) h')
 ·intro j h h';rw[List.getElem_map,List.getElem_map];have hj:j<π.length:=by simpa using h
  by_cases hb:π[j]<m.length
  ·have gj:π[j]<ids.length:=by rw[hs.aK];exact hb
   rw[List.getD_eq_getElem?_getD,List.getElem?_eq_getElem hb,List.getD_eq_getElem?_getD,List.getElem?_eq_getElem gj];exact jT hi (fun _ _=>rfl) ht 4 (fun _ _ _ _=>rfl) (hs.bu _ hb gj)
  ·rw[List.getD_eq_getElem?_getD,List.getElem?_eq_none (by omega),List.getD_eq_getElem?_getD,List.getElem?_eq_none (by rw[hs.aK];omega)];exact rfl
 ·intro j j' p q x h1 h2 h3 h4;obtain⟨b,k1,k2⟩:=gp j p h1;obtain⟨b',k3,k4⟩:=gp j' q h2;have e:=hs.ah b b' p q x k2 k4 h3 h4;subst e;have hj:j<π.length:=(List.getElem?_eq_some_iff.1 k1).1;exact(List.getElem?_inj hj hn).1 (k1.trans k3.symm)
 ·intro p hp x hx;exact hs.ar p (xp (by simp) hp) x hx
 ·intro vs hv;exact hs.cz vs (xp (by simp) hv)
/-- Blocks are named anew: block j is now what was block π[j]; the others are forgotten. -/
theorem Ql{Q:Exit->List A->List aq->Prop}{code:Code}(π:List Nat)(hn:nm π=true)
  (h:fd.pv 4 (s.map (ij (bP (eF π 0)) 4)) fun s'=>pz (π.map fun b=>gE (bP (eF π 0)) 4 (m.getD b .dead)) fun m'=>WA P G code Q s' m'):WA P G code Q s m:=by
 rw[cD,dF] at h;unfold WA at h ⊢;intro c a w ids hG hs;exact h c a w _ hG (hs.YU π (iz hn))
/-- .. ahead of region id, where k blocks stand. -/
theorem mq{Q:Exit->List A->List aq->Prop}{id:Nat}{l:Array Oper}{d:Bool}(k:Nat)(π:List Nat)(_hk:Nat.beq m.length k=true)(hn:nm π=true)
  (h:fd.pv 4 (s.map (ij (bP (eF π 0)) 4)) fun s'=>pz (π.map fun b=>gE (bP (eF π 0)) 4 (m.getD b .dead)) fun m'=>WA P G (.region id l d) Q s' m'):WA P G (.region id l d) Q s m:=Ql π hn h
end
section
variable {c:Ctx} {s:List A} {m:List aq} {a:Act} {w w':World} {ids ab:dp} {P:Program} {im bl:Nat->Prop} {tt:TT} {G:aG}
variable {code:Code} {Q:Exit->List A->List aq->Prop}
variable {ty:TypeId} {agg:Bool} {sh:List KS} {n hi:Nat} {cs:List A} {jb:Nat->Nat} {has:Nat->List KC->Bool} {val:Nat->List KC->A}
/-- A row with some content. -/
theorem ID(b:Nat){sz:Nat}{Φ:(Nat->List A)->Prop}(hb:m.getD b .dead=.bC ty sz n Φ)(h:∀row,Φ row->pn m b (.row ty sz n row) fun m'=>WA P G code Q s m'):WA P G code Q s m:=by
 unfold WA;intro c a w ids hG hs;obtain⟨kH,hm⟩:=getD_some (by simp) hb;have eD:b<ids.length:=by rw[hs.aK];exact kH
 have hB:=hs.bu b kH eD;rw[hm] at hB
 have fin:∀row,Φ row->aV ids (au c ids w) w (.row ty sz n row) ids[b]->code.wp P (post c Q) a w:=by
  intro row hr FT;have h:=h row hr;rw[eC] at h;unfold WA at h;exact h c a w ids hG (hs.NB b _ fun _=>FT)
 cases hp:ids[b] with
 | dead=>rw[hp] at hB;exact hB.elim
 | av=>rw[hp] at hB;exact hB.elim
 | cz vs=>rw[hp] at hB;exact hB.elim
 | aP =>
  rw[hp] at hB;obtain⟨h0,row,hr⟩:=hB;exact fin row hr (by rw[hp];exact h0)
 | lv p =>
  rw[hp] at hB;obtain⟨row,hr,hB⟩:=hB;exact fin row hr (by rw[hp];exact hB)
end
section
variable {c:Ctx} {s:List A} {m:List aq} {a:Act} {w w':World} {ids ab:dp} {P:Program} {im bl:Nat->Prop} {tt:TT} {G:aG}
variable {next:Act->World->Prop} {Q:Exit->Act->World->Prop} {o:Oper}
end
section
variable {s:List A} {m:List aq} {P:Program} {tt:TT} {G:aG} {Q:Exit->List A->List aq->Prop}
end
end Go.Proofs.YtijddijloelacaaGreat.Am
namespace Go.Proofs.YtijddijloelacaaGreat.Am
variable [Inhabited bY]
section
variable {P:Program} {G:aG} {s:List A} {m:List aq}
variable {ty:TypeId} {agg:Bool} {sh:List KS} {n hi:Nat} {cs:List A} {jb:Nat->Nat} {has:Nat->List KC->Bool} {val:Nat->List KC->A}
end
end Go.Proofs.YtijddijloelacaaGreat.Am
namespace Go.Proofs.YtijddijloelacaaGreat.Am
variable [Inhabited bY]
open Go.RowKit Go.ChangeShapes
/-- Each value of a type, read by the claim's reader, is one of ours. -/
def xy(P:Program)(t:TypeId){α:Type}(f:α->List A)(ok:α->Prop):Prop :=
 ∀(H:Type) (enc:TypeId×Value->H) (w:World) (im:Nat->Prop) (base:Nat) (sp:Nat->Bool) (held:Bool) (fuel:Nat) (cs:List Value) (d:DataW H) (ps:List MemPlace),
  DataW.trod enc P w base sp held fuel t cs=some (d,ps)->(∀p∈ps,im p.block) ->
  ∃x:α,ok x/\cs.length=(f x).length/\(∀v∈cs,gR v)/\∀j (h:j<(f x).length) (h':j<cs.length),aw im w (f x)[j] cs[j]

section
variable {P:Program} {t:TypeId}
theorem FA{k:IntKind}(ht:P.underlying t=some (.int k)):xy P t (fun n:Int=>[.int k n]) (fun n=>k.min<=n/\n<=k.max):=by
 intro H enc w im base sp held fuel cs d ps h uc;obtain⟨n,rfl,_,hw⟩:=DataW.trod_int ht h;refine⟨n,by simpa[Lit.wf] using hw,rfl,fun v hv=>?_,fun j h h'=>?_⟩
 ·simp at hv;subst hv;rfl
 ·have:j=0:=by simp at h;omega
  subst this;exact .int k n
theorem D0(ht:P.underlying t=some (.int .i64)):xy P t (fun n:Int=>[.int .i64 n]) (fun n=>-9223372036854775808<=n/\n<=9223372036854775807):=by
 intro H enc w im base sp held fuel cs d ps h uc;obtain⟨x,h1,h2⟩:=FA ht H enc w im base sp held fuel cs d ps h uc;refine⟨x,?_,h2⟩;have e1:IntKind.i64.min = -9223372036854775808:=rfl;have e2:IntKind.i64.max=9223372036854775807:=rfl;omega
def fieldsOf(P:Program)(t:TypeId):Option (List (TypeId×Nat×Nat)) :=
 match P.underlying t with
 | some (.struct fs)=>some (fs.toList.map fun f=>(f.type,f.offset,P.cellsOf f.type))
 | _=>none
/-- An argument that is cells. -/
theorem xy.cell{α:Type}{g:α->A}{ok:α->Prop}(h:xy P t (fun x=>[g x]) ok){H:Type}{enc:TypeId×Value->H}{w:World}{im:Nat->Prop}{base:Nat}{sp:Nat->Bool}{held:Bool}{v:Value}{d:DataW H}{ps:List MemPlace}
  (hd:DataW.Trod enc P w base sp held t v d ps) (hv:∀cs,v≠.agg cs) (uc:∀p∈ps,im p.block):∃x,ok x/\aw im w (g x) v:=by
 obtain⟨fuel,hd⟩:=hd;obtain⟨x,h1,h2,h3,h4⟩:=h H enc w im base sp held fuel _ d ps hd uc
 have hc:v.cells = #[v]:=by
  cases v<;>first|rfl|exact absurd rfl (hv _)|skip
 refine⟨x,h1,?_⟩;have:=h4 0 (by simp) (by rw[hc];simp);simpa[hc] using this
theorem xz{r:Reach}{w:World}{base:Nat}{v:Value}(tX:Value.okWide P w r base t v)(ha:(match P.underlying t with|some (.int _)=>true|some .bool=>true|some .string=>true|some (.slice _)=>true|_=>false)=true):∀cs,v≠.agg cs:=by
 rintro cs rfl;unfold Value.okWide at tX;split at tX
 ·rename_i fs h;rw[h] at ha;cases ha
 ·rename_i n e h;rw[h] at ha;cases ha
 ·unfold Cell.okWide at tX;split at tX<;>first|(rename_i h1 h2;cases h2;done)|skip
  unfold Cell.ok at tX;split at tX<;>first|(rename_i h1 h2;cases h2;done)|exact tX.elim
end
end Go.Proofs.YtijddijloelacaaGreat.Am

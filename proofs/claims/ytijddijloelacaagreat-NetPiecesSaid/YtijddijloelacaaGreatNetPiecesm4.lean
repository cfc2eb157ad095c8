/-
  THE ENGINE, part 4: an abstract machine of symbolic values, each step proved sound.
-/
import Derived.Test.YtijddijloelacaaGreatNetPieces1
import Derived.Test.YtijddijloelacaaGreatNetPiecesm3
import Derived.Deep.Slices
set_option linter.unusedSimpArgs false
set_option linter.unusedSectionVars false
set_option linter.unusedVariables false
namespace Go.Proofs.YtijddijloelacaaGreat.Am
variable [Inhabited cc]
open Go.RowKit (Below)
open Go.Proofs Go.Shelf Go.Sort Go.Lib
def oO:A->Prop
 | .int _ _=>True
 | .sb _=>True
 | _=>False
def IQ:A->Value
 | .int k n=>.int k n
 | .sb b=>.bool b
 | _=>undef
theorem xa{a:A}(h:oO a):(IQ a).oneCell'=true:=by cases a<;>first|rfl|exact absurd h id
theorem Cd{im:Nat->Prop}{w:World}{a:A}(h:oO a):aw im w a (IQ a):=by
 cases a<;>first|exact .int _ _|exact .sb _|exact absurd h id
theorem IS{im:Nat->Prop}{w:World}{a:A}{v:Value}(h:oO a)(r:aw im w a v):v=IQ a:=by
 cases r<;>first|rfl|exact absurd h id
section
variable {P:Program} {ρ : Go.Shelf.Ren} {G:aG} {α : Type} [Inhabited α]
def cR(e:α->List A)(l:List α):Nat->List A:=fun i=>e (l.getD i default)
def bm(e:α->List A)(x:α):List Value:=(e x).map IQ
theorem aM.vH(dA:¬(default:cc).ns)(L:SlLaysF0.n6 P ρ)(k:Nat)(k0:0<k)(aE:∀w,(isAgg (ρ.t 24)).run P w=.ok true w)(zE:∀w,(Go.sizeOf (ρ.t 24)).run P w=.ok k w)
  (e:α->List A) (yY:∀x,∀a∈e x,oO a) (hk:∀x,(e x).length=k) (cf:α->α->Int) (hO:SWO (ltOf cf)) (g:FuncId) (pI:List A) (kQ:pI.any (cL 4)=false)
  (hc:∀x y,aa P G g ([.agg (e x),.agg (e y)]++pI) (.int .i64 (cf x y)))
  (hfn : ∃ fn cd, P.funcs[ρ.f 6]? = some fn ∧ fn.body = some cd ∧ (fn.name == "runtime.NumGoroutine") = false) (ty : TypeId) (l : List α) (hl : l.length ≤ 1000000) (hne : 0 < l.length) :
  aM P G (ρ.f 6) [.own 1,.fn g pI] [.ghost [.own 1,.af,.af],.row ty k l.length (cR e l)] (.tup []) [.ghost [.own 1,.af,.af],.row ty k l.length (cR e (eL cf l))]:=by
 refine⟨hfn,?_⟩;intro im w vs gs ids hG hs;have vw:vs.length=2:=by have:=hs.len;simpa using this
 obtain⟨v0,v1,rfl⟩:∃v0 v1,vs=[v0,v1]:=by
  match vs,vw with
  | [a,b],_=>exact⟨a,b,rfl⟩
 have r0:Rel ids _ w (.own 1) v0:=hs.bI 0 (by simp) (by simp);have r1:Rel ids _ w (.fn g pI) v1:=hs.bI 1 (by simp) (by simp);have wM:ids.length=2:=by have:=hs.aL;simpa using this
 have yG:=hs.bC 1 (by simp) (by omega);simp only[List.getElem_cons_succ,List.getElem_cons_zero] at yG
 obtain⟨p,cap,bZ,yH,Hs,rfl⟩:∃p cap,ids[1]?=some (.lv p)/\(p.n<=cap/\cap<=maxLen)/\cap*p.sz=p.k/\v0=.slice (some ⟨p.ao,0,none⟩) p.n cap:=by
  rcases hs.fL r0 (by simp) with⟨h1,_⟩|h
  ·rw[List.getElem?_eq_getElem (by omega)] at h1;rw[Option.some.inj h1] at yG;have:l.length=0:=yG;omega
  ·exact h
 have wN:ids[1]'(by omega)=.lv p:=by rw[List.getElem?_eq_getElem (by omega)] at bZ;exact Option.some.inj bZ
 rw[wN] at yG;obtain⟨g1,g2,cur,g3,g4,g5,g6,g7⟩:=yG;obtain⟨us,rfl,LP,PE⟩:=r1.gi;rw[g2];have He:=hs.ar p (List.mem_of_getElem? bZ) p.ao (.inl rfl);have Ta:gj ids p.ao:=⟨p,List.mem_of_getElem? bZ,.inl rfl⟩;have DD:∀x,(bm e x).length=k:=fun x=>by simp[bm,hk]
 have yI:∀x,∀v∈bm e x,v.oneCell'=true:=fun x v hv=>by
  simp only[bm,List.mem_map] at hv;obtain⟨n,hn,rfl⟩:=hv;exact xa (yY x n hn)
 have wO:∀t,t<l.length*k->cur[t]?=some ((bm e (l.getD (t/k) default)).getD (t%k) undef):=by
  intro t ht;obtain⟨q1,q2,q3⟩:=ja ht rfl rfl;have aD:t<cur.size:=by omega
  have Ht:(cR e l (t/k)).length=k:=g6 _ q1;have:=(g7 (t/k) (t%k) q1 (by rw[Ht];exact q2) (by rw[q3];exact aD)).1;simp only[q3] at this;have Vn:t%k<(e (l.getD (t/k) default)).length:=by rw[hk];exact q2
  have e1:(cR e l (t/k))[t%k]'(by rw[Ht];exact q2)=(e (l.getD (t/k) default))[t%k]:=rfl;rw[e1] at this;have hv:cur[t]=IQ ((e (l.getD (t/k) default))[t%k]):=IS (yY _ _ (List.getElem_mem Vn)) this;rw[Array.getElem?_eq_getElem aD,hv];have Hu:t%k<(bm e (l.getD (t/k) default)).length:=by rw[DD];exact q2
  rw[List.getD_eq_getElem?_getD (l:=bm e (l.getD (t/k) default)),List.getElem?_eq_getElem Hu,Option.getD_some];simp only[bm,List.getElem_map]
 have rK:∀i,l.toArray[i]! = l.getD i default:=fun i=>by
  rw[List.getD_eq_getElem?_getD];simp[Array.getElem!_eq_getD,Array.getD_eq_getD_getElem?]
 have hH:HoldsK (bm e) k w p.ao 0 l.toArray:=by
  intro j hj;rw[size_flatK] at hj;have hj:j<l.length*k:=by simpa using hj
  constructor
  ·rw[Nat.zero_add,cell_of_row w p.ao j cur ty (0,0) g3,wO j hj,id,get_flatK _ _ _ _ (by simpa using hj),rK];obtain⟨q1,q2,q3⟩:=ja hj rfl rfl;have:j%k<(bm e (l.getD (j/k) default)).length:=by rw[DD];exact q2
   rw[List.getD_eq_getElem?_getD (l:=bm e (l.getD (j/k) default)),List.getElem?_eq_getElem this,Option.getD_some,getElem!_pos (bm e (l.getD (j/k) default)) _ this]
  ·unfold World.frozen?;simp only[g3];simp
 have Tb:=hG.1
 have sY:∀(m:Nat) (dk:Array α) (os:Array Obj) (b:Nat),b<w.heap.size->b≠p.ao->(sortWorldK (bm e) k w p.ao 0 m dk os).heap[b]?=w.heap[b]?:=by
  intro m dk os b hb Tc;unfold sortWorldK;rw[heap_grow_old _ _ (by show b<(putRowK (bm e) k (Go.Sort.ahead w m) p.ao 0 dk).heap.size;rw[size_putRowK];exact hb)];show((Go.Sort.ahead w m).heap.modify p.ao _)[b]?=_;rw[Array.getElem?_modify,if_neg (fun h=>Tc h.symm)];rfl
 have PF:CmpLays P g us.toArray (bm e) k cf p.ao 0 l.toArray.size w:=by
  intro m os dk ZK x y;have bL:=size_sortWorldK_c (bm e) k w p.ao 0 m dk os;have:=(hc x y).2 (au ⟨w,im,gj ids,gs⟩ ids w) (sortWorldK (bm e) k w p.ao 0 m dk os) ([.agg (bm e x).toArray,.agg (bm e y).toArray]++us) (fun b hb=>Nat.lt_of_lt_of_le (cB hs hb) bL) ?_ (by simp[LP]) ?_
  ·refine bl (by simpa using this) ?_;rintro e' w' ⟨v,rfl,hv,hb⟩;cases hv;exact⟨rfl,DA dA hb⟩
  ·refine G.st w _ Tb bL (fun b hb=>sY m dk os b (Nat.lt_of_lt_of_le hb (G.lt _ Tb)) ?_);intro e';have:=hG.2 p.ao Ta;omega
  ·have Hv:∀(x:α) (bo:Nat->Prop) (W:World),aw bo W (.agg (e x)) (.agg (bm e x).toArray):=by
    intro x bo W;refine .agg _ _ (by simp[bm]) (fun v hv=>yI x v hv) (fun j h h'=>?_);simp only[bm,List.getElem_map];exact Cd (yY x _ (List.getElem_mem _))
   intro j h h';rcases j with _|_|j
   ·exact Hv x _ _
   ·exact Hv y _ _
   ·have hj:j<pI.length:=by simpa using h
    have:=PE j hj (by omega)
    have aU:cL 4 pI[j]=false:=by
     have:=List.any_eq_false.1 kQ _ (List.getElem_mem hj);simpa using this
    have:=cz (ids:=ids) 4 _ _ aU this;refine(this.mono (fun _ h=>h) (fun b hb=>sY m dk os b (cB hs hb) ?_));intro e';subst e';rcases hb with hb|⟨_,_,hb⟩
    ·exact hs.pJ hb He.1
    ·exact hb p (List.mem_of_getElem? bZ) (.inl rfl)
 have eg:∀args w,(callFunc g args).run P w=.ok (.enter g args) w:=by
  intro args w;obtain ⟨fn,cd,h1,h2,h3⟩:=(hc default default).1;have h4 : ¬ fn.name = "runtime.NumGoroutine" := by simpa using h3
  simp[callFunc,h1,h2,h4]
 have yJ:=AnyQ.slices_SortFunc_eq L k aE zE (bm e) DD yI cf hO g us.toArray p.ao 0 cap l.toArray w eg PF hH He.2 (by simp;omega);refine bl (by simpa using yJ) ?_;rintro e' w' ⟨rfl,n,os,iW⟩;refine⟨.tuple #[],ids,rfl,?_⟩
 have gk:(pdq (ltOf cf) l.toArray 0 l.toArray.size (Go.Lib.bitLen l.toArray.size) true true).size=l.length:=by
  have:=gW cf hO l;unfold eL at this;simpa using this
 obtain⟨d',fM⟩:∃d',d'=pdq (ltOf cf) l.toArray 0 l.toArray.size (Go.Lib.bitLen l.toArray.size) true true:=⟨_,rfl⟩
 have PG:∀i,(eL cf l).getD i default=d'[i]!:=by
  intro i;unfold eL;rw[<-fM,List.getD_eq_getElem?_getD];simp[Array.getElem!_eq_getD,Array.getD_eq_getD_getElem?]
 have iW:w'=sortWorldK (bm e) k w p.ao 0 n d' os:=by rw[iW,fM];simp
 rw[<-fM] at gk;have bL:w.heap.size<=w'.heap.size:=by rw[iW];exact size_sortWorldK_c (bm e) k w p.ao 0 n d' os
 have yK:∀b,b<w.heap.size->b≠p.ao->w'.heap[b]?=w.heap[b]?:=fun b h1 h2=>by rw[iW];exact sY n d' os b h1 h2
 have yL:w'.heap[p.ao]?=some (.cells (putCells id 0 (flatK (bm e) k d') cur) ty (0,0)):=by
  rw[iW];unfold sortWorldK;rw[heap_grow_old _ _ (by show p.ao<(putRowK (bm e) k (Go.Sort.ahead w n) p.ao 0 d').heap.size;rw[size_putRowK];exact He.2)];show((Go.Sort.ahead w n).heap.modify p.ao _)[p.ao]?=_;rw[Array.getElem?_modify,if_pos rfl];show Option.map _ (w.heap[p.ao]?)=_;rw[g3];rfl
 have fI:∀b,b<w.heap.size->(∀(b':Nat) (q:Id),ids[b']?=some (.lv q)->¬q.has b)->w'.heap[b]?=w.heap[b]?:=fun b h1 h2=>yK b h1 (fun e=>h2 1 p bZ (.inl e))
 have aU:∀q,dT.lv q∈ids->∀x,q.has x->x<w'.heap.size/\(w.heap.size<=x\/∃(b:Nat) (p:Id),ids[b]?=some (.lv p)/\p.has x):=by
  intro q hq x hx;obtain⟨i,hi⟩:=List.getElem?_of_mem hq;exact⟨Nat.lt_of_lt_of_le (hs.ar q hq x hx).2 bL,.inr ⟨i,q,hi,hx⟩⟩
 have PH:eM w.drawn w'.drawn:=.of (by rw[iW];exact Nat.le_add_right _ _);obtain⟨dJ,dB⟩:=hs.cP (w':=w') (ab:=ids) bL fI aU
 have kL:aF ⟨w,im,gj ids,gs⟩ [.af,.af] [.ghost [.own 1,.af,.af],.row ty k l.length (cR e (eL cf l))] ⟨[.slice (some ⟨p.ao,0,none⟩) p.n cap,.func (.func g) #[] us.toArray].toArray,[]⟩ w' ids:=by
  refine hs.lU (yM:=PH) (by rw[iW];rfl) (by rw[iW];rfl) (by rw[iW];rfl) bL fI aU (fun _ h=>h) hs.aj rfl (by simpa using wM) ?_ ?_
  ·intro i h h';rcases i with _|_|i
   ·exact .aI (.af _)
   ·exact .aI (.af _)
   ·simp at h;omega
  ·intro b h h';rcases b with _|_|b
   ·have Fx:=hs.bC 0 (by simp) (by omega);refine Fx.mono dJ dB (fun _ _ h _=>h) ?_;intro q hq x hx;rw[hq] at Fx;exact Fx.elim
   ·simp only[List.getElem_cons_succ,List.getElem_cons_zero,wN];refine⟨g1,g2,_,yL,by simp[putCells,g4],g5,fun i _=>by simp[cR,hk],?_⟩;intro i j hi hj cj;have DE:j<k:=by simpa[cR,hk] using hj
    have aD:i*k+j<l.length*k:=by
     have:=Nat.mul_le_mul_right k (show i+1<=l.length from hi);rw[Nat.add_mul] at this;omega
    have Td:(flatK (bm e) k d').size=l.length*k:=by rw[size_flatK,gk]
    have hv:(putCells id 0 (flatK (bm e) k d') cur)[i*k+j]=IQ ((e ((eL cf l).getD i default))[j]'(by rw[hk];exact DE)):=by
     simp only[putCells,Array.getElem_mapIdx,Td];rw[if_pos ⟨Nat.zero_le _,by omega⟩,Nat.sub_zero,id,get_flatK _ _ _ _ (by rw[gk];exact aD)];have e1:(i*k+j)/k=i:=by rw[Nat.mul_comm,Nat.mul_add_div k0,Nat.div_eq_of_lt DE];simp
     have e2:(i*k+j)%k=j:=by rw[Nat.mul_comm,Nat.mul_add_mod,Nat.mod_eq_of_lt DE]
     rw[e1,e2,<-PG];have:j<(bm e ((eL cf l).getD i default)).length:=by rw[DD];exact DE
     rw[getElem!_pos (bm e ((eL cf l).getD i default)) j this];simp only[bm,List.getElem_map]
    rw[hv];refine⟨?_,xa (yY _ _ (List.getElem_mem _))⟩;exact Cd (yY _ _ (List.getElem_mem _))
   ·simp at h;omega
 refine⟨rfl,rfl,?_,kL.aL,kL.bC,kL.aj,kL.ar,kL.frame,kL.dZ,kL.cE⟩;intro i h h';rcases i with _|i
 ·exact .aI (.tup [] [] rfl (fun _ h=>by simp at h))
 ·simp at h
end
end Go.Proofs.YtijddijloelacaaGreat.Am
namespace Go.Proofs.YtijddijloelacaaGreat.Am
variable [Inhabited cc]
open Go.RowKit (Below)
section
variable {c:Ctx} {s:List A} {m:List aq} {a:Act} {w w':World} {ids ab:dE} {P:Program} {im bo:Nat->Prop} {tt:TT} {G:aG}
theorem aF.PB(hs:aF c s m a w ids)(b:Nat)(x:aq)(hx:∀(h:b<ids.length),aX ids (au c ids w) w x ids[b]):aF c s (m.set b x) a w ids where
 defers:=hs.defers
 len:=hs.len
 bI:=hs.bI
 aL:=by rw[List.length_set];exact hs.aL
 bC:=by
  intro i h h';rw[List.length_set] at h;rw[List.getElem_set];split
  ·rename_i e;subst e;exact hx h'
  ·exact hs.bC i h h'
 aj:=hs.aj
 ar:=hs.ar
 frame:=hs.frame
 dZ:=hs.dZ
 cE:=hs.cE
/-- A cell of a box that holds a nil slice holds a row of ours that has no place yet. -/
theorem EC{Q:Exit->List A->List aq->Prop}{code:Code}(b j:Nat)(ty:TypeId)(sz:Nat){sU:TypeId}{cs:List A}(hb:m[b]?=some (.box sU cs))(hj:cs[j]?=some .aV)
  (h:dz m.length fun n=>fl (cs.set j (.own n)) fun db=>qk m b (.box sU db) fun m1=>lL m1 (.row ty sz 0 fun _=>[]) fun _ m'=>WA P G code Q s m'):WA P G code Q s m:=by
 rw[aO,ck,eQ,fG] at h;unfold WA at h ⊢;intro c a w ids hG hs
 have ly:b<m.length:=by
  rcases Nat.lt_or_ge b m.length with h'|h'
  ·exact h'
  ·rw[List.getElem?_eq_none h'] at hb;cases hb
 have LA:=hs.grow (Bw.refl _ w) [.row ty sz 0 fun _=>[]] [.aQ] rfl (fun i h1 h2=>by
   have:i=0:=by simp at h1;omega
   subst this;exact rfl) (fun p h=>by simp at h) (fun vs h=>by simp at h) (fun i j p q x h1=>by
   cases i with
   | zero=>simp at h1
   | succ i=>simp at h1)
 have kL:=LA.PB b (.box sU (cs.set j (.own m.length))) (by
  intro eR;have hB:=LA.bC b (by simp;omega) eR
  have e:(m++[aq.row ty sz 0 fun _=>[]])[b]'(by simp;omega)=.box sU cs:=by
   rw[List.getElem_append_left ly];rw[List.getElem?_eq_getElem ly] at hb;exact Option.some.inj hb
  rw[e] at hB;cases hp:(ids++[dT.aQ])[b] with
  | dead=>rw[hp] at hB;exact hB
  | av=>rw[hp] at hB;exact hB
  | aQ=>rw[hp] at hB;exact hB
  | cE vs=>rw[hp] at hB;exact hB
  | lv p =>
   rw[hp] at hB;obtain⟨vs,g1,g2,g3,g4⟩:=hB;refine⟨vs,g1,g2,by rw[List.length_set];exact g3,fun k hk gv=>?_⟩;rw[List.length_set] at hk;have g5:=g4 k hk gv;rw[List.getElem_set];split
   ·rename_i ejk;subst ejk
    have ec:cs[j]=.aV:=by
     rw[List.getElem?_eq_getElem hk] at hj;exact Option.some.inj hj
    rw[ec] at g5;refine⟨?_,g5.2⟩;rw[g5.1.dr];exact .fX _ (by rw[<-hs.aL];simp)
   ·exact g5)
 have e3:(m++[aq.row ty sz 0 fun _=>[]]).set b (.box sU (cs.set j (.own m.length)))=(m.set b (.box sU (cs.set j (.own m.length))))++[aq.row ty sz 0 fun _=>[]]:=by
  rw[List.set_append_left _ _ ly]
 rw[e3] at kL;exact h c a w _ hG kL
end
section
variable {c:Ctx} {s:List A} {m:List aq} {a:Act} {w w':World} {ids ab:dE} {P:Program} {im bo:Nat->Prop} {tt:TT} {G:aG}
theorem OL{l:List Nat}{b j:Nat}(h:eZ l 0 b=some j):l[j]?=some b:=by
 have:=(fT l 0 b j h).2;simpa using this
theorem St(π:List Nat)(ids:dE):rn (bU (eZ π 0)) ids (π.map fun b=>ids.getD b .dead):=by
 have key:∀b b' p,eZ π 0 b=some b'->ids[b]?=some p->(π.map fun b=>ids.getD b .dead)[b']?=some p:=by
  intro b b' p h1 h2;rw[List.getElem?_map,OL h1,Option.map_some,List.getD_eq_getElem?_getD,h2];rfl
 exact⟨fun b b' p h1 h2=>⟨p,key b b' _ h1 h2,rfl⟩,fun b b' p h1 h2 _=>⟨p,key b b' _ h1 h2,gU p⟩,fun b b' p h1 h2=>⟨p,key b b' _ h1 h2,rfl⟩,fun b b' h1 h2=>key b b' _ h1 h2,fun b b' h1 h2=>key b b' _ h1 h2⟩
theorem yr{π:List Nat}{ids:dE}{p:dT}(hp:p≠.dead)(h:p∈π.map fun b=>ids.getD b .dead):p∈ids:=by
 obtain⟨b,_,e⟩:=List.mem_map.1 h;rw[List.getD_eq_getElem?_getD] at e;cases hb:ids[b]? with
 | none=>rw[hb] at e;exact absurd e.symm hp
 | some q=>rw[hb] at e;simp at e;subst e;exact List.mem_of_getElem? hb
theorem aF.ren(hs:aF c s m a w ids)(π:List Nat)(hn:π.Nodup):
  aF c (s.map (iL (bU (eZ π 0)) 4)) (π.map fun b=>gV (bU (eZ π 0)) 4 (m.getD b .dead)) a w (π.map fun b=>ids.getD b .dead):=by
 have hi:∀b,au c ids w b->au c (π.map fun b=>ids.getD b .dead) w b:=by
  intro b h;rcases h with h|⟨h1,h2,h3⟩
  ·exact .inl h
  ·exact .inr ⟨h1,h2,fun p hp=>h3 p (yr (by simp) hp)⟩
 have ht:=St π ids
 have gJ:∀(j:Nat) (p:Id),(π.map fun b=>ids.getD b .dead)[j]?=some (.lv p)->∃b,π[j]?=some b/\ids[b]?=some (.lv p):=by
  intro j p h;rw[List.getElem?_map] at h;cases hj:π[j]? with
  | none=>rw[hj] at h;cases h
  | some b =>
   rw[hj,Option.map_some,List.getD_eq_getElem?_getD] at h;cases hb:ids[b]? with
   | none=>rw[hb] at h;simp at h
   | some q=>rw[hb] at h;simp at h;subst h;exact⟨b,rfl,hb⟩
 refine⟨hs.defers,by simp[hs.len],?_,by simp,?_,?_,?_,hs.frame,hs.dZ,?_⟩
 ·intro i h h';rw[List.getElem_map];exact dN hi (fun _ _=>rfl) ht 4 _ _ (hs.bI i (by simpa using h) h')
 ·intro j h h';rw[List.getElem_map,List.getElem_map];have hj:j<π.length:=by simpa using h
  by_cases hb:π[j]<m.length
  ·have gG:π[j]<ids.length:=by rw[hs.aL];exact hb
   rw[List.getD_eq_getElem?_getD,List.getElem?_eq_getElem hb,List.getD_eq_getElem?_getD,List.getElem?_eq_getElem gG];exact kz hi (fun _ _=>rfl) ht 4 (fun _ _ _ _=>rfl) (hs.bC _ hb gG)
  ·rw[List.getD_eq_getElem?_getD,List.getElem?_eq_none (by omega),List.getD_eq_getElem?_getD,List.getElem?_eq_none (by rw[hs.aL];omega)];exact rfl
 ·intro j j' p q x h1 h2 h3 h4;obtain⟨b,k1,k2⟩:=gJ j p h1;obtain⟨b',k3,k4⟩:=gJ j' q h2;have e:=hs.aj b b' p q x k2 k4 h3 h4;subst e;have hj:j<π.length:=(List.getElem?_eq_some_iff.1 k1).1;exact(List.getElem?_inj hj hn).1 (k1.trans k3.symm)
 ·intro p hp x hx;exact hs.ar p (yr (by simp) hp) x hx
 ·intro vs hv;exact hs.cE vs (yr (by simp) hv)
/-- Blocks are named anew: block j is now what was block π[j]; the others are forgotten. -/
theorem Su{Q:Exit->List A->List aq->Prop}{code:Code}(π:List Nat)(hn:oe π=true)
  (h:fd.qp 4 (s.map (iL (bU (eZ π 0)) 4)) fun s'=>qt (π.map fun b=>gV (bU (eZ π 0)) 4 (m.getD b .dead)) fun m'=>WA P G code Q s' m'):WA P G code Q s m:=by
 rw[cK,dQ] at h;unfold WA at h ⊢;intro c a w ids hG hs;exact h c a w _ hG (hs.ren π (iV hn))
/-- .. ahead of region id, where k blocks stand. -/
theorem lh{Q:Exit->List A->List aq->Prop}{id:Nat}{l:Array Oper}{d:Bool}(k:Nat)(π:List Nat)(_hk:Nat.beq m.length k=true)(hn:oe π=true)
  (h:fd.qp 4 (s.map (iL (bU (eZ π 0)) 4)) fun s'=>qt (π.map fun b=>gV (bU (eZ π 0)) 4 (m.getD b .dead)) fun m'=>WA P G (.region id l d) Q s' m'):WA P G (.region id l d) Q s m:=Su π hn h
end
section
variable {c:Ctx} {s:List A} {m:List aq} {a:Act} {w w':World} {ids ab:dE} {P:Program} {im bo:Nat->Prop} {tt:TT} {G:aG}
variable {code:Code} {Q:Exit->List A->List aq->Prop}
variable {ty:TypeId} {agg:Bool} {sh:List KS} {n hi:Nat} {cs:List A} {jA:Nat->Nat} {has:Nat->List KC->Bool} {val:Nat->List KC->A}
/-- A row with some content. -/
theorem JY(b:Nat){sz:Nat}{Φ:(Nat->List A)->Prop}(hb:m.getD b .dead=.bF ty sz n Φ)(h:∀row,Φ row->qk m b (.row ty sz n row) fun m'=>WA P G code Q s m'):WA P G code Q s m:=by
 unfold WA;intro c a w ids hG hs;obtain⟨ly,hm⟩:=getD_some (by simp) hb;have eR:b<ids.length:=by rw[hs.aL];exact ly
 have hB:=hs.bC b ly eR;rw[hm] at hB
 have fin:∀row,Φ row->aX ids (au c ids w) w (.row ty sz n row) ids[b]->code.wp P (post c Q) a w:=by
  intro row hr Hp;have h:=h row hr;rw[eQ] at h;unfold WA at h;exact h c a w ids hG (hs.PB b _ fun _=>Hp)
 cases hp:ids[b] with
 | dead=>rw[hp] at hB;exact hB.elim
 | av=>rw[hp] at hB;exact hB.elim
 | cE vs=>rw[hp] at hB;exact hB.elim
 | aQ =>
  rw[hp] at hB;obtain⟨h0,row,hr⟩:=hB;exact fin row hr (by rw[hp];exact h0)
 | lv p =>
  rw[hp] at hB;obtain⟨row,hr,hB⟩:=hB;exact fin row hr (by rw[hp];exact hB)
end
section
variable {c:Ctx} {s:List A} {m:List aq} {a:Act} {w w':World} {ids ab:dE} {P:Program} {im bo:Nat->Prop} {tt:TT} {G:aG}
variable {next:Act->World->Prop} {Q:Exit->Act->World->Prop} {o:Oper}
/-- The first operations of a region; what follows is told apart. -/
theorem o0(aJ:bp P tt){ops:List Oper}{QA:List A->List aq->Prop}(hG:G.ok c)(tail:List Oper)(hQ:∀s m a w ids,QA s m->aF c s m a w ids->wpList P ops.toArray Q tail a w):
  ∀(rest:List Oper) (s:List A) (m:List aq) (a:Act) (w:World) (ids:dE),aF c s m a w ids->mF P G tt ops rest s m QA->wpList P ops.toArray Q (rest++tail) a w
 | [],s,m,a,w,ids,hs,h=>hQ s m a w ids h hs
 | o::rest,s,m,a,w,ids,hs,h=>by
  have exec:∀s,aF c s m a w ids->(wj P G tt o s m fun s1 v m'=>qC s1 o.dst v fun s'=>mF P G tt ops rest s' m' QA)->∀K:Act->World->Prop,(∀a w,wpList P ops.toArray Q (rest++tail) a w->K a w)->o.wp P a w K Q:=by
   intro s hs h K hK;refine rB aJ hG hs h ?_;intro s1 v m' a' w' ab hk bH;rw[nk] at hk;exact hK _ _ (o0 aJ hG tail hQ rest _ _ _ _ _ bH hk)
  have skip:∀s,aF c s m a w ids->(qC s o.dst (.tup []) fun s'=>mF P G tt ops rest s' m QA)->∀K:Act->World->Prop,(∀a w,wpList P ops.toArray Q (rest++tail) a w->K a w)->K (a.put o.dst undef) w:=by
   intro s hs h K hK;rw[nk] at h;exact hK _ _ (o0 aJ hG tail hQ rest _ _ _ _ _ (hs.bf o.dst (.aI (.tup [] [] rfl (fun _ h=>by simp at h)))) h)
  unfold mF at h;refine wpList_step fun K hK=>?_;split at h
  ·rename_i hg;have:Region.wanted o (yielded ops.toArray a.tmps)=true:=by unfold Region.wanted;rw[hg]
   rw[if_pos this];exact exec s hs h K hK
  ·rename_i j want hg;have hw:Region.wanted o (yielded ops.toArray a.tmps)=(yielded ops.toArray a.tmps j==some want):=by unfold Region.wanted;rw[hg]
   rw[hw];unfold Dk at h;split at h
   ·exact h.elim
   ·rename_i d hd;have oo:=hs.ev (.tmp d);simp only[ev,Act.eval] at oo;split at h
    ·rename_i b hb;rw[hb] at oo;rw[jq hd oo.dL];split at h
     ·exact exec s hs h K hK
     ·exact exec s hs h K hK
     ·exact skip s hs h K hK
     ·exact skip s hs h K hK
    ·rename_i b hb;rw[hb] at oo;have U8:=oo.iI;rw[jq hd U8]
     have og:∀b',b=b'->aF c (s.set d (.bool b')) m a w ids:=by
      intro b' e;subst e;exact hs.x9 d (by rw[U8];exact .aI (.bool _))
     rw[gB,gB,gB,gB] at h;split at h
     ·cases b
      ·exact skip _ (og false rfl) (h.2 rfl) K hK
      ·exact exec _ (og true rfl) (h.1 rfl) K hK
     ·cases b
      ·exact exec _ (og false rfl) (h.1 rfl) K hK
      ·exact skip _ (og true rfl) (h.2 rfl) K hK
    ·rename_i vs hb;rw[hb] at oo;split at h
     ·obtain⟨us,hu,yz,_⟩:=oo.jC;have Ho:us=[]:=by simpa using yz
      subst Ho
      have hy:yielded ops.toArray a.tmps j=none:=by
       unfold yielded;have h1:(ops.toArray[j]?).bind (·.dst)=some d:=by simpa[mQ] using hd
       rw[h1];rcases Nat.lt_or_ge d a.tmps.size with h|h
       ·have h2:a.tmps[d]?=some (.tuple #[]):=by simpa[Array.getD_eq_getD_getElem?,h] using hu
        simp[h2]
       ·simp[h]
      rw[hy];exact skip s hs h K hK
     ·exact h.elim
    ·exact h.elim
end
section
variable {s:List A} {m:List aq} {P:Program} {tt:TT} {G:aG} {Q:Exit->List A->List aq->Prop}
end
end Go.Proofs.YtijddijloelacaaGreat.Am
namespace Go.Proofs.YtijddijloelacaaGreat.Am
variable [Inhabited cc]
section
variable {P:Program} {G:aG} {s:List A} {m:List aq}
variable {ty:TypeId} {agg:Bool} {sh:List KS} {n hi:Nat} {cs:List A} {jA:Nat->Nat} {has:Nat->List KC->Bool} {val:Nat->List KC->A}
end
end Go.Proofs.YtijddijloelacaaGreat.Am
namespace Go.Proofs.YtijddijloelacaaGreat.Am
variable [Inhabited cc]
open Go.RowKit Go.ChangeShapes
/-- Each value of a type, read by the claim's reader, is one of ours. -/
def gb(P:Program)(t:TypeId){α:Type}(f:α->List A)(ok:α->Prop):Prop :=
 ∀(H:Type) (enc:TypeId×Value->H) (w:World) (im:Nat->Prop) (base:Nat) (sp:Nat->Bool) (held:Bool) (fuel:Nat) (cs:List Value) (d:DataW H) (ps:List MemPlace),
  DataW.trod enc P w base sp held fuel t cs=some (d,ps)->(∀p∈ps,im p.block) ->
  ∃x:α,ok x/\cs.length=(f x).length/\(∀v∈cs,gz v)/\∀j (h:j<(f x).length) (h':j<cs.length),aw im w (f x)[j] cs[j]

section
variable {P:Program} {t:TypeId}
theorem Hd{k:IntKind}(ht:P.underlying t=some (.int k)):gb P t (fun n:Int=>[.int k n]) (fun n=>k.min<=n/\n<=k.max):=by
 intro H enc w im base sp held fuel cs d ps h nC;obtain⟨n,rfl,_,hw⟩:=DataW.trod_int ht h;refine⟨n,by simpa[Lit.wf] using hw,rfl,fun v hv=>?_,fun j h h'=>?_⟩
 ·simp at hv;subst hv;rfl
 ·have:j=0:=by simp at h;omega
  subst this;exact .int k n
theorem Fv(ht:P.underlying t=some (.int .i64)):gb P t (fun n:Int=>[.int .i64 n]) (fun n=>-9223372036854775808<=n/\n<=9223372036854775807):=by
 intro H enc w im base sp held fuel cs d ps h nC;obtain⟨x,h1,h2⟩:=Hd ht H enc w im base sp held fuel cs d ps h nC;refine⟨x,?_,h2⟩;have e1:IntKind.i64.min = -9223372036854775808:=rfl;have e2:IntKind.i64.max=9223372036854775807:=rfl;omega
theorem BA(ht:P.underlying t=some .bool):gb P t (fun b:Bool=>[.sb b]) (fun _=>True):=by
 intro H enc w im base sp held fuel cs d ps h nC;obtain⟨b,rfl,_⟩:=DataW.trod_bool ht h;refine⟨b,trivial,rfl,fun v hv=>?_,fun j h h'=>?_⟩
 ·simp at hv;subst hv;rfl
 ·have:j=0:=by simp at h;omega
  subst this;exact .sb b
/-- Fields, one behind the other: type, place, size. -/
def yt(P:Program)(o:Nat)(L:List (TypeId×Nat×Nat)){α:Type}(g:α->List A)(ok:α->Prop):Prop :=
 ∀(H:Type) (enc:TypeId×Value->H) (w:World) (im:Nat->Prop) (base:Nat) (sp:Nat->Bool) (held:Bool) (n:Nat) (cs:List Value) (xs:List (DataW H×List MemPlace)),xs.length=L.length->(∀x∈xs,∀p∈x.2,im p.block) ->
   (∀(i:Nat) q,L[i]?=some q->DataW.trod enc P w base sp held n q.1 ((cs.drop q.2.1).take q.2.2)=xs[i]?)->o+(L.map fun q=>q.2.2).sum=cs.length ->
   ∃x:α,ok x/\(g x).length=cs.length-o/\(∀v∈cs.drop o,gz v)/\∀j (h:j<(g x).length) (h':o+j<cs.length),aw im w (g x)[j] cs[o+j]
theorem sX{o:Nat}:yt P o [] (fun _:Unit=>[]) (fun _=>True):=by
 intro H enc w im base sp held n cs xs _ _ _ Sv;simp at Sv;exact⟨(),trivial,by simp;omega,by rw[List.drop_of_length_le (by omega)];simp,fun j h=>absurd h (Nat.not_lt_zero _)⟩
theorem fP{o k:Nat}{L:List (TypeId×Nat×Nat)}{α β:Type}{g1:α->List A}{g2:β->List A}{ok:α->Prop}{Vk:β->Prop}(h:gb P t g1 ok)
      (hs:yt P (o+k) L g2 Vk):yt P o ((t,o,k)::L) (fun x:α×β=>g1 x.1++g2 x.2) (fun x=>ok x.1/\Vk x.2):=by
 intro H enc w im base sp held n cs xs hl nC hx Sv
 match xs,hl with
 | x::xs,hl =>
  have h0:=hx 0 _ rfl;simp only[List.getElem?_cons_zero] at h0;simp only[List.map_cons,List.sum_cons] at Sv;obtain⟨a,a1,a2,a3,a4⟩:=h H enc w im base sp held n _ x.1 x.2 h0 (nC x (by simp));obtain⟨b,b1,b2,b3,b4⟩:=hs H enc w im base sp held n cs xs (by simpa using hl) (fun y hy=>nC y (by simp[hy])) (fun i f' hf=>by simpa using hx (i+1) f' (by simpa using hf)) (by omega);rw[List.length_take,List.length_drop] at a2;have T9:(g1 a).length=k:=by omega
  refine⟨(a,b),⟨a1,b1⟩,by simp[T9,b2];omega,?_,?_⟩
  ·intro v hv;rw[<-List.take_append_drop k (cs.drop o)] at hv;rcases List.mem_append.1 hv with hv|hv
   ·exact a3 v hv
   ·rw[List.drop_drop] at hv;exact b3 v hv
  ·intro j h1 h2;by_cases hj:j<k
   ·have:=a4 j (by omega) (by rw[List.length_take,List.length_drop];omega);simp only[List.getElem_append_left (show j<(g1 a).length by omega)];rw[List.getElem_take,List.getElem_drop] at this;exact this
   ·have:=b4 (j-k) (by simp[T9] at h1;omega) (by omega);simp only[List.getElem_append_right (show(g1 a).length<=j by omega)];have e:o+k+(j-k)=o+j:=by omega
    simp only[T9,e] at this ⊢;exact this
def fieldsOf(P:Program)(t:TypeId):Option (List (TypeId×Nat×Nat)) :=
 match P.underlying t with
 | some (.struct fs)=>some (fs.toList.map fun f=>(f.type,f.offset,P.cellsOf f.type))
 | _=>none
theorem oy{L:List (TypeId×Nat×Nat)}{α:Type}{g:α->List A}{ok:α->Prop}(ht:fieldsOf P t=some L)(bL:(L.map fun q=>q.2.2).sum=P.cellsOf t)(h:yt P 0 L g ok):gb P t g ok:=by
 intro H enc w im base sp held fuel cs d ps hd nC;unfold fieldsOf at ht;split at ht
 ·rename_i fs hu;cases ht;obtain⟨xs,n,_,e,hl,u7,hx⟩:=DataW.trod_struct hu hd;cases e
  obtain⟨x,h1,h2,h3,h4⟩:=h H enc w im base sp held n cs xs (by simpa using u7) (fun x hx p hp=>nC p (List.mem_flatMap.2 ⟨x,hx,hp⟩)) (fun i q hf=>by
   rw[List.getElem?_map] at hf;rcases LR:fs.toList[i]? with _|f
   ·rw[LR] at hf;cases hf
   ·rw[LR] at hf;cases hf;exact hx i f (by simpa using LR)) (by omega)
  exact⟨x,h1,by omega,by simpa using h3,fun j a b=>by simpa using h4 j a (by omega)⟩
 ·cases ht
/-- The same, in other words. -/
theorem gb.to{α β:Type}{g:α->List A}{ok:α->Prop}{g':β->List A}{Vk:β->Prop}(h:gb P t g ok)(f:α->β)(hg:∀x,g x=g' (f x))(xi:∀x,ok x->Vk (f x)):gb P t g' Vk:=by
 intro H enc w im base sp held fuel cs d ps hd nC;obtain⟨x,h1,h2⟩:=h H enc w im base sp held fuel cs d ps hd nC;rw[hg] at h2;exact⟨f x,xi x h1,h2⟩
theorem lS{e:TypeId}{α:Type}[Inhabited α]{g:α->List A}{ok:α->Prop}{sz:Nat}(ht:P.underlying t=some (.slice e))(h:gb P e g ok)(bL:P.cellsOf e=sz)(Vl:0<sz):
  gb P t (fun l:List α=>[.sl l.length sz fun i=>g (l.getD i default)]) (fun l=>l.length<=maxLen/\∀x∈l,ok x):=by
 intro H enc w im base sp held fuel cs d ps hd nC;rcases Deep.open_slice ht hd with⟨rfl,_⟩|⟨a,len,cap,m,n,D,Pl,rfl,hb,hl,XN,hm,he,hx⟩
 ·refine⟨[],⟨Nat.zero_le _,fun _ h=>by cases h⟩,rfl,fun v hv=>?_,fun j h h'=>?_⟩
  ·simp at hv;subst hv;rfl
  ·have:j=0:=by simp at h;omega
   subst this;exact .sn _ _
 ·cases he;have hlm:len<=m:=by rw[hm];split<;>omega
  have key:∀i,i<len->∃x:α,ok x/\(g x).length=sz/\(∀j,j<sz->∃v,w.cell? (a.add (i*sz+j))=some v/\gz v/\∀(h:j<(g x).length),aw im w (g x)[j] v):=by
   intro i hi;obtain⟨db,h1,h2⟩:=hx i (by omega);obtain⟨x,x1,x2,x3,x4⟩:=h H enc w im base sp held n db _ _ h2 (fun p hp=>nC p (List.mem_append_right _ (List.mem_flatMap.2 ⟨i,by simp;omega,hp⟩)));obtain⟨_,c1,c2⟩:=World.cells?_some h1;rw[bL] at c1 c2;refine⟨x,x1,by omega,fun j hj=>⟨db[j]'(by omega),?_,x3 _ (List.getElem_mem _),fun h=>x4 j h (by omega)⟩⟩;have:=c2 j hj;rw[Deep.add_add] at this;rw[this,List.getElem?_eq_getElem]
  obtain⟨X,hX⟩:=Deep.choose_lt key;refine⟨(List.range len).map X,⟨by simp;omega,?_⟩,rfl,fun v hv=>by simp at hv;subst hv;rfl,?_⟩
  ·intro x hx;simp only[List.mem_map,List.mem_range] at hx;obtain⟨i,hi,rfl⟩:=hx;exact(hX i hi).1
  ·intro j h h';have:j=0:=by simp at h;omega
   subst this;show aw im w (.sl ((List.range len).map X).length sz fun i=>g (((List.range len).map X).getD i default)) (.slice (some a) len cap);have e1:((List.range len).map X).length=len:=by simp
   rw[e1]
   have e2:∀i,i<len->((List.range len).map X).getD i default=X i:=by
    intro i hi;simp[List.getD_eq_getElem?_getD,hi]
   rcases Nat.eq_zero_or_pos len with h0|h0
   ·subst h0;exact .sle _ _ _ _
   ·have TC:a.spot=none:=by
     obtain⟨v,hv,_⟩:=(hX 0 h0).2.2 0 Vl;rw[Nat.zero_mul,Nat.add_zero] at hv;unfold Addr.add at hv;rw[if_pos rfl] at hv;unfold World.cell? at hv;split at hv
     ·split at hv
      ·cases hv
      ·rename_i h;simpa using h
     ·cases hv
    obtain⟨ao,off,spot⟩:=a;simp only at TC;subst TC
    have hV:∀i,i<len->∃f:Nat->Value,∀j,j<sz->w.cell? ⟨ao,off+i*sz+j,none⟩=some (f j)/\gz (f j)/\∀(h:j<(g (X i)).length),aw im w (g (X i))[j] (f j):=by
     intro i hi;obtain⟨f,hf⟩:=Deep.choose_lt (hX i hi).2.2;refine⟨f,fun j hj=>?_⟩;have:=hf j hj;rw[show Addr.add ⟨ao,off,none⟩ (i*sz+j)=⟨ao,off+i*sz+j,none⟩ from by unfold Addr.add;split<;>simp_all<;>omega] at this;exact this
    obtain⟨V,hV⟩:=Deep.choose_lt hV;refine .sl len sz _ ao off cap V (nC _ (List.mem_append_left _ (List.mem_map.2 ⟨0,?_,rfl⟩))) hl ?_ ?_ ?_ ?_
    ·rw[List.mem_range,bL];exact Nat.mul_pos (by omega) Vl
    ·intro i hi;rw[e2 i hi];exact(hX i hi).2.1
    ·intro i j hi hj;exact(hV i hi j hj).1
    ·intro i j hi hj;exact(hV i hi j hj).2.1
    ·intro i j hi hj;simp only[e2 i hi] at hj ⊢;exact(hV i hi j (by rw[<-(hX i hi).2.1];exact hj)).2.2 hj
/-- An argument that is cells. -/
theorem gb.cell{α:Type}{g:α->A}{ok:α->Prop}(h:gb P t (fun x=>[g x]) ok){H:Type}{enc:TypeId×Value->H}{w:World}{im:Nat->Prop}{base:Nat}{sp:Nat->Bool}{held:Bool}{v:Value}{d:DataW H}{ps:List MemPlace}
  (hd:DataW.Trod enc P w base sp held t v d ps) (hv:∀cs,v≠.agg cs) (nC:∀p∈ps,im p.block):∃x,ok x/\aw im w (g x) v:=by
 obtain⟨fuel,hd⟩:=hd;obtain⟨x,h1,h2,h3,h4⟩:=h H enc w im base sp held fuel _ d ps hd nC
 have hc:v.cells = #[v]:=by
  cases v<;>first|rfl|exact absurd rfl (hv _)|skip
 refine⟨x,h1,?_⟩;have:=h4 0 (by simp) (by rw[hc];simp);simpa[hc] using this
theorem yE{r:Reach}{w:World}{base:Nat}{v:Value}(u6:Value.okWide P w r base t v)(ha:(match P.underlying t with|some (.int _)=>true|some .bool=>true|some .string=>true|some (.slice _)=>true|_=>false)=true):∀cs,v≠.agg cs:=by
 rintro cs rfl;unfold Value.okWide at u6;split at u6
 ·rename_i fs h;rw[h] at ha;cases ha
 ·rename_i n e h;rw[h] at ha;cases ha
 ·unfold Cell.okWide at u6;split at u6<;>first|(rename_i h1 h2;cases h2;done)|skip
  unfold Cell.ok at u6;split at u6<;>first|(rename_i h1 h2;cases h2;done)|exact u6.elim
end
end Go.Proofs.YtijddijloelacaaGreat.Am

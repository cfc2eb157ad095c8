/-
  The walks and plain laws, part 5.
-/
import Derived.Tactics
import Derived.Test.YtijddijloelacaaGreatNetPieces4
import Derived.Test.YtijddijloelacaaGreatNetPieces2
import Derived.Test.YtijddijloelacaaGreatNetPiecesm4
set_option linter.unusedSimpArgs false
set_option linter.unusedSectionVars false
set_option linter.unusedVariables false
set_option maxRecDepth 100000
set_option maxHeartbeats 40000000
namespace Go.NetL
/-- A run: from a node to another one, its weight, whether in one direction alone. -/
structure Rn where
 a:Int
 b:Int
 w:Int
 ow:Bool
 deriving Inhabited
structure Ed where
 a:Int
 b:Int
 w:Int
 f:Bool
 k:Bool
 deriving Inhabited,DecidableEq
def Rn.lo(r:Rn):Int:=if r.b<r.a then r.b else r.a
def Rn.hi(r:Rn):Int:=if r.a<r.b then r.b else r.a
def Rn.fw(r:Rn):Bool:=decide (r.a<r.b)
def tY(o:Option Ed)(r:Rn):Ed:=match o with
 | none=>⟨r.lo,r.hi,r.w,r.fw || !r.ow,!r.fw || !r.ow⟩
 | some e=>⟨e.a,e.b,if r.w<e.w then r.w else e.w,e.f||r.fw || !r.ow,e.k || !r.fw || !r.ow⟩
abbrev Ez:=Int×Int->Option Ed
def stM(M:Ez)(r:Rn):Ez:=fun k=>if k=(r.lo,r.hi) then some (tY (M k) r) else M k
def EM(l:List Rn):Ez:=l.foldl stM fun _=>none
def Ed.key(e:Ed):Int×Int:=(e.a,e.b)
def nG(x y:Int×Int):Prop:=x.1<y.1\/(x.1=y.1/\x.2<y.2)
instance (x y:Int × Int):Decidable (nG x y):=inferInstanceAs (Decidable (_\/_))
theorem Nf{x y:Int×Int}(h:nG x y)(h':nG y x):False:=by unfold nG at *;omega
theorem EA{x:Int×Int}(h:nG x x):False:=Nf h h
theorem JR{x y z:Int×Int}(h:nG x y)(h':nG y z):nG x z:=by unfold nG at *;omega
theorem Ng{x y:Int×Int}(h:¬nG x y)(h':¬nG y x):x=y:=Prod.ext (by unfold nG at *;omega) (by unfold nG at *;omega)
/-- The place of the edge between nodes. -/
def SH(l:List Ed)(k:Int×Int):Option Nat:=l.findIdx? fun e=>decide (e.key=k)
def Ah(l:List Ed)(k:Int×Int):Option Ed:=l.find? fun e=>decide (e.key=k)
/-- How many from the front on are ahead of it, as they are gone through. -/
def Q2(l:List Ed)(e:Ed):Nat:=(List.range l.length).foldl (fun n i=>if nG (l.getD i default).key e.key then i+1 else n) 0
def xr(l:List Ed)(e:Ed):List Ed:=l.take (Q2 l e)++e::l.drop (Q2 l e)
def By(l:List Ed)(r:Rn):List Ed:=match SH l (r.lo,r.hi) with
 | none=>xr l (tY none r)
 | some i=>l.set i (tY (some (l.getD i default)) r)
def nu(l:List Ed):Prop:=(l.map Ed.key).Pairwise nG
theorem CC{l:List Ed}(h:nu l){i j:Nat}(kK:i<j)(hj:j<l.length):nG (l.getD i default).key (l.getD j default).key:=by
 unfold nu at h;rw[List.pairwise_map,List.pairwise_iff_getElem] at h;have:=h i j (by omega) hj kK;rw[List.getD_eq_getElem?_getD,List.getD_eq_getElem?_getD,List.getElem?_eq_getElem (by omega),List.getElem?_eq_getElem hj];exact this
theorem dG{l:List Ed}(h:nu l){e:Ed}{k:Int×Int}:Ah l k=some e↔e∈l/\e.key=k:=by
 unfold Ah;constructor
 ·intro hf;exact⟨List.mem_of_find?_eq_some hf,by have:=List.find?_some hf;exact of_decide_eq_true this⟩
 ·rintro⟨hm,hk⟩;cases hf:l.find? fun e=>decide (e.key=k) with
  | none =>
   rw[List.find?_eq_none] at hf;exact absurd (decide_eq_true hk) (hf e hm)
  | some e' =>
   have m':=List.mem_of_find?_eq_some hf;have k':e'.key=k:=by have:=List.find?_some hf;exact of_decide_eq_true this
   have:e'=e:=by
    obtain⟨i,hi,rfl⟩:=List.getElem_of_mem m';obtain⟨j,hj,rfl⟩:=List.getElem_of_mem hm;unfold nu at h;rw[List.pairwise_map,List.pairwise_iff_getElem] at h;rcases Nat.lt_trichotomy i j with q|q|q
    ·exact(EA (by have:=h i j hi hj q;rw[k',hk] at this;exact this)).elim
    ·subst q;rfl
    ·exact(EA (by have:=h j i hj hi q;rw[k',hk] at this;exact this)).elim
   rw[this]
theorem Nh{l:List Ed}{k:Int×Int}(h:SH l k=none):∀e∈l,e.key≠k:=by
 unfold SH at h;rw[List.findIdx?_eq_none_iff] at h;intro e he hk;have:=h e he;rw[decide_eq_true hk] at this;cases this
theorem xu{l:List Ed}{k:Int×Int}{i:Nat}(h:SH l k=some i):∃hi:i<l.length,l[i].key=k:=by
 unfold SH at h;rw[List.findIdx?_eq_some_iff_getElem] at h;obtain⟨hi,h1,_⟩:=h;exact⟨hi,of_decide_eq_true h1⟩
/-- Where an edge is put. -/
theorem Ni{l:List Ed}(h:nu l)(e:Ed):Q2 l e<=l.length/\(∀i,i<Q2 l e->nG (l.getD i default).key e.key)/\∀i,Q2 l e<=i->i<l.length->¬nG (l.getD i default).key e.key:=by
 have key:∀n,n<=l.length->let a:=(List.range n).foldl (fun n i=>if nG (l.getD i default).key e.key then i+1 else n) 0;a<=n/\(∀i,i<a->nG (l.getD i default).key e.key)/\∀i,a<=i->i<n->¬nG (l.getD i default).key e.key:=by
  intro n
  induction n with
  | zero=>intro _;exact⟨Nat.le_refl _,fun i hi=>absurd hi (Nat.not_lt_zero _),fun i _ hi=>absurd hi (Nat.not_lt_zero _)⟩
  | succ n ih =>
   intro hn;obtain⟨a1,a2,a3⟩:=ih (by omega);simp only[List.range_succ,List.foldl_append,List.foldl_cons,List.foldl_nil];generalize (List.range n).foldl (fun n i=>if nG (l.getD i default).key e.key then i+1 else n) 0=a at *;by_cases c:nG (l.getD n default).key e.key
   ·rw[if_pos c];refine⟨Nat.le_refl _,fun i hi=>?_,fun i h1 h2=>by omega⟩;by_cases q:i=n
    ·subst q;exact c
    ·exact JR (CC h (by omega:i<n) (by omega)) c
   ·rw[if_neg c];refine⟨by omega,a2,fun i h1 h2=>?_⟩;by_cases q:i=n
    ·subst q;exact c
    ·exact a3 i h1 (by omega)
 exact key l.length (Nat.le_refl _)
theorem oV{l:List Ed}{i:Nat}(h:i<l.length):l.getD i default=l[i]:=by rw[List.getD_eq_getElem?_getD,List.getElem?_eq_getElem h];rfl
theorem Nj{l:List Ed}(h:nu l){e:Ed}(hn:∀x∈l,x.key≠e.key):nu (xr l e)/\∀x,x∈xr l e↔x=e\/x∈l:=by
 obtain⟨a1,a2,a3⟩:=Ni h e;unfold xr;generalize Q2 l e=a at *;constructor
 ·unfold nu at *;rw[List.pairwise_map] at *;rw[List.pairwise_append,List.pairwise_cons]
  have ht:∀x∈l.take a,nG x.key e.key:=fun x hx=>by
   obtain⟨i,hi,rfl⟩:=List.getElem_of_mem hx;rw[List.length_take] at hi;rw[List.getElem_take];have:=a2 i (by omega);rw[oV (by omega)] at this;exact this
  have hd:∀x∈l.drop a,nG e.key x.key:=fun x hx=>by
   obtain⟨i,hi,rfl⟩:=List.getElem_of_mem hx;rw[List.length_drop] at hi;rw[List.getElem_drop];have h1:=a3 (a+i) (by omega) (by omega);rw[oV (by omega)] at h1;refine Classical.byContradiction fun h2=>?_;exact hn _ (List.getElem_mem (by omega)) (Ng h1 h2)
  refine⟨h.sublist (List.take_sublist _ _),⟨hd,h.sublist (List.drop_sublist _ _)⟩,?_⟩;intro x hx y hy;rcases List.mem_cons.1 hy with rfl|hy
  ·exact ht x hx
  ·exact JR (ht x hx) (hd y hy)
 ·intro x;rw[List.mem_append,List.mem_cons];have:x∈l↔x∈l.take a\/x∈l.drop a:=by rw[<-List.mem_append,List.take_append_drop]
  rw[this];constructor
  ·rintro(h|h|h)
   ·exact .inr (.inl h)
   ·exact .inl h
   ·exact .inr (.inr h)
  ·rintro(h|h|h)
   ·exact .inr (.inl h)
   ·exact .inl h
   ·exact .inr (.inr h)
/-- One run more. -/
theorem Uf{l:List Ed}{M:Ez}(h:nu l)(hM:∀k,Ah l k=M k)(r:Rn):nu (By l r)/\∀k,Ah (By l r) k=stM M r k:=by
 unfold By;cases hp:SH l (r.lo,r.hi) with
 | none =>
  have hn:=Nh hp;have hk:(tY none r).key=(r.lo,r.hi):=rfl;obtain⟨p1,p2⟩:=Nj h (e:=tY none r) (fun x hx=>by rw[hk];exact hn x hx);refine⟨p1,fun k=>?_⟩
  have Tl:Ah l (r.lo,r.hi)=none:=by
   cases e:Ah l (r.lo,r.hi) with
   | none=>rfl
   | some x=>exact absurd ((dG h).1 e).2 (hn x ((dG h).1 e).1)
  unfold stM;by_cases c:k=(r.lo,r.hi)
  ·subst c;rw[if_pos rfl,<-hM,Tl];exact(dG p1).2 ⟨(p2 _).2 (.inl rfl),hk⟩
  ·rw[if_neg c,<-hM];cases e:Ah l k with
   | some x=>exact(dG p1).2 ⟨(p2 _).2 (.inr ((dG h).1 e).1),((dG h).1 e).2⟩
   | none =>
    cases e':Ah (xr l (tY none r)) k with
    | none=>rfl
    | some x =>
     obtain⟨m1,m2⟩:=(dG p1).1 e';rcases (p2 x).1 m1 with rfl|m1
     ·exact absurd m2.symm (by rw[hk];exact c)
     ·rw[(dG h).2 ⟨m1,m2⟩] at e;cases e
 | some i =>
  obtain⟨hi,hk⟩:=xu hp;have hg:=oV hi;simp only[];rw[hg];have gv:(tY (some l[i]) r).key=l[i].key:=rfl
  have Xf:(l.set i (tY (some l[i]) r)).map Ed.key=l.map Ed.key:=by
   apply List.ext_getElem (by simp);intro j h1 h2;simp only[List.getElem_map,List.getElem_set];split
   ·rename_i q;subst q;exact gv
   ·rfl
  have p1:nu (l.set i (tY (some l[i]) r)):=by unfold nu;rw[Xf];exact h
  refine⟨p1,fun k=>?_⟩;unfold stM;have Xg:Ah l (r.lo,r.hi)=some l[i]:=(dG h).2 ⟨List.getElem_mem hi,hk⟩;by_cases c:k=(r.lo,r.hi)
  ·subst c;rw[if_pos rfl,<-hM,Xg];exact(dG p1).2 ⟨List.mem_iff_getElem.2 ⟨i,by simpa using hi,by simp⟩,gv.trans hk⟩
  ·rw[if_neg c,<-hM];cases e:Ah l k with
   | some x =>
    obtain⟨m1,m2⟩:=(dG h).1 e;obtain⟨j,hj,rfl⟩:=List.getElem_of_mem m1;have:i≠j:=fun q=>by subst q;exact c (m2.symm.trans hk)
    refine(dG p1).2 ⟨List.mem_iff_getElem.2 ⟨j,by simpa using hj,?_⟩,m2⟩;rw[List.getElem_set,if_neg this]
   | none =>
    cases e':Ah (l.set i (tY (some l[i]) r)) k with
    | none=>rfl
    | some x =>
     obtain⟨m1,m2⟩:=(dG p1).1 e';obtain⟨j,hj,rfl⟩:=List.getElem_of_mem m1;rw[List.length_set] at hj;rw[List.getElem_set] at m2;split at m2
     ·exact absurd (m2.symm.trans (gv.trans hk)) c
     ·rw[(dG h).2 ⟨List.getElem_mem hj,m2⟩] at e;cases e
def ER(l:List Rn):List Ed:=l.foldl By []
theorem O8:∀(rs:List Rn) (l:List Ed) (M:Ez),nu l->(∀k,Ah l k=M k)->nu (rs.foldl By l)/\∀k,Ah (rs.foldl By l) k=rs.foldl stM M k
 | [],l,M,h,hM=>⟨h,hM⟩
 | r::rs,l,M,h,hM=>by
  obtain⟨a,b⟩:=Uf h hM r;exact O8 rs _ _ a b
theorem vQ(l:List Rn):nu (ER l)/\∀k,Ah (ER l) k=EM l k:=O8 l [] _ .nil fun _=>rfl
end Go.NetL
namespace Go.Proofs.YtijddijloelacaaGreat
open Go.Proofs.YtijddijloelacaaGreat.Am Go.Sort Go.Proofs Go.Lib Go.NetL
variable [Inhabited cc]
variable {G:aG}
def Ug(c:Cu):List KC:=[.bool c.1.p,.int (c.1.X.a:Nat),.int (c.1.X.b:Nat),.int (c.1.X.c:Nat),.int (c.1.X.d:Nat),.int (c.1.X.e:Nat),.int (c.1.X.f:Nat),.int (c.1.X.g:Nat),.int (c.1.X.h:Nat),.bool c.1.q,.int (c.1.Y.a:Nat),.int (c.1.Y.b:Nat),.int (c.1.Y.c:Nat),.int (c.1.Y.d:Nat),.int (c.1.Y.e:Nat),.int (c.1.Y.f:Nat),.int (c.1.Y.g:Nat),.int (c.1.Y.h:Nat),.int (c.1.W.a:Nat),.int (c.1.W.b:Nat),.int (c.1.W.c:Nat),.int (c.1.W.d:Nat),.int (c.1.W.e:Nat),.int (c.1.W.f:Nat),.int (c.1.W.g:Nat),.int (c.1.W.h:Nat)]
def Zb:A->KC
 | .int _ n=>.int n
 | .sb b=>.bool b
 | _=>.bool false
theorem JS{c:Cu}(h:iS (nr c)=zM c.1):Ug c=xo (nr c):=by
 have:=congrArg (List.map Zb) h;exact this.symm
def Uh(N:List RS)(c:Cu):Int:=((N.map xo).idxOf (Ug c):Nat)
def Ui(sp:Sp)(L:List Cu)(N:List RS)(i:Nat):Rn:=⟨Uh N (L.getD i default),Uh N (L.getD (i+1) default),(gR sp.w (L.map oU)).getD i 0,sp.ow⟩
def nH(sp:Sp)(L:List Cu)(N:List RS)(k:Nat):List Rn:=(List.range k).map (Ui sp L N)
def O9(sp:Sp)(L:List Cu)(N:List RS):List Rn:=nH sp L N (L.length-1)
def SI(r:Rn):List A:=[.int .i64 r.lo,.int .i64 r.hi,.sb r.fw,.int .i64 r.w,.sb r.ow]
def vj(l:List Rn):A:=.sl l.length 5 fun i=>SI (l.getD i default)
theorem na(sp:Sp)(L:List Cu)(N:List RS)(k:Nat):(nH sp L N k).length=k:=by simp[nH]
theorem CD(sp:Sp)(L:List Cu)(N:List RS)(k:Nat):nH sp L N (k+1)=nH sp L N k++[Ui sp L N k]:=by simp[nH,List.range_succ]
theorem Q3(sp:Sp)(L:List Cu)(N:List RS)(hw:0<=sp.w/\sp.w<=2147483648)(hP:SE (L.map oU))(hk:∀c∈L,rZ N (Ug c)=true)(hN:N.length<=1000000):
  aa Tryz.prog G 47 [.agg (QU sp),tO L,.mv true SG (rZ N) (xp N)] (vj (O9 sp L N)):=by
 have l2:=hP.l2;have l3:=hP.l3;rw[List.length_map] at l2 l3;have h1:=JO (G:=G) L (by omega);have h2:=JL (G:=G) sp.w (L.map oU) hw hP;have SF:=lj sp.w (L.map oU);rw[List.length_map] at SF;refine aa.ah al Tryz.func47 rfl rfl _ rfl ?_;(conv=>whnf);repeat' ((first|refine st ?_|(refine⟨fun h=>?_,fun h=>?_⟩<;>try simp only[ae] at h)|(refine .inl ?_;(conv=>whnf);(first|refine⟨_,h1,?_⟩|refine⟨_,h2,?_⟩))|refine wf ?_|refine az ?_|refine nn ?_|fail)<;>conv=>whnf)
 refine iG 7 107 5 rfl ?_;(conv=>whnf);refine ak (fun i:Nat=>i<=L.length-1) (fun i=>[(24,.int .i64 (i:Int)),(7,.own 1),(10,.af),(11,.af),(12,.af),(13,.af)]) (fun i=>[.box 62 (QU sp),.row 107 5 (nH sp L N i).length (fun j=>SI ((nH sp L N i).getD j default))]) (fun i=>L.length-1-i) 0 (Nat.zero_le _) ?_ ?_
 ·conv=>whnf
  repeat (first|exact fa|((first|refine fb ?_|(refine And.intro ?_ ?_;rotate_left));conv=>whnf))
 ·intro i hi;have hi:i<=L.length-1:=hi;rcases Nat.lt_or_ge i (L.length-1) with cy|cy
  ·have k1:=hk _ (List.getElem_mem (show i<L.length by omega));have k2:=hk _ (List.getElem_mem (show i+1<L.length by omega));rw[<-gw] at k1 k2;have hlen:=na sp L N i;(conv=>whnf);repeat' ((first|(exfalso;omega)|(exact absurd k1 (by rw[show rZ N (Ug (L.getD i default))=false from h];exact Bool.noConfusion))|(exact absurd k2 (by rw[show rZ N (Ug (L.getD (i+1) default))=false from h];exact Bool.noConfusion))|refine st ?_|(refine⟨fun h=>?_,fun h=>?_⟩<;>try simp only[ae] at h)|refine wf ?_|refine az ?_|refine nn ?_|fail)<;>conv=>whnf)
   refine⟨i+1,(by show i+1<=L.length-1;omega),(by show L.length-1-(i+1)<L.length-1-i;omega),?_⟩;(conv=>whnf)
   repeat (first|exact fa|((first|refine fb ?_|(refine And.intro ?_ ?_;rotate_left));conv=>whnf))
   ·exact Or.inl fun j hj=>by rw[CD];exact j9 SI _ (Ui sp L N i) _ rfl _ rfl j hj
   ·rw[na,na]
  ·have e:i=L.length-1:=by omega
   subst e;(conv=>whnf);repeat' ((first|(exfalso;omega)|refine st ?_|(refine⟨fun h=>?_,fun h=>?_⟩<;>try simp only[ae] at h)|refine wf ?_|refine az ?_|refine nn ?_|fail)<;>conv=>whnf)
   exact Or.inl fun _ _=>rfl
def Gs(e:Ed):List A:=[.int .i64 e.a,.int .i64 e.b,.int .i64 e.w,.sb e.f,.sb e.k]
def eH(M:Ez)(k:List KC):Bool:=match k with
 | [.int a,.int b]=>(M (a,b)).isSome
 | _=>false
def eV(M:Ez)(k:List KC):A:=match k with
 | [.int a,.int b]=>.agg (Gs ((M (a,b)).getD default))
 | _=>.af
def SJ(M:Ez):aq:=.eP true [.int .i64,.int .i64] (eH M) (eV M)
theorem Q4(M:Ez)(r:Rn)(key:List KC):nQ (eH M) [.int r.lo,.int r.hi] true key=eH (stM M r) key:=by
 unfold nQ;split
 ·rename_i e;subst e;show true=(stM M r (r.lo,r.hi)).isSome;unfold NetL.stM;rw[if_pos rfl];rfl
 ·rename_i hne;unfold eH;split
  ·rename_i a b;have:(a,b)≠(r.lo,r.hi):=fun e=>hne (by rw[Prod.mk.injEq] at e;rw[e.1,e.2]);unfold NetL.stM;rw[if_neg this]
  ·rfl
theorem Q5(M:Ez)(r:Rn)(x:A)(hx:x=.agg (Gs (tY (M (r.lo,r.hi)) r)))(key:List KC):qa (eV M) [.int r.lo,.int r.hi] x key=eV (stM M r) key:=by
 unfold qa;split
 ·rename_i e;subst e;show x=.agg (Gs ((stM M r (r.lo,r.hi)).getD default));unfold NetL.stM;rw[if_pos rfl];exact hx
 ·rename_i hne;unfold eV;split
  ·rename_i a b;have:(a,b)≠(r.lo,r.hi):=fun e=>hne (by rw[Prod.mk.injEq] at e;rw[e.1,e.2]);unfold NetL.stM;rw[if_neg this]
  ·rfl
theorem JU(M:Ez)(r:Rn):aM Tryz.prog G 48 [.omap 1,.agg (SI r)] [.ghost [.af,.af,.omap 1],SJ M] (.tup []) [.ghost [.af,.af,.omap 1],SJ (stM M r)]:=by
 have hv:=Q5 M r;have hh:=Q4 M r;refine aM.ah al Tryz.func48 rfl rfl _ rfl ?_;(conv=>whnf);cases hm:M (r.lo,r.hi) with
 | none =>
  rw[hm] at hv;have hs:(M (r.lo,r.hi)).isSome=false:=by rw[hm];rfl
  repeat' (first|(exact Bool.noConfusion (hs.symm.trans h))|((have q1:r.fw=true:=by assumption;have q2:r.fw=false:=by assumption;exact Bool.noConfusion (q1.symm.trans q2)))|((refine JV (id:=7) [(4,.ref 3 0)] [.ghost [.af,.af,.omap 1],SJ M,.box 107 (SI r),.box 67 (Gs (tY none r))] ?_ ?_;rotate_left;(conv=>whnf);refine st ?_;conv=>whnf))|(refine st ?_;conv=>whnf)|(refine⟨fun h=>?_,fun h=>?_⟩<;>(try simp only[ae] at h)<;>conv=>whnf)|((first|refine wf ?_|refine az ?_|refine nn ?_|fail);conv=>whnf))
  all_goals first
   | exact hh h
   | exact fun _=>hv _ rfl h
   | (clear hh hv
      repeat (first|exact fa|((first|refine fb ?_|(refine And.intro ?_ ?_;rotate_left));conv=>whnf))
      all_goals first|exact fun _ _=>rfl|(simp_all [tY];done)|(exfalso;simp_all;done)|skip)
 | some e =>
  rw[hm] at hv;have hs:(M (r.lo,r.hi)).isSome=true:=by rw[hm];rfl
  have hd:(M (r.lo,r.hi)).getD default=e:=by rw[hm];rfl
  repeat' (first|(exact Bool.noConfusion (hs.symm.trans h))|((have q1:r.fw=true:=by assumption;have q2:r.fw=false:=by assumption;exact Bool.noConfusion (q1.symm.trans q2)))|((refine JV (id:=7) [(4,.ref 3 0)] [.ghost [.af,.af,.omap 1],SJ M,.box 107 (SI r),.box 67 (Gs (tY (some e) r))] ?_ ?_;rotate_left;(conv=>whnf);refine st ?_;conv=>whnf))|(refine st ?_;conv=>whnf)|(refine⟨fun h=>?_,fun h=>?_⟩<;>(try simp only[ae] at h)<;>conv=>whnf)|((first|refine wf ?_|refine az ?_|refine nn ?_|fail);conv=>whnf))
  all_goals first
   | exact hh h
   | exact fun _=>hv _ rfl h
   | (clear hh hv
      repeat (first|exact fa|((first|refine fb ?_|(refine And.intro ?_ ?_;rotate_left));conv=>whnf))
      all_goals first|exact fun _ _=>rfl|(simp_all [tY];done)|(exfalso;simp_all;done)|skip)
theorem Nk(row:Nat->List A):aa Tryz.prog G 207 [.sl 0 2 row,.int .i64 0,.int .i64 0,.fn 51 []] (.tup []):=by
 refine aa.ah al Tryz.func207 rfl rfl _ rfl ?_;(conv=>whnf);repeat' ((first|refine st ?_|(refine⟨fun h=>?_,fun h=>?_⟩<;>try simp only[ae] at h)|refine wf ?_|refine az ?_|refine nn ?_|fail)<;>conv=>whnf)
 refine ak (fun _:Nat=>True) (fun _=>[(8,.int .i64 1)]) (fun _=>[]) (fun _=>0) 0 trivial ?_ ?_
 ·exact ff
 ·intro i _;(conv=>whnf);repeat' ((first|refine st ?_|(refine⟨fun h=>?_,fun h=>?_⟩<;>try simp only[ae] at h)|refine wf ?_|refine az ?_|refine nn ?_|fail)<;>conv=>whnf)
  all_goals first|trivial|(exfalso;omega)
theorem Nl(row:Nat->List A):aa Tryz.prog G 151 [.sl 0 2 row,.int .i64 0,.int .i64 0,.int .i64 0,.fn 51 []] (.tup []):=by
 refine aa.ah al Tryz.func151 rfl rfl _ rfl ?_;(conv=>whnf)
 repeat (first|(refine st ?_;conv=>whnf))
 refine ak (fun _:Nat=>True) (fun _=>[(1,.int .i64 0),(2,.int .i64 0),(3,.int .i64 0)]) (fun _=>[]) (fun _=>0) 0 trivial ?_ ?_
 ·exact ff
 ·intro i _;have hi:=Nk (G:=G) row;(conv=>whnf);repeat' ((first|refine st ?_|(refine⟨fun h=>?_,fun h=>?_⟩<;>try simp only[ae] at h)|(refine .inl ?_;(conv=>whnf);refine⟨_,hi,?_⟩)|refine wf ?_|refine az ?_|refine nn ?_|fail)<;>conv=>whnf)
  all_goals first|trivial|(exact absurd trivial h)|(exact absurd h (by decide))
theorem JW(row:Nat->List A):aa Tryz.prog G 100 [.sl 0 2 row,.fn 51 []] (.tup []):=by
 refine aa.ah al Tryz.func100 rfl rfl _ rfl ?_;have hi:=Nl (G:=G) row;(conv=>whnf);repeat' ((first|refine st ?_|(refine⟨fun h=>?_,fun h=>?_⟩<;>try simp only[ae] at h)|(refine .inl ?_;(conv=>whnf);(first|refine⟨_,DW,?_⟩|refine⟨_,hi,?_⟩))|refine wf ?_|refine az ?_|refine nn ?_|fail)<;>conv=>whnf)
 all_goals trivial
theorem Ai(a b:Pr):aa Tryz.prog G 51 [.agg (P6 a),.agg (P6 b)] (.int .i64 (ou a b)):=by
 refine aa.ah al Tryz.func51 rfl rfl _ rfl ?_;(conv=>whnf);repeat' ((first|refine st ?_|(refine⟨fun h=>?_,fun h=>?_⟩<;>try simp only[ae] at h)|refine wf ?_|refine az ?_|refine nn ?_|fail)<;>conv=>whnf)
 repeat' ((first|refine st ?_|(refine⟨fun h=>?_,fun h=>?_⟩<;>try simp only[ae] at h)|(refine .inl ?_;(conv=>whnf);refine⟨_,jW _ _,?_⟩)|refine wf ?_|refine az ?_|refine nn ?_|fail)<;>conv=>whnf)
 refine Or.inl ?_;(conv=>whnf);refine⟨_,(HA [dP a.i b.i,dP a.k b.k] (by simp)).fit ?_,rfl,?_⟩
 ·(conv=>whnf);refine⟨rfl,Or.inl fun i hi=>?_⟩
  match i,hi with
  | 0,_=>rfl
  | 1,_=>rfl
 ·(conv=>whnf);repeat' ((first|refine st ?_|(refine⟨fun h=>?_,fun h=>?_⟩<;>try simp only[ae] at h)|refine wf ?_|refine az ?_|refine nn ?_|fail)<;>conv=>whnf)
  rfl
theorem JX(dA:(default:cc).ns)(l:List Pr)(hl:l.length<=1000000)(h0:0<l.length):
  aM Tryz.prog G 100 [.own 1,.fn 51 []] [.ghost [.own 1,.af,.af],.row 105 2 l.length (bF w3 l)] (.tup []) [.ghost [.own 1,.af,.af],.row 105 2 l.length (bF w3 (eL ou l))]:=by
 exact qV dA (@aM.oA Hj Tryz.prog Tryz.nB G Pr _ (fun h=>h) Tryz.FM 2 (by omega) (fun w=>by kernel_rfl) (fun w=>by kernel_rfl) w3 (fun _=>rfl) ou kW 51 [] rfl
  (fun x y=>@Ai Hj G x y) ⟨_,_,Tryz.func100,rfl,rfl⟩ 105 l hl h0)
theorem Nn(has:List KC->Bool)(val:List KC->A):
  aa Tryz.prog G 50 [.mv true Bq has val] (.fn 101 [.bref [.mv true Bq has val] 0]):=by
 refine aa.ah al Tryz.func50 rfl rfl _ rfl ?_;(conv=>whnf);repeat' ((first|refine st ?_|(refine⟨fun h=>?_,fun h=>?_⟩<;>try simp only[ae] at h)|refine wf ?_|refine az ?_|refine nn ?_|fail)<;>conv=>whnf)
theorem CE(dA:(default:cc).ns)(has:List KC->Bool)(val:List KC->A)(K:List Pr)(pH:K.Nodup)(hK:∀k,iD Bq k->(has k=true↔∃x∈K,k=[.int x.i,.int x.k]))(hn:K.length<=1000000):
  aM Tryz.prog G 99 [.fn 101 [.bref [.mv true Bq has val] 0]] [] (.own 0) [.bF 105 2 K.length (Ia K)]:=by
 have hm:=w4 (G:=G) dA has val K pH hK hn;refine aM.ah al Tryz.func99 rfl rfl _ rfl ?_;(conv=>whnf);repeat' ((first|refine st ?_|(refine⟨fun h=>?_,fun h=>?_⟩<;>try simp only[ae] at h)|((first|refine .inr (.inr (.inr ?_))|refine .inr ?_);(conv=>whnf);refine⟨_,_,hm,?_⟩)|refine wf ?_|refine az ?_|refine nn ?_|fail)<;>conv=>whnf)
 exact fun _ h=>h
theorem Gt(dA:(default:cc).ns)(has:List KC->Bool)(val:List KC->A)(K:List Pr)(hs:K.Pairwise iH)(hK:∀k,iD Bq k->(has k=true↔∃x∈K,k=[.int x.i,.int x.k]))(hn:K.length<=1000000):
  aa Tryz.prog G 49 [.fn 101 [.bref [.mv true Bq has val] 0],.fn 51 []] (.sl K.length 2 (bF w3 K)):=by
 have pH:K.Nodup:=by
  rw[List.nodup_iff_pairwise_ne];refine hs.imp fun {a b} h e=>?_;subst e;unfold iH at h;omega
 have hm:=CE (G:=G) dA has val K pH hK hn;refine aa.ah al Tryz.func49 rfl rfl _ rfl ?_;(conv=>whnf);repeat' ((first|((refine JY (code:=.region 2 _ _) 0 rfl ?_))|refine st ?_|(refine⟨fun h=>?_,fun h=>?_⟩<;>try simp only[ae] at h)|((first|refine .inr (.inr (.inr ?_))|refine .inr ?_);(conv=>whnf);refine⟨_,_,hm,?_⟩)|refine wf ?_|refine az ?_|refine nn ?_|fail)<;>conv=>whnf)
 rintro row ⟨l,hl,hr⟩;obtain rfl:row=bF w3 l:=funext hr;have hlen:=hl.length_eq
 have hsr:eL ou l=K:=by
  refine kU _ _ (qM l (hl.nodup_iff.2 pH)) hs fun x=>?_;rw[(cY ou kW l).1.mem_iff,hl.mem_iff]
 by_cases hz:K.length=0
 ·refine mW 0 ?_;(conv=>whnf);have h0:aa Tryz.prog G 100 [.sl K.length 2 (bF w3 l),.fn 51 []] (.tup []):=by rw[hz];exact JW _
  repeat' ((first|refine st ?_|(refine⟨fun h=>?_,fun h=>?_⟩<;>try simp only[ae] at h)|(refine .inl ?_;(conv=>whnf);refine⟨_,h0,?_⟩)|refine wf ?_|refine az ?_|refine nn ?_|fail)<;>conv=>whnf)
  exact .inl fun i hi=>by omega
 ·have hc:=JX (G:=G) dA l (by omega) (by omega);rw[hsr,hlen] at hc;(conv=>whnf);repeat' ((first|refine st ?_|(refine⟨fun h=>?_,fun h=>?_⟩<;>try simp only[ae] at h)|(refine .inr (.inl ?_);(conv=>whnf);refine⟨_,_,hc,?_⟩)|refine wf ?_|refine az ?_|refine nn ?_|fail)<;>conv=>whnf)
  exact .inl fun _ _=>rfl
def kP(x:Pr):List KC:=[.int x.i,.int x.k]
def CG(L:List Pr)(k:List KC):Bool:=decide (k∈L.map kP)
def JZ(L:List Pr)(k:List KC):A:=.int .i64 ((L.map kP).idxOf k:Nat)
theorem Q6(N:List Pr)(k:Nat)(h:k<N.length)(key:List KC):nQ (CG (N.take k)) (kP (N.getD k default)) true key=CG (N.take (k+1)) key:=by
 have ht:(N.take (k+1)).map kP=(N.take k).map kP++[kP (N.getD k default)]:=by
  rw[List.take_add_one,List.getElem?_eq_getElem h,List.getD_eq_getElem?_getD,List.getElem?_eq_getElem h,List.map_append];rfl
 unfold nQ CG;rw[ht];split
 ·rename_i e;subst e;exact(decide_eq_true (List.mem_append_right _ (List.mem_singleton.2 rfl))).symm
 ·rename_i e;rw[decide_eq_decide,List.mem_append,List.mem_singleton];exact⟨.inl,fun q=>q.resolve_right e⟩
theorem Q7{N:List Pr}(hn:(N.map kP).Nodup)(k:Nat)(h:k<N.length)(key:List KC):qa (JZ N) (kP (N.getD k default)) (.int .i64 (k:Int)) key=JZ N key:=by
 unfold qa;split
 ·rename_i e;subst e;unfold JZ;have:=CB hn (k:=k) (by simpa using h);rw[List.getElem_map] at this;rw[List.getD_eq_getElem?_getD,List.getElem?_eq_getElem h];show _=A.int .i64 (((N.map kP).idxOf (kP N[k]):Nat):Int);rw[this]
 ·rfl
/-- A piece: its edge's place, whether it goes forth, its weight. -/
structure Pc where
 e:Nat
 f:Bool
 w:Int
 deriving Inhabited,DecidableEq
def O'(p:Pc):List A:=[.int .i64 (p.e:Int),.sb p.f,.int .i64 p.w]
def ke(l:List Pc):A:=.sl l.length 3 fun i=>O' (l.getD i default)
def nv(K:List Pr)(r:Rn):Pc:=⟨(K.map kP).idxOf [.int r.lo,.int r.hi],r.fw,r.w⟩
theorem J0(R:List Rn)(K:List Pr)(hR:R.length<=1000000)(hk:∀r∈R,CG K [.int r.lo,.int r.hi]=true):
  aa Tryz.prog G 52 [vj R,.mv true Bq (CG K) (JZ K)] (ke (R.map (nv K))):=by
 refine aa.ah al Tryz.func52 rfl rfl _ rfl ?_;(conv=>whnf);repeat' ((first|refine st ?_|(refine⟨fun h=>?_,fun h=>?_⟩<;>try simp only[ae] at h)|refine wf ?_|refine az ?_|refine nn ?_|fail)<;>conv=>whnf)
 refine iG 5 65 3 rfl ?_;(conv=>whnf);refine ak (fun i:Nat=>i<=R.length) (fun i=>[(10,.int .i64 (i:Int)),(5,.own 0),(7,.af)]) (fun i=>[.row 65 3 ((R.take i).map (nv K)).length (fun j=>O' (((R.take i).map (nv K)).getD j default))]) (fun i=>R.length-i) 0 (Nat.zero_le _) ?_ ?_
 ·conv=>whnf
  repeat (first|exact fa|((first|refine fb ?_|(refine And.intro ?_ ?_;rotate_left));conv=>whnf))
 ·intro i hi;have hi:i<=R.length:=hi;rcases Nat.lt_or_ge i R.length with cy|cy
  ·have k1:=hk _ (List.getElem_mem cy);have hg:R.getD i default=R[i]:=by rw[List.getD_eq_getElem?_getD,List.getElem?_eq_getElem cy];rfl
   rw[<-hg] at k1;have et:(R.take (i+1)).map (nv K)=(R.take i).map (nv K)++[nv K (R.getD i default)]:=by rw[List.take_add_one,List.getElem?_eq_getElem cy,hg,List.map_append];rfl
   have hlen:((R.take i).map (nv K)).length<=1000000:=by rw[List.length_map,List.length_take];omega
   (conv=>whnf);repeat' ((first|(exfalso;omega)|(exact Bool.noConfusion (k1.symm.trans h))|((refine lh (id:=6) 4 [3] rfl rfl ?_;conv=>whnf))|refine st ?_|(refine⟨fun h=>?_,fun h=>?_⟩<;>try simp only[ae] at h)|refine wf ?_|refine az ?_|refine nn ?_|fail)<;>conv=>whnf)
   refine⟨i+1,cy,(by show R.length-(i+1)<R.length-i;omega),?_⟩;(conv=>whnf)
   repeat (first|exact fa|((first|refine fb ?_|(refine And.intro ?_ ?_;rotate_left));conv=>whnf))
   ·exact Or.inl fun j hj=>by rw[et];exact j9 O' _ (nv K (R.getD i default)) _ rfl _ rfl j hj
   ·rw[et,List.length_append];rfl
  ·have e:i=R.length:=by omega
   subst e;rw[List.take_length];(conv=>whnf);repeat' ((first|(exfalso;omega)|refine st ?_|(refine⟨fun h=>?_,fun h=>?_⟩<;>try simp only[ae] at h)|refine wf ?_|refine az ?_|refine nn ?_|fail)<;>conv=>whnf)
   exact .inl fun _ _=>rfl
def cX(R:Nat->List Rn)(n:Nat):List Rn:=(List.range n).flatMap R
theorem qb(R:Nat->List Rn)(n:Nat):cX R (n+1)=cX R n++R n:=by simp[cX,List.range_succ]
theorem EB(l:List Rn)(r:Rn):EM (l++[r])=stM (EM l) r:=by simp[EM,List.foldl_append]
theorem No(f:Nat->List A)(i:Nat)(r:Nat->List A)(hr:r 0=f i)(j:Nat)(hj:j<i+1):bM i f r j=f j:=by
 unfold bM;split
 ·rfl
 ·rename_i h;have h:¬j<i:=fun h'=>by rw[show Nat.blt j i=true from Nat.ble_eq_true_of_le h'] at h;cases h
  obtain rfl:j=i:=by omega
  rw[Nat.sub_self,hr]
def oW(S:List Sp)(k:Nat):List Sg:=(S.take k).map (·.s)
def r8(E:List Ed):A:=.sl E.length 5 fun i=>Gs (E.getD i default)
def Aj(N:List RS)(E:List Ed)(n:Nat)(P:Nat->List Pc):A:=.agg [dX N,r8 E,.sl n 1 fun i=>[ke (P i)]]
theorem Uj(l:List Rd)(S:List Sp)(hn:S.length<=50)(F:Nat->List Cu)(N:List RS)(R:Nat->List Rn)(K:List Pr)
  (h1:aa Tryz.prog G 44 [kO l] (.tup [JG S,.int .i64 0]))
  (h2:aa Tryz.prog G 45 [rR (S.map (·.s))] (.tup [pY S.length F,.int .i64 0]))
  (h3:aa Tryz.prog G 46 [pY S.length F] (.tup [dX N,.mv true SG (rZ N) (xp N)]))
  (h4:∀i,i<S.length->aa Tryz.prog G 47 [.agg (QU (S.getD i default)),tO (F i),.mv true SG (rZ N) (xp N)] (vj (R i)))
  (hR:∀i,i<S.length->(R i).length<=1000)
  (hK:K.length<=100000) (Wq:∀k∈K,(EM (cX R S.length) (k.i,k.k)).isSome=true) (hKn:(K.map kP).Nodup) (hRK:∀i,i<S.length->∀r∈R i,CG K [.int r.lo,.int r.hi]=true)
  (h5:aa Tryz.prog G 49 [.fn 101 [.bref [.mv true Bq (eH (EM (cX R S.length))) (eV (EM (cX R S.length)))] 0],.fn 51 []] (.sl K.length 2 (bF w3 K))) :
  aa Tryz.prog G 15 [kO l] (.tup [Aj N (K.map fun k=>(EM (cX R S.length) (k.i,k.k)).getD default) S.length fun i=>(R i).map (nv K),.int .i64 0]):=by
 refine aa.ah al Tryz.func15 rfl rfl _ rfl ?_;(conv=>whnf);repeat' ((first|((exfalso;exact h trivial))|refine st ?_|(refine⟨fun h=>?_,fun h=>?_⟩<;>try simp only[ae] at h)|(refine .inl ?_;(conv=>whnf);refine⟨_,h1,?_⟩)|refine wf ?_|refine az ?_|refine nn ?_|fail)<;>conv=>whnf)
 refine iG 6 60 4 rfl ?_;(conv=>whnf);refine ak (fun i:Nat=>i<=S.length) (fun i=>[(37,.int .i64 (i:Int)),(6,.own 1),(8,.af)]) (fun i=>[.box 39 [.aV,.aV,.aV],.row 60 4 (oW S i).length (TA (oW S i))]) (fun i=>S.length-i) 0 (Nat.zero_le _) ?_ ?_
 ·exact ff
 ·intro i hi;have hi:i<=S.length:=hi;rcases Nat.lt_or_ge i S.length with cy|cy
  ·have hg:S.getD i default=S[i]:=by rw[List.getD_eq_getElem?_getD,List.getElem?_eq_getElem cy];rfl
   have et:oW S (i+1)=oW S i++[(S.getD i default).s]:=by unfold oW;rw[List.take_add_one,List.getElem?_eq_getElem cy,hg,List.map_append];rfl
   have hlen:(oW S i).length<=50:=by unfold oW;rw[List.length_map,List.length_take];omega
   (conv=>whnf);repeat' ((first|(exfalso;omega)|refine st ?_|(refine⟨fun h=>?_,fun h=>?_⟩<;>try simp only[ae] at h)|refine wf ?_|refine az ?_|refine nn ?_|fail)<;>conv=>whnf)
   refine⟨i+1,cy,(by show S.length-(i+1)<S.length-i;omega),?_⟩;(conv=>whnf)
   repeat (first|exact fa|((first|refine fb ?_|(refine And.intro ?_ ?_;rotate_left));conv=>whnf))
   ·exact Or.inl fun j hj=>by rw[et];exact j9 (fun s:Sg=>[A.int .i64 s.a.x,.int .i64 s.a.y,.int .i64 s.b.x,.int .i64 s.b.y]) _ ((S.getD i default).s) _ rfl _ rfl j hj
   ·rw[et,List.length_append];rfl
  ·have e:i=S.length:=by omega
   subst e;have es:oW S S.length=S.map (·.s):=by unfold oW;rw[List.take_length]
   rw[es];unfold rR pY at h2;unfold pY dX at h3;(conv=>whnf);repeat' ((first|(exfalso;omega)|refine st ?_|(refine⟨fun h=>?_,fun h=>?_⟩<;>try simp only[ae] at h)|(refine .inr (.inr (.inl ?_));(conv=>whnf);(first|refine⟨_,h2,?_⟩|refine⟨_,h3,?_⟩))|refine wf ?_|refine az ?_|refine nn ?_|fail)<;>conv=>whnf)
   have eE0:∀k,(fun _=>false:List KC->Bool) k=eH (EM (cX R 0)) k:=fun k=>by unfold eH;split<;>rfl
   refine iG 14 101 1 rfl ?_;(conv=>whnf);refine ak (fun i:Nat=>i<=S.length) (fun i=>[(60,.int .i64 (i:Int)),(14,.own 3),(15,.af),(16,.af),(17,.af),(19,.af)]) (fun i=>[.box 39 [.aV,.aV,.aV],.dead,SJ (EM (cX R i)),.row 101 1 i fun j=>[vj (R j)]]) (fun i=>S.length-i) 0 (Nat.zero_le _) ?_ ?_
   ·conv=>whnf
    repeat (first|exact fa|((first|refine fb ?_|(refine And.intro ?_ ?_;rotate_left));conv=>whnf))
    ·exact eE0
    ·exact fun _ h=>Bool.noConfusion h
   ·intro i dB;have dB:i<=S.length:=dB;rcases Nat.lt_or_ge i S.length with cy|cy
    ·have k4:=h4 i cy;have kR:=hR i cy;unfold vj at k4;(conv=>whnf);repeat' ((first|(exfalso;omega)|((refine lh (id:=19) 6 [0,1,2,3] rfl rfl ?_;conv=>whnf))|refine st ?_|(refine⟨fun h=>?_,fun h=>?_⟩<;>try simp only[ae] at h)|(refine .inl ?_;(conv=>whnf);refine⟨_,k4,?_⟩)|refine wf ?_|refine az ?_|refine nn ?_|fail)<;>conv=>whnf)
     refine ak (fun k:Nat=>k<=(R i).length) (fun k=>[(78,.int .i64 (k:Int)),(14,.own 3),(16,.af),(19,.af)]) (fun k=>[.box 39 [.aV,.aV,.aV],.dead,SJ (EM (cX R i++(R i).take k)),.row 101 1 (i+1) fun j=>[vj (R j)]]) (fun k=>(R i).length-k) 0 (Nat.zero_le _) ?_ ?_
     ·have e0:cX R i++(R i).take 0=cX R i:=by simp
      rw[e0];(conv=>whnf)
      repeat (first|exact fa|((first|refine fb ?_|(refine And.intro ?_ ?_;rotate_left));conv=>whnf))
      all_goals first|exact .inl fun j hj=>No (fun j=>[vj (R j)]) i _ rfl j hj
     ·intro k hk;have hk:k<=(R i).length:=hk;rcases Nat.lt_or_ge k (R i).length with jY|jY
      ·have hm:=JU (G:=G) (EM (cX R i++(R i).take k)) ((R i).getD k default);have et:cX R i++(R i).take (k+1)=(cX R i++(R i).take k)++[(R i).getD k default]:=by rw[List.take_add_one,List.getElem?_eq_getElem jY,List.getD_eq_getElem?_getD,List.getElem?_eq_getElem jY,List.append_assoc];rfl
       rw[<-EB,<-et] at hm;(conv=>whnf);repeat' ((first|(exfalso;omega)|refine st ?_|(refine⟨fun h=>?_,fun h=>?_⟩<;>try simp only[ae] at h)|(refine .inr (.inl ?_);(conv=>whnf);refine⟨_,_,hm,?_⟩)|refine wf ?_|refine az ?_|refine nn ?_|fail)<;>conv=>whnf)
       refine⟨k+1,jY,(by show(R i).length-(k+1)<(R i).length-k;omega),?_⟩;exact ff
      ·have e:k=(R i).length:=by omega
       subst e;have et:cX R i++(R i).take (R i).length=cX R (i+1):=by rw[List.take_length,qb]
       rw[et];(conv=>whnf);repeat' ((first|(exfalso;omega)|refine st ?_|(refine⟨fun h=>?_,fun h=>?_⟩<;>try simp only[ae] at h)|refine wf ?_|refine az ?_|refine nn ?_|fail)<;>conv=>whnf)
       refine⟨i+1,cy,(by show S.length-(i+1)<S.length-i;omega),?_⟩;exact ff
    ·have e:i=S.length:=by omega
     subst e;have Pa:=Nn (G:=G) (eH (EM (cX R S.length))) (eV (EM (cX R S.length)));(conv=>whnf);repeat' ((first|(exfalso;omega)|refine st ?_|(refine⟨fun h=>?_,fun h=>?_⟩<;>try simp only[ae] at h)|(refine .inr (.inr (.inl ?_));(conv=>whnf);(first|refine⟨_,Pa,?_⟩|refine⟨_,h5,?_⟩))|refine wf ?_|refine az ?_|refine nn ?_|fail)<;>conv=>whnf)
     generalize hE:(K.map fun k=>(EM (cX R S.length) (k.i,k.k)).getD default)=E;have SK:E.length=K.length:=by rw[<-hE,List.length_map]
     refine EC 4 1 67 5 rfl rfl ?_;(conv=>whnf);refine ak (fun i:Nat=>i<=K.length) (fun i=>[(94,.int .i64 (i:Int)),(22,.af),(23,.af)]) (fun i=>[.box 39 [.aV,.aV,.aV],.dead,.dead,.row 101 1 S.length fun j=>[vj (R j)],.box 39 [.sl N.length 26 fun i=>iS (N.getD i default),.own 6,.aV],.eP true Bq (CG (K.take i)) (JZ K),.row 67 5 i fun j=>Gs (E.getD j default)]) (fun i=>K.length-i) 0 (Nat.zero_le _) ?_ ?_
     ·conv=>whnf
      repeat (first|exact fa|((first|refine fb ?_|(refine And.intro ?_ ?_;rotate_left));conv=>whnf))
      exact fun _ h=>Bool.noConfusion h
     ·intro i Vp;have Vp:i<=K.length:=Vp;rcases Nat.lt_or_ge i K.length with cy|cy
      ·have k1:=Wq _ (List.getElem_mem cy);have hg:K.getD i default=K[i]:=by rw[List.getD_eq_getElem?_getD,List.getElem?_eq_getElem cy];rfl
       rw[<-hg] at k1
       have hEi:E.getD i default=(EM (cX R S.length) ((K.getD i default).i,(K.getD i default).k)).getD default:=by
        rw[<-hE,List.getD_eq_getElem?_getD,List.getElem?_map,List.getElem?_eq_getElem cy,hg];rfl
       (conv=>whnf);repeat' ((first|(exfalso;omega)|(exact Bool.noConfusion (k1.symm.trans h))|((refine lh (id:=32) 10 [0,1,2,3,4,5,9] rfl rfl ?_;conv=>whnf))|refine st ?_|(refine⟨fun h=>?_,fun h=>?_⟩<;>try simp only[ae] at h)|refine wf ?_|refine az ?_|refine nn ?_|fail)<;>conv=>whnf)
       refine⟨i+1,cy,(by show K.length-(i+1)<K.length-i;omega),?_⟩;(conv=>whnf)
       repeat (first|exact fa|((first|refine fb ?_|(refine And.intro ?_ ?_;rotate_left));conv=>whnf))
       all_goals first
        | exact fun key=>Q6 K i cy key
        | exact fun key _=>Q7 hKn i cy key
        | exact .inl fun j hj=>No (fun j=>Gs (E.getD j default)) i _ (by show _=Gs (E.getD i default);rw[hEi];rfl) j hj
               
      ·have e:i=K.length:=by omega
       subst e;rw[List.take_length];(conv=>whnf);repeat' ((first|(exfalso;omega)|refine st ?_|(refine⟨fun h=>?_,fun h=>?_⟩<;>try simp only[ae] at h)|refine wf ?_|refine az ?_|refine nn ?_|fail)<;>conv=>whnf)
       refine mW 5 ?_;(conv=>whnf);refine EC 4 2 63 1 rfl rfl ?_;(conv=>whnf);refine ak (fun i:Nat=>i<=S.length) (fun i=>[(113,.int .i64 (i:Int))]) (fun i=>[.box 39 [.aV,.aV,.aV],.dead,.dead,.row 101 1 S.length fun j=>[vj (R j)],.box 39 [.sl N.length 26 fun i=>iS (N.getD i default),.own 6,.own 7],.dead,.row 67 5 K.length fun j=>Gs (E.getD j default),.row 63 1 i fun j=>[ke ((R j).map (nv K))]]) (fun i=>S.length-i) 0 (Nat.zero_le _) ?_ ?_
       ·exact ff
       ·intro i Zc;have Zc:i<=S.length:=Zc;rcases Nat.lt_or_ge i S.length with cy|cy
        ·have k6:=J0 (G:=G) (R i) K (Nat.le_trans (hR i cy) (by omega)) (hRK i cy);unfold ke at k6;(conv=>whnf);repeat' ((first|(exfalso;omega)|((refine lh (id:=37) 10 [0,1,2,3,4,5,6,9] rfl rfl ?_;conv=>whnf))|refine st ?_|(refine⟨fun h=>?_,fun h=>?_⟩<;>try simp only[ae] at h)|(refine .inl ?_;(conv=>whnf);refine⟨_,k6,?_⟩)|refine wf ?_|refine az ?_|refine nn ?_|fail)<;>conv=>whnf)
         refine⟨i+1,cy,(by show S.length-(i+1)<S.length-i;omega),?_⟩;(conv=>whnf)
         repeat (first|exact fa|((first|refine fb ?_|(refine And.intro ?_ ?_;rotate_left));conv=>whnf))
         all_goals first
          | exact .inl fun j hj=>No (fun j=>[ke ((R j).map (nv K))]) i _ rfl j hj
                   
        ·have e:i=S.length:=by omega
         subst e;(conv=>whnf);repeat' ((first|(exfalso;omega)|refine st ?_|(refine⟨fun h=>?_,fun h=>?_⟩<;>try simp only[ae] at h)|refine wf ?_|refine az ?_|refine nn ?_|fail)<;>conv=>whnf)
         repeat (first|exact fa|((first|refine fb ?_|(refine And.intro ?_ ?_;rotate_left));conv=>whnf))
         all_goals first|exact SK.symm|exact .inl fun _ _=>rfl
theorem Q8{l:List RS}(h:∀r∈l,Rk r)(i:Nat):Rk (l.getD i default):=by
 rw[List.getD_eq_getElem?_getD];by_cases hi:i<l.length
 ·rw[List.getElem?_eq_getElem hi];exact h _ (List.getElem_mem hi)
 ·rw[List.getElem?_eq_none (by omega)];exact⟨by decide,by decide,by decide⟩
def J1{α:Type}(p:α->Bool)(l:List α):Int:=match l.findIdx? p with
 | some i=>(i:Int)
 | none=>-1
theorem ED{α:Type}[Inhabited α](p:α->Bool)(l:List α)(i:Nat)(hi:i<l.length)(h:p (l.getD i default)=true)(h0:∀j,j<i->p (l.getD j default)=false):J1 p l=(i:Int):=by
 unfold J1
 have:l.findIdx? p=some i:=by
  rw[List.findIdx?_eq_some_iff_getElem];refine⟨hi,?_,fun j hj=>?_⟩
  ·rw[List.getD_eq_getElem?_getD,List.getElem?_eq_getElem hi] at h;exact h
  ·have:=h0 j hj;rw[List.getD_eq_getElem?_getD,List.getElem?_eq_getElem (by omega)] at this;rw[show l[j]=(some l[j]).getD default from rfl,this];exact Bool.false_ne_true
 rw[this]
theorem Np{α:Type}[Inhabited α](p:α->Bool)(l:List α)(h0:∀j,j<l.length->p (l.getD j default)=false):J1 p l = -1:=by
 unfold J1
 have:l.findIdx? p=none:=by
  rw[List.findIdx?_eq_none_iff];intro x hx;obtain⟨j,hj,rfl⟩:=List.getElem_of_mem hx;have:=h0 j hj;rw[List.getD_eq_getElem?_getD,List.getElem?_eq_getElem hj] at this;exact this
 rw[this]
abbrev Uk(N:List RS)(r:RS):Int:=J1 (fun x=>decide (x=r)) N
theorem EE(N:List RS)(r:RS)(hN:∀x∈N,Rk x)(hr:Rk r)(hl:N.length<=1000000):aa Tryz.prog G 22 [dX N,.agg (iS r)] (.int .i64 (Uk N r)):=by
 refine aa.ah al Tryz.func22 rfl rfl _ rfl ?_;(conv=>whnf);repeat' ((first|refine st ?_|(refine⟨fun h=>?_,fun h=>?_⟩<;>try simp only[ae] at h)|refine wf ?_|refine az ?_|refine nn ?_|fail)<;>conv=>whnf)
 refine ak (fun i:Nat=>i<=N.length/\∀j,j<i->decide (N.getD j default=r)=false) (fun i=>[(5,.int .i64 (i:Int))]) (fun _=>[.box 57 (iS r)]) (fun i=>N.length-i) 0 ⟨Nat.zero_le _,fun j h=>by omega⟩ ?_ ?_
 ·exact ff
 ·rintro i ⟨hi,hI⟩;have hi:i<=N.length:=hi;have key:=IU (Q8 hN i) hr;unfold iS fQ at *;(conv=>whnf);repeat' ((first|refine st ?_|(refine⟨fun h=>?_,fun h=>?_⟩<;>try simp only[ae] at h)|refine wf ?_|refine az ?_|refine nn ?_|fail)<;>conv=>whnf)
  ·exact(ED _ N i (by omega) (key.symm.trans h) hI).symm
  ·refine⟨i+1,⟨by omega,fun j hj=>by
    by_cases q:j=i
    ·rw[q];exact key.symm.trans h
    ·exact hI j (by omega)⟩,(by show N.length-(i+1)<N.length-i;omega),?_⟩
   exact ff
  ·exact(Np _ N fun j hj=>hI j (by omega)).symm
/-- An edge put in its place. -/
theorem J2(l:List Ed)(e:Ed)(k:Nat):(List.range (k+1)).foldl (fun n i=>if nG (l.getD i default).key e.key then i+1 else n) 0=if nG (l.getD k default).key e.key then k+1 else (List.range k).foldl (fun n i=>if nG (l.getD i default).key e.key then i+1 else n) 0:=by
 rw[List.range_succ,List.foldl_append];rfl
def zJ(l:List Ed)(e:Ed)(k:Nat):Nat:=(List.range k).foldl (fun n i=>if nG (l.getD i default).key e.key then i+1 else n) 0
theorem pU(l:List Ed)(e:Ed):∀k,zJ l e k<=k
 | 0=>Nat.le_refl _
 | k+1=>by
  have:=pU l e k;unfold zJ at *;rw[J2];split<;>omega
end Go.Proofs.YtijddijloelacaaGreat
namespace Go.Proofs.YtijddijloelacaaGreat
open Go.Proofs.YtijddijloelacaaGreat.Am Go.Sort Go.Proofs Go.Lib Go.NetL
theorem Ul(r:Rn):r.lo<=r.hi:=by unfold Rn.lo Rn.hi;split<;>split<;>omega
theorem Ak(l:List Ed)(e x:Ed)(h:x∈xr l e):x=e\/x∈l:=by
 unfold xr at h;rcases List.mem_append.1 h with h|h
 ·exact .inr (List.mem_of_mem_take h)
 ·rcases List.mem_cons.1 h with h|h
  ·exact .inl h
  ·exact .inr (List.mem_of_mem_drop h)
theorem J3(l:List Ed)(e:Ed):(xr l e).length=l.length+1:=by
 letI:Inhabited cc:=⟨⟨False⟩⟩
 have ha:Q2 l e<=l.length:=pU l e l.length;unfold xr;rw[List.length_append,List.length_cons,List.length_take,List.length_drop];omega
theorem Q9(l:List Ed)(r:Rn)(h:∀e∈l,e.a<=e.b):(∀e∈By l r,e.a<=e.b)/\(By l r).length<=l.length+1:=by
 unfold By;split
 ·refine⟨fun e he=>?_,Nat.le_of_eq (J3 _ _)⟩;rcases Ak _ _ _ he with rfl|he
  ·exact Ul r
  ·exact h e he
 ·rename_i i hi;obtain⟨h1,h2⟩:=xu hi;refine⟨fun e he=>?_,by rw[List.length_set];omega⟩;rcases List.mem_or_eq_of_mem_set he with he|rfl
  ·exact h e he
  ·rw[oV h1];exact h l[i] (List.getElem_mem h1)
theorem Um(l:List Rn):(∀e∈ER l,e.a<=e.b)/\(ER l).length<=l.length:=by
 have key:∀(rs:List Rn) (L:List Ed),(∀e∈L,e.a<=e.b)->(∀e∈rs.foldl By L,e.a<=e.b)/\(rs.foldl By L).length<=L.length+rs.length:=fun rs=>by
  induction rs with
  | nil=>intro L h;exact⟨h,Nat.le_refl _⟩
  | cons r rs ih =>
   intro L h;obtain⟨a,b⟩:=Q9 L r h;obtain⟨c,d⟩:=ih (By L r) a;exact⟨c,by rw[List.length_cons];simp only[List.foldl_cons];omega⟩
 have:=key l [] (fun e h=>by cases h);exact⟨this.1,by have h:=this.2;rw[List.length_nil,Nat.zero_add] at h;exact h⟩
/-- What a run alone makes. -/
theorem J4(r:Rn)(h:r.a≠r.b):tY none r=if r.b<r.a then ⟨r.b,r.a,r.w,!r.ow,true⟩ else ⟨r.a,r.b,r.w,true,!r.ow⟩:=by
 unfold tY Rn.lo Rn.hi Rn.fw;by_cases c:r.b<r.a
 ·have c':¬r.a<r.b:=by omega
  simp[c,c']
 ·have c':r.a<r.b:=by omega
  simp[c,c']
theorem J5(e:Ed)(r:Rn):tY (some e) r=⟨e.a,e.b,if r.w<e.w then r.w else e.w,e.f||(tY none r).f,e.k||(tY none r).k⟩:=by
 simp[tY,Bool.or_assoc]
end Go.Proofs.YtijddijloelacaaGreat
namespace Go.Proofs.YtijddijloelacaaGreat
open Go.Proofs.YtijddijloelacaaGreat.Am Go.Sort Go.Proofs Go.Lib Go.NetL
variable [Inhabited cc]
variable {G:aG}
end Go.Proofs.YtijddijloelacaaGreat
namespace Go.Proofs.YtijddijloelacaaGreat
open Go.Proofs.YtijddijloelacaaGreat.Am Go.Sort Go.Proofs Go.Lib Go.NetL
variable [Inhabited cc]
theorem fq{α:Type}[Inhabited α]{L:List α}{i:Nat}(h:i<L.length):L.getD i default=L[i]:=by rw[List.getD_eq_getElem?_getD,List.getElem?_eq_getElem h];rfl
def FS(l:List Sg)(i:Nat):List Cu:=iM (l.getD i default) l i l.length
theorem Un(l:List Sg):∀i,i<l.length->FS l i=SD l i:=fun i hi=>(of_eq l i hi).symm
theorem nb(l:List Sg)(i:Nat):(FS l i).Pairwise jP/\∀c∈FS l i,zT (l.getD i default) c:=⟨(eO _ l i l.length).1,(eO _ l i l.length).2.1⟩
theorem tZ(l:List Sg)(i:Nat):(FS l i).getD 0 default=np (l.getD i default) 0 1:=by
 obtain⟨h1,_,h3⟩:=eO (l.getD i default) l i l.length;exact Gl h1 ((h3 _).2 (.inl (by simp[fk])))
theorem CH(l:List Sg)(i:Nat):(FS l i).getD ((FS l i).length-1) default=np (l.getD i default) 1 1:=by
 obtain⟨h1,_,h3⟩:=eO (l.getD i default) l i l.length;exact Jx h1 ((h3 _).2 (.inl (by simp[fk])))
theorem ua(l:List Sg)(i:Nat):2<=(FS l i).length:=by
 have h1:=tZ l i;have h2:=CH l i;refine Classical.byContradiction fun hn=>?_;rw[show(FS l i).length-1=0 by omega,h1] at h2;have:=Es (l.getD i default);rw[h2] at this;exact xj _ this
theorem xv(l:List Sg)(i:Nat):(FS l i).length<=2+2*l.length:=z8 _ l i l.length
theorem mD{l:List Sg}(h:yv l){i:Nat}(hi:i<l.length){c:Cu}(hc:c∈FS l i):eC (nr c)/\iS (nr c)=zM c.1:=CA (h i hi) ((nb l i).2 c hc)
theorem Uo{l:List Sg}(h:yv l){i:Nat}(hi:i<l.length){k:Nat}(hk:k+1<(FS l i).length):nr ((FS l i).getD k default)≠nr ((FS l i).getD (k+1) default):=by
 intro e;obtain⟨h1,h2⟩:=nb l i;have m1:=List.getElem_mem (show k<(FS l i).length by omega);have m2:=List.getElem_mem hk;rw[gw (by omega),gw hk] at e;have:=Na (h i hi) (h2 _ m1) (h2 _ m2) e;have aD:=List.pairwise_iff_getElem.1 h1 k (k+1) (by omega) hk (by omega);rw[this] at aD;exact xj _ aD
theorem Up:b9 0 1=0:=of_decide_eq_true (by kernel_rfl)
theorem Uq:b9 1 1=aW 1 1:=of_decide_eq_true (by kernel_rfl)
theorem CI(l:List Sg)(hl:l.length<=900)(i:Nat):SE ((FS l i).map oU):=by
 have h2:=ua l i;have h3:=xv l i;have hlen:((FS l i).map oU).length=(FS l i).length:=List.length_map ..
 have hg:∀k,k<(FS l i).length->((FS l i).map oU).getD k default=oU ((FS l i).getD k default):=fun k hk=>by
  rw[List.getD_eq_getElem?_getD,List.getD_eq_getElem?_getD,List.getElem?_map,List.getElem?_eq_getElem hk];rfl
 have hs:((FS l i).map oU).Pairwise QZ:=Gr (nb l i).1;refine⟨by omega,by omega,fun k hk=>?_,fun k h0 hk=>?_,?_,?_⟩
 ·rw[hlen] at hk;obtain⟨n,d,hd,e⟩:=(nb l i).2 _ (List.getElem_mem hk);rw[<-gw hk] at e;obtain⟨a,b,c,d'⟩:=jN n d hd;rw[hg k hk,e,JN hd];exact⟨⟨c,a,b⟩,d'⟩
 ·have h:=List.pairwise_iff_getElem.1 hs (k-1) k (by omega) hk (by omega);unfold QZ at h;rw[<-fq,<-fq] at h;exact Nat.lt_asymm h
 ·rw[hg 0 (by omega),tZ,JN (by decide)];exact Up
 ·rw[hlen,hg _ (by omega),CH,JN (by decide)];exact Uq
/-- The nodes. -/
def cJ(L:List Sg):List RS:=if h:∀r∈nF (FS L) L.length,eC r then kZ (dm (gu (nF (FS L) L.length) h)) else []
theorem J6{F:Nat->List Cu}{n:Nat}{r:RS}:r∈nF F n↔∃i,i<n/\∃c,c∈F i/\nr c=r:=by
 unfold nF;simp only[List.mem_flatMap,List.mem_range,List.mem_map]
theorem qc{l:List Sg}(h:yv l):∀r∈nF (FS l) l.length,eC r:=fun r hr=>by
 obtain⟨i,hi,c,hc,rfl⟩:=J6.1 hr;exact(mD h hi hc).1
theorem mE{l:List Sg}(h:yv l):cJ l=kZ (dm (gu (nF (FS l) l.length) (qc h))):=dif_pos (qc h)
theorem vR{l:List Sg}(h:yv l){r:RS}:r∈cJ l↔r∈nF (FS l) l.length:=by
 rw[mE h];unfold kZ;rw[List.mem_map];have hp:=fun x=>(fE (gu (nF (FS l) l.length) (qc h)) [] List.Pairwise.nil).2 x;constructor
 ·rintro⟨x,hx,rfl⟩;rcases (hp x).1 hx with h0|h0
  ·cases h0
  ·unfold gu at h0;obtain⟨a,ha,e⟩:=List.mem_pmap.1 h0;rw[<-e];exact ha
 ·intro hr;exact⟨⟨r,qc h r hr⟩,(hp _).2 (.inr (List.mem_pmap.2 ⟨r,hr,rfl⟩)),rfl⟩
theorem Gu{l:List Sg}(h:yv l):(cJ l).Pairwise fun a b=>gI a b<0:=by
 rw[mE h];unfold kZ;rw[List.pairwise_map];exact(fE _ [] List.Pairwise.nil).1
theorem qd{l:List Sg}(h:yv l):∀r∈cJ l,eC r:=fun r hr=>qc h r ((vR h).1 hr)
theorem qe{l:List Sg}(h:yv l):((cJ l).map xo).Nodup:=by rw[mE h];exact Ag _ _
theorem Al{l:List Sg}(h:yv l):(cJ l).length<=(2+2*l.length)*l.length:=by
 rw[mE h];exact vP _ _ (tX _ _ _ fun j _=>xv l j)
theorem oX{l:List Sg}(h:yv l){i:Nat}(hi:i<l.length){c:Cu}(hc:c∈FS l i):nr c∈cJ l:=(vR h).2 (J6.2 ⟨i,hi,c,hc,rfl⟩)
/-- A cut's place among the nodes, in either way. -/
theorem J7{N:List RS}(hn:(N.map xo).Nodup){c:Cu}(hc:iS (nr c)=zM c.1)(hm:nr c∈N):∃j,j<N.length/\N.getD j default=nr c/\Uh N c=(j:Int)/\Uk N (nr c)=(j:Int):=by
 obtain⟨j,hj,e⟩:=List.getElem_of_mem hm;refine⟨j,hj,by rw[fq hj,e],?_,?_⟩
 ·unfold Uh;rw[JS hc,<-e];have:=CB hn (k:=j) (by simpa using hj);rw[List.getElem_map] at this;rw[this]
 ·refine ED _ N j hj (by rw[fq hj,e];exact decide_eq_true rfl) fun k hk=>decide_eq_false fun q=>?_;rw[fq (by omega)] at q;have h2:=List.pairwise_iff_getElem.1 (List.nodup_iff_pairwise_ne.1 hn) k j (by rw[List.length_map];omega) (by rw[List.length_map];exact hj) hk;rw[List.getElem_map,List.getElem_map,q,e] at h2;exact h2 rfl
def CJ(S:List Sp):Prop:=∀s∈S,bJ s.s/\0<=s.w/\s.w<=2147483648
theorem CL{l:List Rd}(h:jd l=0):CJ (LF l):=by
 obtain⟨_,h2,_,_⟩:=xn h
 have key:∀k,k<=l.length->CJ (j8 l k):=by
  intro k
  induction k with
  | zero=>intro _ s hs;cases hs
  | succ k ih =>
   intro hk s hs;unfold j8 at hs;rcases List.mem_append.1 hs with hs|hs
   ·exact ih (by omega) s hs
   ·unfold Cy at hs;obtain⟨i,hi,rfl⟩:=List.mem_map.1 hs;rw[List.mem_range] at hi;obtain⟨⟨s1,s2,s3,s4,s5⟩,q1,q2,q3⟩:=p9 (h2 k (by omega));have q:=q3 i hi;unfold tU at q;refine⟨⟨q1 i (by omega),q1 (i+1) (by omega),fun e=>q2 ⟨i+1,by omega,by omega,?_⟩⟩,?_,?_⟩
    ·exact(QY.1 e).symm
    ·show 0<=(l.getD k default).ws.getD i 0;omega
    ·show(l.getD k default).ws.getD i 0<=2147483648;omega
 exact key l.length (Nat.le_refl _)
abbrev dR(S:List Sp):List Sg:=S.map (·.s)
theorem vS{S:List Sp}(h:CJ S){i:Nat}(hi:i<S.length):bJ (S.getD i default).s/\0<=(S.getD i default).w/\(S.getD i default).w<=2147483648:=by
 rw[fq hi];exact h _ (List.getElem_mem hi)
theorem CM{S:List Sp}{i:Nat}(hi:i<S.length):(dR S).getD i default=(S.getD i default).s:=by
 rw[List.getD_eq_getElem?_getD,List.getD_eq_getElem?_getD,List.getElem?_map,List.getElem?_eq_getElem hi];rfl
theorem je{S:List Sp}(h:CJ S):yv (dR S):=fun i hi=>by
 rw[List.length_map] at hi;rw[CM hi];exact(vS h hi).1
theorem Ra{S:List Sp}(h:CJ S)(hn:S.length<=400):wX (dR S)=0:=by
 unfold wX;rw[if_neg (by rw[List.length_map];omega),if_pos (je h)]
theorem J8{w n d n' d':Int}(hd:1<=d)(gk:1<=d')(h:¬n'.toNat*d.toNat<n.toNat*d'.toNat):tV w n d<=tV w n' d':=by
 unfold tV;have h:=Nat.le_of_not_lt h;refine Int.ofNat_le.2 ?_;rw[Nat.le_div_iff_mul_le (by omega)];refine Nat.le_of_mul_le_mul_right (c:=d.toNat) ?_ (by omega);have h1:=Nat.div_mul_le_self (w.toNat*n.toNat) d.toNat;have e1:w.toNat*n.toNat/d.toNat*d'.toNat*d.toNat=w.toNat*n.toNat/d.toNat*d.toNat*d'.toNat:=by rw[Nat.mul_right_comm]
 have e2:w.toNat*n.toNat*d'.toNat=w.toNat*(n.toNat*d'.toNat):=Nat.mul_assoc ..;have e3:w.toNat*n'.toNat*d.toNat=w.toNat*(n'.toNat*d.toNat):=Nat.mul_assoc ..;have k1:w.toNat*n.toNat/d.toNat*d.toNat*d'.toNat<=w.toNat*n.toNat*d'.toNat:=Nat.mul_le_mul h1 (Nat.le_refl _);have k2:w.toNat*(n.toNat*d'.toNat)<=w.toNat*(n'.toNat*d.toNat):=Nat.mul_le_mul (Nat.le_refl _) h;rw[e1,e3];exact Nat.le_trans k1 (by rw[e2];exact k2)
theorem J9{w:Int}{L:List Qp}(hw:0<=w/\w<=2147483648)(hP:SE L){k:Nat}(hk:k<L.length-1):0<=(gR w L).getD k 0/\(gR w L).getD k 0<=2147483648:=by
 rw[Cz w L hk];have a:=hP.ok k (by omega);have b:=hP.ok (k+1) (by omega);have c:=hP.up (k+1) (by omega) (by omega);rw[Nat.add_sub_cancel] at c;have m:=J8 (w:=w) a.1.1 b.1.1 c;have x:=tW a.1 hw.1;have y:=tW b.1 hw.1;omega
def bu(S:List Sp)(i:Nat):List Rn:=O9 (S.getD i default) (FS (dR S) i) (cJ (dR S))
theorem iw(S:List Sp)(i:Nat):(bu S i).length=(FS (dR S) i).length-1:=na _ _ _ _
theorem EF{S:List Sp}{i k:Nat}(hk:k<(bu S i).length):(bu S i).getD k default=Ui (S.getD i default) (FS (dR S) i) (cJ (dR S)) k:=by
 have gv:k<(FS (dR S) i).length-1:=by rw[<-iw];exact hk
 show(nH _ _ _ _).getD k default=_;unfold nH;rw[List.getD_eq_getElem?_getD,List.getElem?_map,List.getElem?_range gv];rfl
def Ao(n:Nat)(r:Rn):Prop:=0<=r.a/\r.a<n/\0<=r.b/\r.b<n/\r.a≠r.b/\0<=r.w/\r.w<=2147483648
theorem EG{S:List Sp}(h:CJ S)(hn:S.length<=900){i:Nat}(hi:i<S.length):∀r∈bu S i,Ao (cJ (dR S)).length r:=by
 intro r hr;obtain⟨k,hk,rfl⟩:=List.getElem_of_mem hr;rw[<-fq hk,EF hk];have hl:=iw S i;have hO:=je h;have bV:i<(dR S).length:=by rw[List.length_map];exact hi
 have m1:=List.getElem_mem (show k<(FS (dR S) i).length by omega);have m2:=List.getElem_mem (show k+1<(FS (dR S) i).length by omega);rw[<-gw] at m1 m2;obtain⟨j1,a1,b1,c1,_⟩:=J7 (qe hO) (mD hO bV m1).2 (oX hO bV m1);obtain⟨j2,a2,b2,c2,_⟩:=J7 (qe hO) (mD hO bV m2).2 (oX hO bV m2);have hne:=Uo hO bV (show k+1<(FS (dR S) i).length by omega);have hw:=J9 (vS h hi).2 (CI (dR S) (by rw[List.length_map];exact hn) i) (k:=k) (by rw[List.length_map];omega);unfold Ui Ao;simp only[c1,c2];refine⟨by omega,by omega,by omega,by omega,fun e=>?_,hw⟩;have:j1=j2:=by omega
 subst this;exact hne (b1.symm.trans b2)
def vk(n:Nat)(e:Ed):Prop:=0<=e.a/\e.a<e.b/\e.b<n/\0<=e.w/\e.w<=2147483648/\(e.f=true\/e.k=true)
theorem Nq{n:Nat}{r:Rn}(h:Ao n r):vk n (tY none r):=by
 obtain⟨h1,h2,h3,h4,h5,h6,h7⟩:=h;rw[J4 r h5];split
 ·exact⟨h3,by assumption,h2,h6,h7,.inr rfl⟩
 ·exact⟨h1,by show r.a<r.b;omega,h4,h6,h7,.inl rfl⟩
theorem Nr{n:Nat}{r:Rn}{e:Ed}(h:Ao n r)(he:vk n e):vk n (tY (some e) r):=by
 obtain⟨h1,h2,h3,h4,h5,h6,h7⟩:=h;obtain⟨e1,e2,e3,e4,e5,e6⟩:=he;rw[J5];refine⟨e1,e2,e3,?_,?_,?_⟩
 ·show 0<=if r.w<e.w then r.w else e.w
  split<;>assumption
 ·show(if r.w<e.w then r.w else e.w)<=2147483648;split<;>assumption
 ·rcases e6 with q|q
  ·exact .inl (by simp[q])
  ·exact .inr (by simp[q])
theorem Ns{n:Nat}{l:List Ed}{r:Rn}(h:∀e∈l,vk n e)(hr:Ao n r):∀e∈By l r,vk n e:=by
 unfold By;split
 ·intro e he;rcases Ak _ _ _ he with rfl|he
  ·exact Nq hr
  ·exact h e he
 ·rename_i i hi;obtain⟨h1,h2⟩:=xu hi;intro e he;rcases List.mem_or_eq_of_mem_set he with he|rfl
  ·exact h e he
  ·rw[oV h1];exact Nr hr (h _ (List.getElem_mem h1))
theorem Rb{n:Nat}:∀(rs:List Rn),(∀r∈rs,Ao n r)->∀e∈ER rs,vk n e:=by
 have key:∀(rs:List Rn) (L:List Ed),(∀e∈L,vk n e)->(∀r∈rs,Ao n r)->∀e∈rs.foldl By L,vk n e:=fun rs=>by
  induction rs with
  | nil=>intro L h _;exact h
  | cons r rs ih =>
   intro L h hr;exact ih (By L r) (Ns h (hr r (by simp))) fun x hx=>hr x (by simp[hx])
 exact fun rs h=>key rs [] (fun e he=>by cases he) h
theorem fF{R:Nat->List Rn}{n:Nat}{r:Rn}:r∈cX R n↔∃i,i<n/\r∈R i:=by
 unfold cX;simp only[List.mem_flatMap,List.mem_range]
theorem Ap(R:Nat->List Rn)(B:Nat):∀n,(∀j,j<n->(R j).length<=B)->(cX R n).length<=B*n
 | 0,_=>by simp[cX]
 | n+1,h=>by
  rw[qb,List.length_append];have:=Ap R B n fun j hj=>h j (by omega);have:=h n (by omega);rw[Nat.mul_succ];omega
def cQ(S:List Sp):List Rn:=cX (bu S) S.length
def aK(S:List Sp):List Ed:=ER (cQ S)
def bT(S:List Sp):List Pr:=(aK S).map fun e=>⟨e.a,e.b⟩
def gx(S:List Sp)(i:Nat):List Pc:=(bu S i).map (nv (bT S))
theorem oY{S:List Sp}(h:CJ S)(hn:S.length<=900):∀r∈cQ S,Ao (cJ (dR S)).length r:=fun r hr=>by
 obtain⟨i,hi,hr⟩:=fF.1 hr;exact EG h hn hi r hr
theorem Gw{S:List Sp}(h:CJ S)(hn:S.length<=900):∀e∈aK S,vk (cJ (dR S)).length e:=Rb _ (oY h hn)
theorem qf(S:List Sp):(bT S).Pairwise iH:=by
 have h:=(vQ (cQ S)).1;unfold nu at h;unfold bT;rw[List.pairwise_map] at h ⊢;exact h.imp fun {a b} q=>by unfold nG Ed.key at q;unfold iH;exact q
theorem kg(S:List Sp)(a b:Int):(EM (cQ S) (a,b)).isSome=true↔(⟨a,b⟩:Pr)∈bT S:=by
 obtain⟨h1,h2⟩:=vQ (cQ S);rw[<-h2];unfold bT;rw[List.mem_map];constructor
 ·intro h;obtain⟨e,he⟩:=Option.isSome_iff_exists.1 h;obtain⟨m,k⟩:=(dG h1).1 he;unfold Ed.key at k;rw[Prod.mk.injEq] at k;exact⟨e,m,by rw[k.1,k.2]⟩
 ·rintro⟨e,m,k⟩;rw[Pr.mk.injEq] at k;rw[(dG h1).2 ⟨m,(show e.key=(a,b) by unfold Ed.key;rw[k.1,k.2])⟩];rfl
theorem CN(S:List Sp):((bT S).map fun k=>(EM (cQ S) (k.i,k.k)).getD default)=aK S:=by
 obtain⟨h1,h2⟩:=vQ (cQ S);unfold bT;rw[List.map_map];refine List.ext_getElem (by simp) fun j q1 q2=>?_;rw[List.getElem_map];have:Ah (aK S) (aK S)[j].key=some (aK S)[j]:=(dG h1).2 ⟨List.getElem_mem q2,rfl⟩;unfold aK at this;rw[h2] at this;show(EM (cQ S) (aK S)[j].key).getD default=_;unfold aK;rw[this];rfl
theorem nR{S:List Sp}{i:Nat}(hi:i<S.length){r:Rn}(hr:r∈bu S i):(EM (cQ S) (r.lo,r.hi)).isSome=true:=by
 have key:∀(rs:List Rn) (M:Ez),(∀k,(M k).isSome=true->((rs.foldl NetL.stM M) k).isSome=true)/\∀r∈rs,((rs.foldl NetL.stM M) (r.lo,r.hi)).isSome=true:=fun rs=>by
  induction rs with
  | nil=>exact fun M=>⟨fun k h=>h,fun r hr=>by cases hr⟩
  | cons x rs ih =>
   intro M;obtain⟨a,b⟩:=ih (NetL.stM M x)
   have hx:∀k,(M k).isSome=true->(NetL.stM M x k).isSome=true:=fun k h=>by
    unfold NetL.stM;split
    ·rfl
    ·exact h
   refine⟨fun k h=>a k (hx k h),fun r hr=>?_⟩;rcases List.mem_cons.1 hr with rfl|hr
   ·exact a _ (by unfold NetL.stM;rw[if_pos rfl];rfl)
   ·exact b r hr
 exact(key (cQ S) _).2 r (fF.2 ⟨i,hi,hr⟩)
theorem kh(S:List Sp):(bT S).length=(aK S).length:=List.length_map ..
theorem J'(S:List Sp):((bT S).map kP).Nodup:=by
 rw[List.nodup_iff_pairwise_ne,List.pairwise_map];refine(qf S).imp fun {a b} h e=>?_;unfold kP at e;simp only[List.cons.injEq,KC.int.injEq,and_true] at e;unfold iH at h;omega
end Go.Proofs.YtijddijloelacaaGreat
namespace Go.Proofs.YtijddijloelacaaGreat
open Go.Proofs.YtijddijloelacaaGreat.Am Go.Sort Go.Proofs Go.Lib Go.NetL
variable [Inhabited cc]
variable {G:aG}
/-- The slots from n on, k of them, said nothing of. -/
def VF:Nat->Nat->List A->List A
 | _,_,[]=>[]
 | 0,0,s=>s
 | 0,k+1,_::s=>.af::VF 0 k s
 | n+1,k,x::s=>x::VF n k s
theorem atR{P:Program}{Q:Exit->List A->List aq->Prop}{s:List A}{m:List aq}(id:Nat){l:Array Oper}{d:Bool}(h:WA P G (.region id l d) Q s m):WA P G (.region id l d) Q s m:=h
theorem EH{P:Program}{Q:Exit->List A->List aq->Prop}{s:List A}{m:List aq}{code:Code}(h:∀Q',Q'=Q->WA P G code Q' s m):WA P G code Q s m:=h Q rfl
@[irreducible] def Ka (p:Prop):Prop:=p
theorem EI{p:Prop}(h:p):Ka p:=by unfold Ka;exact h
theorem Kb{p:Prop}(h:Ka p):p:=by unfold Ka at h;exact h
theorem sO{P:Program}{Q:Exit->List A->List aq->Prop}{s:List A}{m:List aq}{id:Nat}{l:Array Oper}{d:Bool}(n k:Nat)(ov:List (Nat×A))(M:List aq)
  (h0:Ka (fl (SL ov (VF n k s)) fun s'=>rQ s m s' M)) (h:fl (SL ov (VF n k s)) fun s'=>WA P G (.region id l d) Q s' M):WA P G (.region id l d) Q s m:=by
 have h0:=Kb h0;rw[ck] at h0 h;exact qg (jg h0) h
structure JT (T:Prop):Type where
 out:T
/-- A walk whose rest is named by what is left. -/
structure JP (R:Prop) where
 T:Prop
 main:JT T->R
def mkJ{R T:Prop}(main:JT T->R):JP R:=⟨T,main⟩
theorem Re{P:Program}{c:Code}{Q:Exit->List A->List aq->Prop}{s:List A}{m:List aq}(h:WA P G c Q s m):WA P G c Q s m:=h
/-- The same with a rest for each round, and one behind the loop. -/
structure JQ (D:Nat->Nat->Prop) (R:Prop) where
 T:Nat->Nat->Prop
 U:Prop
 main:(∀i k,D i k->JT (T i k))->JT U->R
def mkQ{D:Nat->Nat->Prop}{R U:Prop}{T:Nat->Nat->Prop}(main:(∀i k,D i k->JT (T i k))->JT U->R):JQ D R:=⟨T,U,main⟩
end Go.Proofs.YtijddijloelacaaGreat
namespace Go.Proofs.YtijddijloelacaaGreat
open Go.Proofs.YtijddijloelacaaGreat.Am Go.Sort Go.Proofs Go.Lib Go.NetL
variable [Inhabited cc]
/-- What is known of the edge of a key behind some runs. -/
def Ur(l:List Rn)(k:Int×Int):Option Ed->Prop
 | none=>∀r∈l,(r.lo,r.hi)≠k
 | some e=>(∀r∈l,(r.lo,r.hi)=k->e.w<=r.w/\((r.fw || !r.ow)=true->e.f=true)/\((!r.fw || !r.ow)=true->e.k=true))/\∃r,r∈l/\(r.lo,r.hi)=k/\e.w=r.w
theorem Nt(l:List Rn)(M:Ez)(r:Rn)(h:∀k,Ur l k (M k)):∀k,Ur (l++[r]) k (NetL.stM M r k):=by
 intro k;unfold NetL.stM;have hk:=h k;by_cases c:k=(r.lo,r.hi)
 ·rw[if_pos c];cases hM:M k with
  | none =>
   rw[hM] at hk;refine⟨fun x hx SM=>?_,r,by simp,c.symm,rfl⟩;rcases List.mem_append.1 hx with hx|hx
   ·exact absurd SM (hk x hx)
   ·rw[List.mem_singleton] at hx;subst hx;exact⟨Int.le_refl _,fun q=>q,fun q=>q⟩
  | some e =>
   rw[hM] at hk;obtain⟨a,x0,b1,b2,b3⟩:=hk;refine⟨fun x hx SM=>?_,?_⟩
   ·show(if r.w<e.w then r.w else e.w)<=x.w/\((x.fw || !x.ow)=true->(e.f||r.fw || !r.ow)=true)/\((!x.fw || !x.ow)=true->(e.k || !r.fw || !r.ow)=true);rcases List.mem_append.1 hx with hx|hx
    ·obtain⟨p,q,s⟩:=a x hx SM;exact⟨by split<;>omega,fun t=>by rw[q t];rfl,fun t=>by rw[s t];rfl⟩
    ·rw[List.mem_singleton] at hx;subst hx;exact⟨by split<;>omega,fun t=>by rw[Bool.or_assoc,t,Bool.or_true],fun t=>by rw[Bool.or_assoc,t,Bool.or_true]⟩
   ·by_cases w:r.w<e.w
    ·exact⟨r,by simp,c.symm,by show(if r.w<e.w then r.w else e.w)=_;rw[if_pos w]⟩
    ·exact⟨x0,List.mem_append_left _ b1,b2,by show(if r.w<e.w then r.w else e.w)=_;rw[if_neg w];exact b3⟩
 ·rw[if_neg c];cases hM:M k with
  | none =>
   rw[hM] at hk;intro x hx;rcases List.mem_append.1 hx with hx|hx
   ·exact hk x hx
   ·rw[List.mem_singleton] at hx;subst hx;exact fun q=>c q.symm
  | some e =>
   rw[hM] at hk;obtain⟨a,x0,b1,b2⟩:=hk;refine⟨fun x hx SM=>?_,x0,List.mem_append_left _ b1,b2⟩;rcases List.mem_append.1 hx with hx|hx
   ·exact a x hx SM
   ·rw[List.mem_singleton] at hx;subst hx;exact absurd SM.symm c
theorem Kc(l:List Rn):∀k,Ur l k (EM l k):=by
 have key:∀(rs l:List Rn) (M:Ez),(∀k,Ur l k (M k))->∀k,Ur (l++rs) k (rs.foldl NetL.stM M k):=fun rs=>by
  induction rs with
  | nil=>intro l M h k;rw[List.append_nil];exact h k
  | cons r rs ih =>
   intro l M h k;have:=ih (l++[r]) (NetL.stM M r) (Nt l M r h) k;rw[List.append_assoc] at this;exact this
 exact key l [] _ fun k r hr=>by cases hr
/-- The least weight so far; -1: none. -/
def wo:Option Ed->Int
 | none=>-1
 | some e=>e.w
theorem xw(l:List Rn)(r:Rn)(k:Int×Int)(h:∀x∈l,0<=x.w):wo (EM (l++[r]) k)=if k=(r.lo,r.hi) then (if wo (EM l k)<0\/r.w<wo (EM l k) then r.w else wo (EM l k)) else wo (EM l k):=by
 rw[EB];unfold NetL.stM;by_cases c:k=(r.lo,r.hi)
 ·rw[if_pos c,if_pos c];have hk:=Kc l k;cases hM:EM l k with
  | none=>exact(if_pos (.inl (by decide))).symm
  | some e =>
   rw[hM] at hk;obtain⟨_,x0,b1,_,b3⟩:=hk;have:=h x0 b1;show(if r.w<e.w then r.w else e.w)=if e.w<0\/r.w<e.w then r.w else e.w
   by_cases w:r.w<e.w
   ·rw[if_pos w,if_pos (.inr w)]
   ·rw[if_neg w,if_neg (by omega)]
 ·rw[if_neg c,if_neg c]
/-- A run's edge. -/
theorem xx{S:List Sp}{r:Rn}(hr:r∈cQ S):(nv (bT S) r).e<(aK S).length/\((aK S).getD (nv (bT S) r).e default).a=r.lo/\((aK S).getD (nv (bT S) r).e default).b=r.hi /\
  ((aK S).getD (nv (bT S) r).e default).w<=r.w/\((r.fw || !r.ow)=true->((aK S).getD (nv (bT S) r).e default).f=true)/\((!r.fw || !r.ow)=true->((aK S).getD (nv (bT S) r).e default).k=true):=by
 obtain⟨i,hi,hri⟩:=fF.1 hr;have hk:=(kg S r.lo r.hi).1 (nR hi hri);have hm:[KC.int r.lo,.int r.hi]∈(bT S).map kP:=List.mem_map.2 ⟨_,hk,rfl⟩;have aD:=List.idxOf_lt_length_of_mem hm;have Nu:=List.getElem_idxOf aD;rw[List.length_map,kh] at aD;show((bT S).map kP).idxOf _<_/\_;have he:(nv (bT S) r).e=((bT S).map kP).idxOf [KC.int r.lo,.int r.hi]:=rfl;rw[he];generalize ((bT S).map kP).idxOf [KC.int r.lo,.int r.hi]=j at *;rw[List.getElem_map] at Nu;have hkj:(bT S)[j]'(by rw[kh];exact aD)=⟨(aK S)[j].a,(aK S)[j].b⟩:=by simp[bT]
 rw[hkj] at Nu;unfold kP at Nu;simp only[List.cons.injEq,KC.int.injEq,and_true] at Nu;obtain⟨h1,h2⟩:=vQ (cQ S);have Us:Ah (aK S) (r.lo,r.hi)=some (aK S)[j]:=(dG h1).2 ⟨List.getElem_mem aD,by unfold Ed.key;rw[Nu.1,Nu.2]⟩;have hE:EM (cQ S) (r.lo,r.hi)=some (aK S)[j]:=by rw[<-h2];exact Us
 have hP:=Kc (cQ S) (r.lo,r.hi);rw[hE] at hP;rw[fq aD];exact⟨aD,Nu.1,Nu.2,hP.1 r hr rfl⟩
theorem Nv(S:List Sp){j:Nat}(hj:j<(aK S).length):wo (EM (cQ S) (((aK S).getD j default).a,((aK S).getD j default).b))=((aK S).getD j default).w:=by
 obtain⟨h1,h2⟩:=vQ (cQ S);rw[fq hj,<-h2];have:Ah (ER (cQ S)) ((aK S)[j].a,(aK S)[j].b)=some (aK S)[j]:=(dG h1).2 ⟨List.getElem_mem hj,rfl⟩;rw[this];rfl
theorem Kd(S:List Sp){i j:Nat}(hi:i<(aK S).length)(hj:j<(aK S).length)(h:(((aK S).getD i default).a,((aK S).getD i default).b)=(((aK S).getD j default).a,((aK S).getD j default).b)):i=j:=by
 have h1:=(vQ (cQ S)).1;rw[Prod.mk.injEq] at h;rcases Nat.lt_trichotomy i j with q|q|q
 ·have:=CC h1 q hj;unfold nG Ed.key at this;simp only at this;unfold aK at h;omega
 ·exact q
 ·have:=CC h1 q hi;unfold nG Ed.key at this;simp only at this;unfold aK at h;omega
/-- The weights of a strip's pieces are its weight together. -/
def r9(l:List Int):Int:=l.foldl (· + ·) 0
theorem EJ(w:Int)(L:List Qp):∀k,k<=L.length-1->r9 ((gR w L).take k)=tV w (L.getD k default).1 (L.getD k default).2-tV w (L.getD 0 default).1 (L.getD 0 default).2
 | 0,_=>by simp[r9]
 | k+1,h=>by
  have ih:=EJ w L k (by omega);have hl:k<(gR w L).length:=by rw[lj];omega
  have hw:=Cz w L (i:=k) (by omega);rw[List.getD_eq_getElem?_getD,List.getElem?_eq_getElem hl] at hw;rw[List.take_add_one,List.getElem?_eq_getElem hl];unfold r9 at *;rw[List.foldl_append,ih];show _+(gR w L)[k]=_;have hw:(gR w L)[k]=_:=hw;rw[hw];omega
theorem Nw{w:Int}{L:List Qp}(hw:0<=w)(hP:SE L):r9 (gR w L)=w:=by
 have h:=EJ w L (L.length-1) (Nat.le_refl _);rw[<-lj w L,List.take_length,lj,hP.fst] at h;have l2:=hP.l2;have hk:=(hP.ok (L.length-1) (by omega)).1;rw[h,hP.Za];unfold tV;unfold Gp at hk;rw[Nat.mul_div_cancel _ (by omega)];simp;omega
end Go.Proofs.YtijddijloelacaaGreat
namespace Go.Proofs.YtijddijloelacaaGreat
open Go.Proofs.YtijddijloelacaaGreat.Am Go.Sort Go.Proofs Go.Lib Go.NetL
variable [Inhabited cc]
variable {G:aG}
def Aq(p:Pt):RS:=⟨decide (p.x<0),decide (p.y<0),p.x.natAbs,p.y.natAbs,1⟩
theorem Xh:wW 1 0=1:=by decide
theorem CO(k:Nat)(h:0<k)(hk:k<8):wW 1 k=0:=by
 rcases (show k=1\/k=2\/k=3\/k=4\/k=5\/k=6\/k=7 by omega) with rfl|rfl|rfl|rfl|rfl|rfl|rfl<;>decide
theorem Pb(p:Pt)(h:bX p):aa Tryz.prog G 23 [.agg (lP p)] (.agg (iS (Aq p))):=by
 obtain⟨h1,h2⟩:=h;unfold iE at h1 h2;have o1:=OV (G:=G) p.x (by omega) (by omega);have o2:=OV (G:=G) p.y (by omega) (by omega);unfold iS fQ Aq lP;simp only[Xh,CO 1 (by decide) (by decide),CO 2 (by decide) (by decide),CO 3 (by decide) (by decide),CO 4 (by decide) (by decide),CO 5 (by decide) (by decide),CO 6 (by decide) (by decide),CO 7 (by decide) (by decide)];unfold dU ez at *;generalize decide (p.x<0)=p1 at *;generalize decide (p.y<0)=p2 at *;generalize wW p.x.natAbs=V1 at *;generalize wW p.y.natAbs=V2 at *;refine aa.ah al Tryz.func23 rfl rfl _ rfl ?_;(conv=>whnf);repeat' ((first|refine st ?_|(refine⟨fun h=>?_,fun h=>?_⟩<;>try simp only[ae] at h)|(refine .inl ?_;(conv=>whnf);(first|refine⟨_,o1,?_⟩|refine⟨_,o2,?_⟩))|refine wf ?_|refine az ?_|refine nn ?_|fail)<;>conv=>whnf)
 all_goals first|rfl
theorem vT(l:List Int)(k:Nat)(h:k<l.length):r9 (l.take (k+1))=r9 (l.take k)+l.getD k 0:=by
 unfold r9;rw[List.take_add_one,List.getElem?_eq_getElem h,List.foldl_append,List.getD_eq_getElem?_getD,List.getElem?_eq_getElem h];rfl
theorem EK(l:List Int)(h:∀i,i<l.length->0<=l.getD i 0/\l.getD i 0<=2147483648):∀k,k<=l.length->0<=r9 (l.take k)/\r9 (l.take k)<=2147483648*k
 | 0,_=>by simp[r9]
 | k+1,hk=>by
  have a:=EK l h k (by omega);have b:=h k (by omega);rw[vT l k (by omega)];omega
theorem Rf(l:List Int)(h0:∀i,i<l.length->0<=l.getD i 0/\l.getD i 0<=2147483648)(hl:l.length<=2000):aa Tryz.prog G 24 [oz l] (.tup [.int .i64 (r9 l),.sb true]):=by
 refine aa.ah al Tryz.func24 rfl rfl _ rfl ?_;(conv=>whnf);repeat' ((first|(exfalso;omega)|refine st ?_|(refine⟨fun h=>?_,fun h=>?_⟩<;>try simp only[ae] at h)|refine wf ?_|refine az ?_|refine nn ?_|fail)<;>conv=>whnf)
 refine ak (fun i:Nat=>i<=l.length) (fun i=>[(12,.int .i64 (i:Int)),(4,.int .i64 (r9 (l.take i))),(6,.af)]) (fun _=>[]) (fun i=>l.length-i) 0 (Nat.zero_le _) ?_ ?_
 ·exact ff
 ·intro i hi;have hi:i<=l.length:=hi;have hb:=EK l h0 i hi;rcases Nat.lt_or_ge i l.length with cy|cy
  ·have hw:=nP (G:=G) (l.getD i 0);have hx:=h0 i cy;have EL:0<=l.getD (i:Int).toNat 0/\l.getD (i:Int).toNat 0<=2147483648:=hx;rw[decide_eq_true hx] at hw;have hs:=vT l i cy;(conv=>whnf);repeat' ((first|(exact absurd trivial h)|(exact Bool.noConfusion h)|(exfalso;omega)|refine st ?_|(refine⟨fun h=>?_,fun h=>?_⟩<;>try simp only[ae] at h)|(refine .inl ?_;(conv=>whnf);refine⟨_,hw,?_⟩)|refine wf ?_|refine az ?_|refine nn ?_|fail)<;>conv=>whnf)
   refine⟨i+1,cy,(by show l.length-(i+1)<l.length-i;omega),?_⟩;(conv=>whnf)
   repeat (first|exact fa|((first|refine fb ?_|(refine And.intro ?_ ?_;rotate_left));conv=>whnf))
   all_goals first|exact hs.symm
  ·have e:i=l.length:=by omega
   subst e;rw[List.take_length] at hb ⊢;(conv=>whnf);repeat' ((first|(exact absurd trivial h)|(exfalso;omega)|refine st ?_|(refine⟨fun h=>?_,fun h=>?_⟩<;>try simp only[ae] at h)|refine wf ?_|refine az ?_|refine nn ?_|fail)<;>conv=>whnf)
end Go.Proofs.YtijddijloelacaaGreat
namespace Go.Proofs.YtijddijloelacaaGreat
open Go.Proofs.YtijddijloelacaaGreat.Am Go.Sort Go.Proofs Go.Lib Go.NetL
variable [Inhabited cc]
theorem EN{r s:RS}(hr:Rk r)(hs:Rk s)(h:iS r=iS s):r=s:=Ey hr hs (congrArg (List.map Zb) h)
theorem sP(p:Pt)(h:bX p):Rk (Aq p):=by
 obtain⟨h1,h2⟩:=h;unfold iE at h1 h2;have hb:(536870913:Nat)<65536 ^ 32:=by decide
 exact⟨Nat.lt_trans (show p.x.natAbs<536870913 by omega) hb,Nat.lt_trans (show p.y.natAbs<536870913 by omega) hb,(show(1:Nat)<65536 ^ 32 by decide)⟩
theorem Ar(p:Pt):iu p.x p.y 1=.agg (iS (Aq p)):=rfl
def cI(S:List Sp)(i k:Nat):Int:=Uh (cJ (dR S)) ((FS (dR S) i).getD k default)
theorem Ut{S:List Sp}(h:CJ S){i k:Nat}(hi:i<S.length)(hk:k<(FS (dR S) i).length):Uk (cJ (dR S)) (nr ((FS (dR S) i).getD k default))=cI S i k:=by
 have hO:=je h;have bV:i<(dR S).length:=by rw[List.length_map];exact hi
 have m:=List.getElem_mem hk;rw[<-gw] at m;obtain⟨j,_,_,c,d⟩:=J7 (qe hO) (mD hO bV m).2 (oX hO bV m);rw[d];exact c.symm
theorem Nx{S:List Sp}(h:CJ S){i:Nat}(hi:i<S.length):Uk (cJ (dR S)) (Aq (S.getD i default).s.a)=cI S i 0:=by
 have hO:=je h;have bV:i<(dR S).length:=by rw[List.length_map];exact hi
 have h2:=ua (dR S) i;have hL:=(vS h hi).1;have m:=List.getElem_mem (show 0<(FS (dR S) i).length by omega);rw[<-gw] at m;have hf:=mD hO bV m;rw[<-Ut h hi (show 0<(FS (dR S) i).length by omega)]
 congr 1
 refine EN (sP _ hL.1) (Sm.rk hf.1.1) ?_;rw[hf.2,tZ,CM hi];have:=Cx hL;rw[Ar] at this;injection this with q
 exact q.symm
theorem Rg{S:List Sp}(h:CJ S){i:Nat}(hi:i<S.length):Uk (cJ (dR S)) (Aq (S.getD i default).s.b)=cI S i (bu S i).length:=by
 have hO:=je h;have bV:i<(dR S).length:=by rw[List.length_map];exact hi
 have h2:=ua (dR S) i;have hL:=(vS h hi).1;rw[iw];have m:=List.getElem_mem (show(FS (dR S) i).length-1<(FS (dR S) i).length by omega);rw[<-gw] at m;have hf:=mD hO bV m;rw[<-Ut h hi (show(FS (dR S) i).length-1<(FS (dR S) i).length by omega)]
 congr 1
 refine EN (sP _ hL.2.1) (Sm.rk hf.1.1) ?_;rw[hf.2,CH,CM hi];have:=Ju hL;rw[Ar] at this;injection this with q
 exact q.symm
theorem Rh(S:List Sp){i k:Nat}(hk:k<(bu S i).length):((bu S i).getD k default).a=cI S i k/\((bu S i).getD k default).b=cI S i (k+1)/\((bu S i).getD k default).w=(gR (S.getD i default).w ((FS (dR S) i).map oU)).getD k 0:=by
 rw[EF hk];exact⟨rfl,rfl,rfl⟩
/-- The least weights so far, by edges. -/
def EO(E:List Ed)(L:List Rn):Nat->List A:=fun j=>[.int .i64 (wo (EM L ((E.getD j default).a,(E.getD j default).b)))]
theorem Ny(S:List Sp)(L:List Rn)(hL:∀x∈L,0<=x.w){r:Rn}(hr:r∈cQ S)(h:¬(wo (EM L ((( aK S).getD (nv (bT S) r).e default).a,((aK S).getD (nv (bT S) r).e default).b))<0\/r.w<wo (EM L (((aK S).getD (nv (bT S) r).e default).a,((aK S).getD (nv (bT S) r).e default).b))))(j:Nat):
  EO (aK S) L j=EO (aK S) (L++[r]) j:=by
 obtain⟨_,e1,e2,_⟩:=xx hr;unfold EO;rw[xw L r _ hL];split
 ·rename_i q;rw[e1,e2] at h;rw[q,if_neg h]
 ·rfl
theorem Ri(S:List Sp)(L:List Rn)(hL:∀x∈L,0<=x.w){r:Rn}(hr:r∈cQ S)(h:wo (EM L ((( aK S).getD (nv (bT S) r).e default).a,((aK S).getD (nv (bT S) r).e default).b))<0\/r.w<wo (EM L (((aK S).getD (nv (bT S) r).e default).a,((aK S).getD (nv (bT S) r).e default).b)))(j:Nat)(hj:j<(aK S).length):
  gy (EO (aK S) L) (nv (bT S) r).e [.int .i64 r.w] j=EO (aK S) (L++[r]) j:=by
 obtain⟨e0,e1,e2,_⟩:=xx hr;unfold gy;by_cases q:j=(nv (bT S) r).e
 ·rw[if_pos q];unfold EO;rw[xw L r _ hL,q,e1,e2,if_pos rfl];rw[e1,e2] at h;rw[if_pos h]
 ·rw[if_neg q];unfold EO;rw[xw L r _ hL,if_neg fun c=>q (Kd S hj e0 (by rw[c,e1,e2]))]
end Go.Proofs.YtijddijloelacaaGreat
namespace Go.Proofs.YtijddijloelacaaGreat
open Go.Proofs.YtijddijloelacaaGreat.Am Go.Sort Go.Proofs
variable [Inhabited cc]
variable {G:aG}
def Uu(l:List Rd):Nat->Nat
 | 0=>0
 | k+1=>Uu l k+(l.getD k default).lK.length
def nS(l:List Rd):Prop:=l.length<=210/\(∀i,i<l.length->O7 (l.getD i default))/\Uu l l.length<=900
instance (r:Rd):Decidable (O7 r):=inferInstanceAs (Decidable (_/\_))
instance (l:List Rd):Decidable (nS l):=inferInstanceAs (Decidable (_/\(∀ i,i < l.length->O7 (l.getD i default))/\_))
theorem Ke{l:List Rd}:∀k,(∀i,i<k->O7 (l.getD i default))->Uu l k<=110*k
 | 0,_=>Nat.le_refl _
 | k+1,h=>by
  have:=Ke k (fun i hi=>h i (by omega));have:=(h k (by omega)).1;rw[Uu];omega
theorem At{l:List Rd}(h:nS l):Lt l:=⟨by have:=h.1;omega,h.2.1⟩
theorem EP(l:List Rd):aa Tryz.prog G 56 [kO l] (.sb (decide (nS l))):=by
 refine aa.ah al Tryz.func56 rfl rfl _ rfl ?_;(conv=>whnf);repeat' ((first|refine st ?_|(refine⟨fun h=>?_,fun h=>?_⟩<;>try simp only[ae] at h)|refine wf ?_|refine az ?_|refine nn ?_|fail)<;>conv=>whnf)
 refine ak (fun i:Nat=>i<=l.length/\i<=211/\∀k,k<i->O7 (l.getD k default)) (fun i=>[(4,.int .i64 (i:Int)),(3,.int .i64 (Uu l i:Nat))]) (fun _=>[]) (fun i=>l.length-i) 0 ⟨by omega,by omega,fun k hk=>by omega⟩ ?_ ?_
 ·exact ff
 ·rintro i ⟨hi,dB,he⟩;have hb:=Ke i he;(conv=>whnf);repeat' ((first|refine st ?_|(refine⟨fun h=>?_,fun h=>?_⟩<;>try simp only[ae] at h)|refine wf ?_|refine az ?_|refine nn ?_|fail)<;>conv=>whnf)
  all_goals (try simp only[QQ] at *)
  ·exact(decide_eq_false fun hL=>by have:=(hL.2.1 i (by omega)).2;omega).symm
  ·refine⟨i+1,⟨by omega,by omega,fun k hk=>?_⟩,(by show l.length-(i+1)<l.length-i;omega),?_⟩
   ·rcases Nat.lt_or_ge k i with q|q
    ·exact he k q
    ·have:k=i:=by omega
     subst this;exact⟨by omega,by omega⟩
   ·exact ff
  ·exact(decide_eq_false fun hL=>by have:=(hL.2.1 i (by omega)).1;omega).symm
  ·exfalso;omega
  ·exact(decide_eq_false fun hL=>by have:=hL.1;omega).symm
  ·have bV:i=l.length:=by omega
   subst bV;refine decide_eq_decide.2 ⟨fun h=>⟨by omega,he,by omega⟩,fun h=>by have:=h.2.2;omega⟩
  ·exact(decide_eq_false fun hL=>by have:=hL.1;omega).symm
def Kf(l:List Rd)(m:Int):Prop:=l.length<=20/\(Ev l l.length:Int)<=m/\nS l
instance (l:List Rd) (m:Int):Decidable (Kf l m):=inferInstanceAs (Decidable (_/\_/\_))
theorem Rj{l:List Rd}{m:Int}(h:¬nS l):decide (Kf l m)=false:=decide_eq_false fun q=>h q.2.2
theorem Kg(l:List Rd)(m:Int)(hL:¬nS l):aa Tryz.prog G 19 [kO l,.int .i64 m] (.sb false):=by
 have h1:=EP (G:=G) l;rw[decide_eq_false hL] at h1;refine aa.ah al Tryz.func19 rfl rfl _ rfl ?_;(conv=>whnf);repeat' ((first|refine st ?_|(refine⟨fun h=>?_,fun h=>?_⟩<;>try simp only[ae] at h)|refine wf ?_|refine az ?_|refine nn ?_|fail)<;>conv=>whnf)
 refine ak (fun x:Nat×Int=>x.1<=l.length/\x.1<=21) (fun x=>match x with|(i,n)=>[(6,.int .i64 (i:Int)),(5,.int .i64 n)]) (fun _=>[]) (fun x=>l.length-x.1) (0,0) ⟨Nat.zero_le _,by omega⟩ ?_ ?_
 ·exact ff
 ·rintro⟨i,n⟩ ⟨hi,dB⟩;have hi:i<=l.length:=hi;have dB:i<=21:=dB;(conv=>whnf);repeat' ((first|(exfalso;omega)|refine st ?_|(refine⟨fun h=>?_,fun h=>?_⟩<;>try simp only[ae] at h)|(refine .inl ?_;(conv=>whnf);refine⟨_,h1,?_⟩)|refine wf ?_|refine az ?_|refine nn ?_|fail)<;>conv=>whnf)
  all_goals first
   | rfl
   | (refine ⟨(i + 1, IntKind.i64.wrap (n + (((l.getD i default).ws.length : Nat) : Int))), ⟨by show i + 1 ≤ l.length; omega, by show i + 1 ≤ 21; omega⟩, (by show l.length - (i + 1) < l.length - i; omega), ?_⟩
      conv=>whnf
      repeat (first|exact fa|((first|refine fb ?_|(refine And.intro ?_ ?_;rotate_left));conv=>whnf)))
     
theorem Uv(l:List Rd)(m:Int):aa Tryz.prog G 19 [kO l,.int .i64 m] (.sb (decide (Kf l m))):=by
 by_cases hL:nS l
 ·have h1:=EP (G:=G) l;rw[decide_eq_true hL] at h1;have aD:=At hL;refine aa.ah al Tryz.func19 rfl rfl _ rfl ?_;(conv=>whnf);repeat' ((first|refine st ?_|(refine⟨fun h=>?_,fun h=>?_⟩<;>try simp only[ae] at h)|refine wf ?_|refine az ?_|refine nn ?_|fail)<;>conv=>whnf)
  refine ak (fun i:Nat=>i<=l.length/\i<=21) (fun i=>[(6,.int .i64 (i:Int)),(5,.int .i64 (Ev l i:Nat))]) (fun _=>[]) (fun i=>l.length-i) 0 ⟨Nat.zero_le _,by omega⟩ ?_ ?_
  ·exact ff
  ·rintro i ⟨hi,dB⟩;have hb:=pZ aD i hi;have hc:i<l.length->(l.getD (i:Int).toNat default).ws.length<=110:=fun q=>(aD.2 i q).2;(conv=>whnf);repeat' ((first|(exfalso;omega)|refine st ?_|(refine⟨fun h=>?_,fun h=>?_⟩<;>try simp only[ae] at h)|(refine .inl ?_;(conv=>whnf);refine⟨_,h1,?_⟩)|refine wf ?_|refine az ?_|refine nn ?_|fail)<;>conv=>whnf)
   all_goals first
    | (refine ⟨i + 1, ⟨by omega, by omega⟩, (by show l.length - (i + 1) < l.length - i; omega), ?_⟩
       conv=>whnf
       repeat (first|exact fa|((first|refine fb ?_|(refine And.intro ?_ ?_;rotate_left));conv=>whnf)))
    | (have hq : i = l.length := by omega
       subst hq;unfold Kf
       first
         | exact(decide_eq_true ⟨by omega,by omega,hL⟩).symm
         | exact(decide_eq_false fun q=>by have:=q.2.1;omega).symm
         | (rw[decide_eq_decide];constructor<;>intro q<;>first|exact⟨by omega,by omega,hL⟩|exact q.2.1|exact⟨q.1,q.2.1⟩|omega))
    | exact(decide_eq_false fun q=>by have:=q.1;omega).symm
       
 ·rw[Rj hL];exact Kg l m hL
end Go.Proofs.YtijddijloelacaaGreat
namespace Go.Proofs.YtijddijloelacaaGreat
open Go.Proofs.YtijddijloelacaaGreat.Am Go.Sort Go.Proofs Go.Lib Go.NetL
variable [Inhabited cc]
variable {G:aG}
theorem Rl{r s:RS}(hr:eC r)(hs:eC s):aa Tryz.prog G 111 [OZ r,OZ s] (.tup [.int .i64 (gI r s),.int .i64 0]):=by
 rw[mw hr,mw hs];exact MH _ _ _ _ _ _ (my hr) (my hs)
theorem Rm{r s:RS}(hr:eC r)(hs:eC s):aa Tryz.prog G 74 [.agg (iS r),.agg (iS s)] (.int .i64 (gI r s)):=by
 have m:=Rl (G:=G) hr hs;rw[Ef,Ef] at m;generalize gI r s=z at *;unfold iS fQ at *;generalize wW r.x=X1 at *;generalize wW r.y=Y1 at *;generalize wW r.w=W1 at *;generalize wW s.x=X2 at *;generalize wW s.y=Y2 at *;generalize wW s.w=W2 at *;refine aa.ah al Tryz.func74 rfl rfl _ rfl ?_;(conv=>whnf);repeat' ((first|refine st ?_|(refine⟨fun h=>?_,fun h=>?_⟩<;>try simp only[ae] at h)|(refine .inl ?_;(conv=>whnf);refine⟨_,m,?_⟩)|refine wf ?_|refine az ?_|refine nn ?_|fail)<;>conv=>whnf)
theorem Ro{N:List RS}(hs:N.Pairwise fun a b=>gI a b<0){i j:Nat}(kK:i<j)(hj:j<N.length):gI (N.getD i default) (N.getD j default)<0:=by
 rw[fq (by omega),fq hj];exact List.pairwise_iff_getElem.1 hs i j (by omega) hj kK
theorem Kh(N:List RS)(hs:N.Pairwise fun a b=>gI a b<0)(hm:∀r∈N,eC r)(hl:N.length<=1000000):aa Tryz.prog G 65 [dX N] (.sb true):=by
 refine aa.ah al Tryz.func65 rfl rfl _ rfl ?_;(conv=>whnf);repeat' ((first|refine st ?_|(refine⟨fun h=>?_,fun h=>?_⟩<;>try simp only[ae] at h)|refine wf ?_|refine az ?_|refine nn ?_|fail)<;>conv=>whnf)
 refine ak (fun i:Nat=>i<=N.length) (fun i=>[(7,.int .i64 (i:Int)),(3,.af),(4,.af)]) (fun i=>[]) (fun i=>N.length-i) 0 (Nat.zero_le _) ?_ ?_
 ·exact ff
 ·intro i hi;have hi:i<=N.length:=hi;rcases Nat.lt_or_ge i N.length with cy|cy
  ·have h1:=IW (G:=G) (sJ hm cy);rw[Ef] at h1;rcases Nat.eq_zero_or_pos i with rfl|hp
   ·unfold iS fQ at *;(conv=>whnf);repeat' ((first|(exfalso;omega)|(exact Bool.noConfusion h)|refine st ?_|(refine⟨fun h=>?_,fun h=>?_⟩<;>try simp only[ae] at h)|(refine .inl ?_;(conv=>whnf);refine⟨_,h1,?_⟩)|refine wf ?_|refine az ?_|refine nn ?_|fail)<;>conv=>whnf)
    refine⟨1,cy,(by show N.length-1<N.length-0;omega),?_⟩;exact ff
   ·have ei:((i:Int)-1).toNat=i-1:=by omega
    obtain⟨z,hz,h2⟩:∃z:Int,z<0/\aa Tryz.prog G 74 [.agg (iS (N.getD ((i:Int)-1).toNat default)),.agg (iS (N.getD i default))] (.int .i64 z) :=
     ⟨_,by rw[ei];exact Ro hs (show i-1<i by omega) cy,Rm (by rw[ei];exact sJ hm (by omega)) (sJ hm cy)⟩
    unfold iS fQ at *;(conv=>whnf);repeat' ((first|(exfalso;omega)|(exact Bool.noConfusion h)|refine st ?_|(refine⟨fun h=>?_,fun h=>?_⟩<;>try simp only[ae] at h)|(refine .inl ?_;(conv=>whnf);(first|refine⟨_,h1,?_⟩|refine⟨_,h2,?_⟩))|refine wf ?_|refine az ?_|refine nn ?_|fail)<;>conv=>whnf)
    refine⟨i+1,cy,(by show N.length-(i+1)<N.length-i;omega),?_⟩;exact ff
  ·(conv=>whnf);repeat' ((first|(exfalso;omega)|refine st ?_|(refine⟨fun h=>?_,fun h=>?_⟩<;>try simp only[ae] at h)|refine wf ?_|refine az ?_|refine nn ?_|fail)<;>conv=>whnf)
theorem nc{b:Bool}(h1:b=true)(h2:b=false):False:=Bool.noConfusion (h1.symm.trans h2)
theorem Rp(a b:Pr):ou a b<0↔iH a b:=by
 rw[<-sE];unfold ltOf;exact decide_eq_true_iff.symm
theorem Au(w:Int)(h:0<=w/\w<=2147483648):aa Tryz.prog G 66 [.int .i64 w] (.sb true):=by
 refine aa.ah al Tryz.func66 rfl rfl _ rfl ?_;(conv=>whnf);repeat' ((first|(exfalso;omega)|refine st ?_|(refine⟨fun h=>?_,fun h=>?_⟩<;>try simp only[ae] at h)|refine wf ?_|refine az ?_|refine nn ?_|fail)<;>conv=>whnf)
 all_goals first|rfl|exact decide_eq_true (by omega)
theorem Pd(e:Ed):aa Tryz.prog G 67 [.agg (Gs e)] (.agg (P6 ⟨e.a,e.b⟩)):=by
 refine aa.ah al Tryz.func67 rfl rfl _ rfl ?_;(conv=>whnf);repeat' ((first|refine st ?_|(refine⟨fun h=>?_,fun h=>?_⟩<;>try simp only[ae] at h)|refine wf ?_|refine az ?_|refine nn ?_|fail)<;>conv=>whnf)
def Gx(n:Nat)(p:Pc):Prop:=p.e<n/\0<=p.w/\p.w<=2147483648
abbrev Gy(N:List RS)(E:List Ed)(n:Nat)(P:Nat->List Pc):A:=.bref [dX N,r8 E,.sl n 1 fun i=>[ke (P i)]] 0
theorem Nz(N:List RS)(E:List Ed)(n:Nat)(P:Nat->List Pc)(p:Pc)(h:Gx E.length p)(hE:E.length<=1000000):aa Tryz.prog G 71 [.agg (O' p),Gy N E n P] (.sb false):=by
 obtain⟨h1,h2,h3⟩:=h;have hw:=Au (G:=G) p.w ⟨h2,h3⟩;refine aa.ah al Tryz.func71 rfl rfl _ rfl ?_;(conv=>whnf);repeat' ((first|(exfalso;omega)|refine st ?_|(refine⟨fun h=>?_,fun h=>?_⟩<;>try simp only[ae] at h)|(refine .inl ?_;(conv=>whnf);refine⟨_,hw,?_⟩)|refine wf ?_|refine az ?_|refine nn ?_|fail)<;>conv=>whnf)
 all_goals rfl
theorem Ki(N:List RS)(E:List Ed)(n:Nat)(P:Nat->List Pc)(l:List Pc)(h:∀p∈l,Gx E.length p)(hE:E.length<=1000000)(hl:l.length<=1000000):aa Tryz.prog G 107 [ke l,.fn 71 [Gy N E n P]] (.int .i64 (-1)):=by
 refine aa.ah al Tryz.func107 rfl rfl _ rfl ?_;(conv=>whnf);repeat' ((first|refine st ?_|(refine⟨fun h=>?_,fun h=>?_⟩<;>try simp only[ae] at h)|refine wf ?_|refine az ?_|refine nn ?_|fail)<;>conv=>whnf)
 refine ak (fun i:Nat=>i<=l.length) (fun i=>[(8,.int .i64 (i:Int)),(5,.af)]) (fun i=>[]) (fun i=>l.length-i) 0 (Nat.zero_le _) ?_ ?_
 ·exact ff
 ·intro i hi;have hi:i<=l.length:=hi;rcases Nat.lt_or_ge i l.length with cy|cy
  ·have h1:=Nz (G:=G) N E n P (l.getD i default) (by rw[fq cy];exact h _ (List.getElem_mem cy)) hE;(conv=>whnf);repeat' ((first|(exfalso;omega)|(exact Bool.noConfusion h)|refine st ?_|(refine⟨fun h=>?_,fun h=>?_⟩<;>try simp only[ae] at h)|(refine .inl ?_;(conv=>whnf);refine⟨_,h1,?_⟩)|refine wf ?_|refine az ?_|refine nn ?_|fail)<;>conv=>whnf)
   refine⟨i+1,cy,(by show l.length-(i+1)<l.length-i;omega),?_⟩;exact ff
  ·(conv=>whnf);repeat' ((first|(exfalso;omega)|refine st ?_|(refine⟨fun h=>?_,fun h=>?_⟩<;>try simp only[ae] at h)|refine wf ?_|refine az ?_|refine nn ?_|fail)<;>conv=>whnf)
theorem NA(N:List RS)(E:List Ed)(n:Nat)(P:Nat->List Pc)(l:List Pc)(h:∀p∈l,Gx E.length p)(hE:E.length<=1000000)(hl:l.length<=1000000):aa Tryz.prog G 69 [ke l,Gy N E n P] (.sb false):=by
 have h1:=Ki (G:=G) N E n P l h hE hl
 have h2:aa Tryz.prog G 70 [ke l,.fn 71 [Gy N E n P]] (.sb false):=by
  refine aa.ah al Tryz.func70 rfl rfl _ rfl ?_;(conv=>whnf);repeat' ((first|refine st ?_|(refine⟨fun h=>?_,fun h=>?_⟩<;>try simp only[ae] at h)|(refine .inl ?_;(conv=>whnf);refine⟨_,h1,?_⟩)|refine wf ?_|refine az ?_|refine nn ?_|fail)<;>conv=>whnf)
  all_goals rfl
 refine aa.ah al Tryz.func69 rfl rfl _ rfl ?_;(conv=>whnf);repeat' ((first|refine st ?_|(refine⟨fun h=>?_,fun h=>?_⟩<;>try simp only[ae] at h)|(refine .inl ?_;(conv=>whnf);refine⟨_,h2,?_⟩)|refine wf ?_|refine az ?_|refine nn ?_|fail)<;>conv=>whnf)
theorem Rq(N:List RS)(E:List Ed)(n:Nat)(P:Nat->List Pc)(h:∀i,i<n->∀p∈P i,Gx E.length p)(hE:E.length<=1000000)(hl:∀i,i<n->(P i).length<=1000000)(hn:n<=1000000):aa Tryz.prog G 68 [.sl n 1 fun i=>[ke (P i)],.fn 69 [Gy N E n P]] (.sb false):=by
 have h0:aa Tryz.prog G 106 [.sl n 1 fun i=>[ke (P i)],.fn 69 [Gy N E n P]] (.int .i64 (-1)):=by
  refine aa.ah al Tryz.func106 rfl rfl _ rfl ?_;(conv=>whnf);repeat' ((first|refine st ?_|(refine⟨fun h=>?_,fun h=>?_⟩<;>try simp only[ae] at h)|refine wf ?_|refine az ?_|refine nn ?_|fail)<;>conv=>whnf)
  refine ak (fun i:Nat=>i<=n) (fun i=>[(8,.int .i64 (i:Int)),(5,.af)]) (fun i=>[]) (fun i=>n-i) 0 (Nat.zero_le _) ?_ ?_
  ·exact ff
  ·intro i hi;have hi:i<=n:=hi;rcases Nat.lt_or_ge i n with cy|cy
   ·have h1:=NA (G:=G) N E n P (P i) (h i cy) hE (hl i cy);(conv=>whnf);repeat' ((first|(exfalso;omega)|(exact Bool.noConfusion h)|refine st ?_|(refine⟨fun h=>?_,fun h=>?_⟩<;>try simp only[ae] at h)|(refine .inl ?_;(conv=>whnf);refine⟨_,h1,?_⟩)|refine wf ?_|refine az ?_|refine nn ?_|fail)<;>conv=>whnf)
    refine⟨i+1,cy,(by show n-(i+1)<n-i;omega),?_⟩;exact ff
   ·(conv=>whnf);repeat' ((first|(exfalso;omega)|refine st ?_|(refine⟨fun h=>?_,fun h=>?_⟩<;>try simp only[ae] at h)|refine wf ?_|refine az ?_|refine nn ?_|fail)<;>conv=>whnf)
 refine aa.ah al Tryz.func68 rfl rfl _ rfl ?_;(conv=>whnf);repeat' ((first|refine st ?_|(refine⟨fun h=>?_,fun h=>?_⟩<;>try simp only[ae] at h)|(refine .inl ?_;(conv=>whnf);refine⟨_,h0,?_⟩)|refine wf ?_|refine az ?_|refine nn ?_|fail)<;>conv=>whnf)
 all_goals rfl
theorem NB(N:List RS)(E:List Ed)(n:Nat)(P:Nat->List Pc)(hs:N.Pairwise fun a b=>gI a b<0)(hm:∀r∈N,eC r)(hN:N.length<=200000)(hE:E.length<=200000)(hn:n<=200000)
  (hk:(E.map fun e=>(⟨e.a,e.b⟩:Pr)).Pairwise iH) (ho:∀e∈E,vk N.length e) (hP:∀i,i<n->∀p∈P i,Gx E.length p) (hl:∀i,i<n->(P i).length<=1000000) :
  aa Tryz.prog G 27 [Aj N E n P] (.sb true):=by
 have h1:=Kh (G:=G) N hs hm (by omega);have h9:=Rq (G:=G) N E n P hP (by omega) hl (by omega);refine aa.ah al Tryz.func27 rfl rfl _ rfl ?_;(conv=>whnf);repeat' ((first|(exfalso;omega)|(exact Bool.noConfusion h)|refine st ?_|(refine⟨fun h=>?_,fun h=>?_⟩<;>try simp only[ae] at h)|(refine .inl ?_;(conv=>whnf);refine⟨_,h1,?_⟩)|refine wf ?_|refine az ?_|refine nn ?_|fail)<;>conv=>whnf)
 refine ak (fun i:Nat=>i<=E.length) (fun i=>[(30,.int .i64 (i:Int)),(3,.af),(4,.af)]) (fun i=>[.box 39 [dX N,r8 E,.sl n 1 fun i=>[ke (P i)]]]) (fun i=>E.length-i) 0 (Nat.zero_le _) ?_ ?_
 ·conv=>whnf
  repeat (first|exact fa|((first|refine fb ?_|(refine And.intro ?_ ?_;rotate_left));conv=>whnf))
 ·intro i hi;have hi:i<=E.length:=hi;rcases Nat.lt_or_ge i E.length with cy|cy
  ·obtain⟨o1,o2,o3,o4,o5,o6⟩:=ho _ (List.getElem_mem cy);rw[<-fq cy] at o1 o2 o3 o4 o5 o6;have o1:0<=(E.getD (i:Int).toNat default).a:=o1;have o2:(E.getD (i:Int).toNat default).a<(E.getD (i:Int).toNat default).b:=o2;have o3:(E.getD (i:Int).toNat default).b<N.length:=o3;have o6:(E.getD (i:Int).toNat default).f=true\/(E.getD (i:Int).toNat default).k=true:=o6;have hw:=Au (G:=G) (E.getD i default).w ⟨o4,o5⟩;rcases Nat.eq_zero_or_pos i with h0|hp
   ·(conv=>whnf);repeat' ((first|(exfalso;omega)|(exact Bool.noConfusion h)|((exfalso;rcases o6 with q|q<;>exact nc q (by assumption)))|refine st ?_|(refine⟨fun h=>?_,fun h=>?_⟩<;>try simp only[ae] at h)|(refine .inl ?_;(conv=>whnf);refine⟨_,hw,?_⟩)|refine wf ?_|refine az ?_|refine nn ?_|fail)<;>conv=>whnf)
    all_goals first
     | (refine ⟨i + 1, cy, (by show E.length - (i + 1) < E.length - i; omega), ?_⟩
        conv=>whnf
        repeat (first|exact fa|((first|refine fb ?_|(refine And.intro ?_ ?_;rotate_left));conv=>whnf)))
         
   ·have ei:((i:Int)-1).toNat=i-1:=by omega
    have aD:=List.pairwise_iff_getElem.1 hk (i-1) i (by rw[List.length_map];omega) (by rw[List.length_map];exact cy) (by omega);rw[List.getElem_map,List.getElem_map,<-fq cy,<-fq (show i-1<E.length by omega)] at aD
    obtain⟨z,hz,g3⟩:∃z:Int,z<0/\aa Tryz.prog G 51 [.agg (P6 ⟨(E.getD ((i:Int)-1).toNat default).a,(E.getD ((i:Int)-1).toNat default).b⟩),.agg (P6 ⟨(E.getD i default).a,(E.getD i default).b⟩)] (.int .i64 z) :=
     ⟨_,by rw[ei];exact(Rp _ _).2 aD,Ai _ _⟩
    have g1:=Pd (G:=G) (E.getD ((i:Int)-1).toNat default);have g2:=Pd (G:=G) (E.getD i default);(conv=>whnf);repeat' ((first|(exfalso;omega)|(exact Bool.noConfusion h)|((exfalso;rcases o6 with q|q<;>exact nc q (by assumption)))|refine st ?_|(refine⟨fun h=>?_,fun h=>?_⟩<;>try simp only[ae] at h)|(refine .inl ?_;(conv=>whnf);(first|refine⟨_,hw,?_⟩|refine⟨_,g1,?_⟩|refine⟨_,g2,?_⟩|refine⟨_,g3,?_⟩))|refine wf ?_|refine az ?_|refine nn ?_|fail)<;>conv=>whnf)
    all_goals first
     | (refine ⟨i + 1, cy, (by show E.length - (i + 1) < E.length - i; omega), ?_⟩
        conv=>whnf
        repeat (first|exact fa|((first|refine fb ?_|(refine And.intro ?_ ?_;rotate_left));conv=>whnf)))
         
  ·(conv=>whnf);repeat' ((first|(exfalso;omega)|refine st ?_|(refine⟨fun h=>?_,fun h=>?_⟩<;>try simp only[ae] at h)|(refine .inl ?_;(conv=>whnf);refine⟨_,h9,?_⟩)|refine wf ?_|refine az ?_|refine nn ?_|fail)<;>conv=>whnf)
   all_goals first|rfl
/-- Rows of weights. -/
theorem NC(i j:Nat):gy (fun j=>[A.int .i64 (if j<i then -1 else 0)]) i [.int .i64 (-1)] j=[A.int .i64 (if j<i+1 then -1 else 0)]:=by
 unfold gy;by_cases q:j=i
 ·rw[if_pos q,if_pos (by omega)]
 ·rw[if_neg q];show[A.int .i64 (if j<i then -1 else 0)]=_;by_cases c:j<i
  ·rw[if_pos c,if_pos (by omega)]
  ·rw[if_neg c,if_neg (by omega)]
/-- What the walk leans on. -/
structure Uw (G:aG) (l:List Rd) (S:List Sp) (N:List RS) (E:List Ed) (P:Nat->List Pc):Prop where
 hS:CJ S
 hn:S.length<=50
 hN:cJ (dR S)=N
 hE:aK S=E
 hP:gx S=P
 Nd:N.length<=1000000
 SK:E.length<=1000000
 SN:∀i,(P i).length<=102
 LG:aa Tryz.prog G 20 [] (.sb true)
 sa:aa Tryz.prog G 19 [kO l,.int .i64 40] (.sb true)
 vl:aa Tryz.prog G 12 [kO l] (.int .i64 0)
 Rr:aa Tryz.prog G 15 [kO l] (.tup [Aj N E S.length P,.int .i64 0])
 Rs:aa Tryz.prog G 21 [kO l] (JG S)
def Zd(l:List Rd)(S:List Sp)(N:List RS)(E:List Ed)(P:Nat->List Pc)(H:Uw G l S N E P):JP (aa Tryz.prog G 5 [kO l] (.sb true)):=by
 refine' mkJ (fun rest=>?top)
 case' top=>skip
 obtain⟨hS,hn,hN,hE,hP,Nd,SK,SN,LG,sa,vl,Rr,Rs⟩:=id H;unfold Aj at Rr;unfold JG at Rs;refine aa.ah al Tryz.func5 rfl rfl _ rfl ?_;(conv=>whnf);repeat' ((first|(exact absurd trivial h)|(exact Bool.noConfusion h)|refine st ?_|(refine⟨fun h=>?_,fun h=>?_⟩<;>(try simp only[ae] at h)<;>try (exfalso;omega))|(refine .inl ?_;(conv=>whnf);(first|refine⟨_,sa,?_⟩|refine⟨_,vl,?_⟩|refine⟨_,Rr,?_⟩|refine⟨_,Rs,?_⟩))|refine wf ?_|refine az ?_|refine nn ?_|fail)<;>conv=>whnf)
 refine ak (fun i:Nat=>i<=E.length) (fun i=>[(7,.int .i64 (i:Int))]) (fun i=>[.box 39 [dX N,r8 E,.sl S.length 1 fun i=>[ke (P i)]],.row 3 1 E.length fun j=>[.int .i64 (if j<i then -1 else 0)]]) (fun i=>E.length-i) 0 (Nat.zero_le _) ?_ ?_
 ·conv=>whnf
  repeat (first|exact fa|((first|refine fb ?_|(refine And.intro ?_ ?_;rotate_left));conv=>whnf))
  all_goals first|exact .inl fun j _=>by rw[if_neg (Nat.not_lt_zero _)];rfl|exact .inl fun j _=>rfl
 ·intro i hi;have hi:i<=E.length:=hi;rcases Nat.lt_or_ge i E.length with cy|cy
  ·(conv=>whnf);repeat' ((first|refine st ?_|(refine⟨fun h=>?_,fun h=>?_⟩<;>(try simp only[ae] at h)<;>try (exfalso;omega))|refine wf ?_|refine az ?_|refine nn ?_|fail)<;>conv=>whnf)
   refine⟨i+1,cy,(by show E.length-(i+1)<E.length-i;omega),?_⟩;(conv=>whnf)
   repeat (first|exact fa|((first|refine fb ?_|(refine And.intro ?_ ?_;rotate_left));conv=>whnf))
   all_goals first|exact .inl fun j _=>NC i j
  ·have e:i=E.length:=by omega
   subst e;(conv=>whnf);repeat' ((first|refine st ?_|(refine⟨fun h=>?_,fun h=>?_⟩<;>(try simp only[ae] at h)<;>try (exfalso;omega))|refine wf ?_|refine az ?_|refine nn ?_|fail)<;>conv=>whnf)
   exact rest.out
def Xi(l:List Rd)(S:List Sp)(N:List RS)(E:List Ed)(P:Nat->List Pc)(H:Uw G l S N E P):JQ (fun i k=>i<S.length/\k<(bu S i).length) (Zd l S N E P H).T:=by
 refine' mkQ (fun Ux Uy=>?top)
 case' top=>skip
 obtain⟨hS,hn,hN,hE,hP,Nd,SK,SN,LG,sa,vl,Rr,Rs⟩:=id H;have VG:∀r∈N,Rk r:=fun r hr=>Sm.rk (qd (je hS) r (by rw[hN];exact hr)).1
 have VH:∀i,(bu S i).length<=102:=fun i=>by
  have:=SN i;rw[<-hP] at this;unfold gx at this
  rwa [List.length_map] at this
 have VI:∀i,i<S.length->∀k,∀x∈cX (bu S) i++(bu S i).take k,0<=x.w:=fun i hi k x hx=>by
  have hx:x∈cQ S:=by
   rcases List.mem_append.1 hx with hx|hx
   ·obtain⟨j,hj,hx⟩:=fF.1 hx;exact fF.2 ⟨j,by omega,hx⟩
   ·exact fF.2 ⟨i,hi,List.mem_of_mem_take hx⟩
  exact(oY hS (by omega) x hx).2.2.2.2.2.1
 have hlen:∀i,(bu S i).length+1=(FS (dR S) i).length:=fun i=>by
  have:=ua (dR S) i;rw[iw];omega
 have VJ:∀i,(P i).length=(bu S i).length:=fun i=>by rw[<-hP];unfold gx;exact List.length_map ..
 have Ze:=fun i (hi:i<S.length)=>Nx hS hi;have Zf:=fun i (hi:i<S.length)=>Rg hS hi;rw[hN] at Ze Zf;have pQ:=fun i (hi:i<S.length)=>vS hS hi;have Xj:=fun i=>CI (dR S) (show(dR S).length<=900 by rw[List.length_map];omega) i;refine Re ?_;refine ak (fun i:Nat=>i<=S.length) (fun i=>[(8,.int .i64 (i:Int)),(9,.af),(64,.af)]) (fun i=>[.box 39 [dX N,r8 E,.sl S.length 1 fun i=>[ke (P i)]],.row 3 1 E.length (EO E (cX (bu S) i))]) (fun i=>S.length-i) 0 (Nat.zero_le _) ?_ ?_
 ·conv=>whnf
  repeat (first|exact fa|((first|refine fb ?_|(refine And.intro ?_ ?_;rotate_left));conv=>whnf))
  all_goals first|exact .inl fun j hj=>by show[A.int .i64 (if j<E.length then -1 else 0)]=_;rw[if_pos hj];rfl
 ·intro i dB;have dB:i<=S.length:=dB;rcases Nat.lt_or_ge i S.length with cy|cy
  ·have e0:(i:Int).toNat=i:=Int.toNat_natCast i;obtain⟨hL,hw⟩:=pQ i cy;have a1:=Pb (G:=G) (S.getD i default).s.a hL.1;have a2:=EE (G:=G) N (Aq (S.getD i default).s.a) VG (sP _ hL.1) Nd;rw[Ze i cy] at a2;have a3:=Pb (G:=G) (S.getD i default).s.b hL.2.1;have a4:=EE (G:=G) N (Aq (S.getD i default).s.b) VG (sP _ hL.2.1) Nd;rw[Zf i cy] at a4;have hRi:=VH i;have Xk:=VJ i;have Uz:(P (i:Int).toNat).length=(bu S i).length:=Xk
   have SF:(gR (S.getD i default).w ((FS (dR S) i).map oU)).length=(bu S i).length:=by
    have:=hlen i;rw[lj,List.length_map];omega
   unfold iS fQ at a1 a2 a3 a4;unfold lP at a1 a3;(conv=>whnf);repeat' ((first|refine st ?_|(refine⟨fun h=>?_,fun h=>?_⟩<;>(try simp only[ae] at h)<;>try (exfalso;omega))|(refine .inl ?_;(conv=>whnf);(first|refine⟨_,a1,?_⟩|refine⟨_,a2,?_⟩))|refine wf ?_|refine az ?_|refine nn ?_|fail)<;>conv=>whnf)
   refine ak (fun k:Nat=>k<=(bu S i).length) (fun k=>[(11,.int .i64 (k:Int)),(10,.int .i64 (cI S i k)),(9,.own 2),(64,.af),(12,.af),(13,.af)]) (fun k=>[.box 39 [dX N,r8 E,.sl S.length 1 fun i=>[ke (P i)]],.row 3 1 E.length (EO E (cX (bu S) i++(bu S i).take k)),.row 3 1 k (iR (gR (S.getD i default).w ((FS (dR S) i).map oU)))] ) (fun k=>(bu S i).length-k) 0 (Nat.zero_le _) ?_ ?_
   ·have ea:cX (bu S) i++(bu S i).take 0=cX (bu S) i:=by simp
    rw[ea];(conv=>whnf)
    repeat (first|exact fa|((first|refine fb ?_|(refine And.intro ?_ ?_;rotate_left));conv=>whnf))
   ·intro k hk;have hk:k<=(bu S i).length:=hk;rcases Nat.lt_or_ge k (bu S i).length with jY|jY
    ·(conv=>whnf);exact(Ux i k ⟨cy,jY⟩).out
    ·have e:k=(bu S i).length:=by omega
     subst e;have et:cX (bu S) i++(bu S i).take (bu S i).length=cX (bu S) (i+1):=by rw[List.take_length,qb]
     rw[et];have Zg:=Xj i;have hJ:=Rf (G:=G) (gR (S.getD i default).w ((FS (dR S) i).map oU)) (fun k hk=>J9 hw Zg (by rw[lj] at hk;exact hk)) (by rw[SF];omega);rw[Nw hw.1 Zg] at hJ;unfold oz at hJ;rw[SF] at hJ;(conv=>whnf);repeat' ((first|(exact absurd trivial h)|(exact absurd rfl h)|(exact Bool.noConfusion h)|refine st ?_|(refine⟨fun h=>?_,fun h=>?_⟩<;>(try simp only[ae] at h)<;>try (exfalso;omega))|(refine .inl ?_;(conv=>whnf);(first|refine⟨_,a3,?_⟩|refine⟨_,a4,?_⟩))|(refine .inr (.inr (.inl ?_));(conv=>whnf);refine⟨_,hJ,?_⟩)|refine wf ?_|refine az ?_|refine nn ?_|fail)<;>conv=>whnf)
     refine⟨i+1,cy,(by show S.length-(i+1)<S.length-i;omega),?_⟩;(conv=>whnf)
     repeat (first|exact fa|((first|refine fb ?_|(refine And.intro ?_ ?_;rotate_left));conv=>whnf))
  ·have e:i=S.length:=by omega
   subst e;(conv=>whnf);repeat' ((first|refine st ?_|(refine⟨fun h=>?_,fun h=>?_⟩<;>(try simp only[ae] at h)<;>try (exfalso;omega))|refine wf ?_|refine az ?_|refine nn ?_|fail)<;>conv=>whnf)
   exact Uy.out
theorem npD(l:List Rd)(S:List Sp)(N:List RS)(E:List Ed)(P:Nat->List Pc)(H:Uw G l S N E P):(Xi l S N E P H).U:=by
 obtain⟨hS,hn,hN,hE,hP,Nd,SK,SN,LG,sa,vl,Rr,Rs⟩:=id H;have Xl:=fun j (hj:j<(aK S).length)=>Nv S hj;rw[hE] at Xl;unfold cQ at Xl;refine Re ?_;refine ak (fun i:Nat=>i<=E.length) (fun i=>[(18,.int .i64 (i:Int))]) (fun i=>[.box 39 [dX N,r8 E,.sl S.length 1 fun i=>[ke (P i)]],.row 3 1 E.length (EO E (cX (bu S) S.length))]) (fun i=>E.length-i) 0 (Nat.zero_le _) ?_ ?_
 ·conv=>whnf
  repeat (first|exact fa|((first|refine fb ?_|(refine And.intro ?_ ?_;rotate_left));conv=>whnf))
 ·intro i hi;have hi:i<=E.length:=hi;rcases Nat.lt_or_ge i E.length with cy|cy
  ·have hq:=Xl i cy;(conv=>whnf);repeat' ((first|(exact absurd hq h)|refine st ?_|(refine⟨fun h=>?_,fun h=>?_⟩<;>(try simp only[ae] at h)<;>try (exfalso;omega))|refine wf ?_|refine az ?_|refine nn ?_|fail)<;>conv=>whnf)
   refine⟨i+1,cy,(by show E.length-(i+1)<E.length-i;omega),?_⟩;(conv=>whnf)
   repeat (first|exact fa|((first|refine fb ?_|(refine And.intro ?_ ?_;rotate_left));conv=>whnf))
  ·have e:i=E.length:=by omega
   subst e;(conv=>whnf);repeat' ((first|refine st ?_|(refine⟨fun h=>?_,fun h=>?_⟩<;>(try simp only[ae] at h)<;>try (exfalso;omega))|(refine .inl ?_;(conv=>whnf);refine⟨_,LG,?_⟩)|refine wf ?_|refine az ?_|refine nn ?_|fail)<;>conv=>whnf)
theorem npC(l:List Rd)(S:List Sp)(N:List RS)(E:List Ed)(P:Nat->List Pc)(H:Uw G l S N E P):∀i k,i<S.length/\k<(bu S i).length->(Xi l S N E P H).T i k:=by
 rintro i k ⟨cy,jY⟩;obtain⟨hS,hn,hN,hE,hP,Nd,SK,SN,LG,sa,vl,Rr,Rs⟩:=id H;have VG:∀r∈N,Rk r:=fun r hr=>Sm.rk (qd (je hS) r (by rw[hN];exact hr)).1
 have VH:∀i,(bu S i).length<=102:=fun i=>by
  have:=SN i;rw[<-hP] at this;unfold gx at this
  rwa [List.length_map] at this
 have VI:∀i,i<S.length->∀k,∀x∈cX (bu S) i++(bu S i).take k,0<=x.w:=fun i hi k x hx=>by
  have hx:x∈cQ S:=by
   rcases List.mem_append.1 hx with hx|hx
   ·obtain⟨j,hj,hx⟩:=fF.1 hx;exact fF.2 ⟨j,by omega,hx⟩
   ·exact fF.2 ⟨i,hi,List.mem_of_mem_take hx⟩
  exact(oY hS (by omega) x hx).2.2.2.2.2.1
 have hlen:∀i,(bu S i).length+1=(FS (dR S) i).length:=fun i=>by
  have:=ua (dR S) i;rw[iw];omega
 have VJ:∀i,(P i).length=(bu S i).length:=fun i=>by rw[<-hP];unfold gx;exact List.length_map ..
 have yw:=fun i k hk=>Rh S (i:=i) (k:=k) hk;have LH:=fun r (hr:r∈cQ S)=>xx hr;have UA:=oY hS (show S.length<=900 by omega);have Xm:=Ny S;have Hf:=Ri S
 have Zh:∀i k,k<(bu S i).length->(P i).getD k default=nv (bT S) ((bu S i).getD k default):=fun i k hk=>by
  rw[<-hP];unfold gx;rw[List.getD_eq_getElem?_getD,List.getD_eq_getElem?_getD,List.getElem?_map,List.getElem?_eq_getElem hk];rfl
 rw[hE] at LH Xm Hf;have e0:(i:Int).toNat=i:=Int.toNat_natCast i;have hRi:=VH i;have Xk:=VJ i;have Uz:(P (i:Int).toNat).length=(bu S i).length:=Xk;refine Re ?_
 have hr:(bu S i).getD k default∈cQ S:=by
  rw[fq jY];exact fF.2 ⟨i,cy,List.getElem_mem jY⟩
 obtain⟨ra,rb,Xn⟩:=yw i k jY;obtain⟨d0,d1,d2,d3,d4,d5⟩:=LH _ hr;have Qm:=Zh i k jY;have Wn:=(UA _ hr).2.2.2.2.1;have Sx:=Xm (cX (bu S) i++(bu S i).take k) (VI i cy k) hr;have SO:=Hf (cX (bu S) i++(bu S i).take k) (VI i cy k) hr;have et:cX (bu S) i++(bu S i).take (k+1)=(cX (bu S) i++(bu S i).take k)++[(bu S i).getD k default]:=by rw[List.take_add_one,List.getElem?_eq_getElem jY,List.getD_eq_getElem?_getD,List.getElem?_eq_getElem jY,List.append_assoc];rfl
 rw[<-et] at Sx SO;have He:(nv (bT S) ((bu S i).getD k default)).f=((bu S i).getD k default).fw:=rfl;have VK:(nv (bT S) ((bu S i).getD k default)).w=((bu S i).getD k default).w:=rfl;generalize (bu S i).getD k default=r at *;generalize nv (bT S) r=p at *;obtain⟨x,hx⟩:∃x,x=E.getD p.e default:=⟨_,rfl⟩;rw[<-hx] at d1 d2 d3 d4 d5
 have fA:p.f=true->x.a=cI S i k/\x.b=cI S i (k+1)/\x.f=true:=fun c=>by
  rw[He] at c;have c':=of_decide_eq_true (show decide (r.a<r.b)=true from c);refine⟨?_,?_,d4 (by rw[c];rfl)⟩
  ·rw[d1,<-ra];unfold Rn.lo;rw[if_neg (by omega)]
  ·rw[d2,<-rb];unfold Rn.hi;rw[if_pos c']
 have fB:p.f=false->x.b=cI S i k/\x.a=cI S i (k+1)/\x.k=true:=fun c=>by
  rw[He] at c;have c':=of_decide_eq_false (show decide (r.a<r.b)=false from c);refine⟨?_,?_,d5 (by rw[c];rfl)⟩
  ·rw[d2,<-ra];unfold Rn.hi;rw[if_neg c']
  ·rw[d1,<-rb];unfold Rn.lo;rw[if_pos (by omega)]
 rw[<-VK] at d3 SO;rw[<-VK] at Xn;rw[<-VK] at Sx;clear d1 d2 d4 d5 ra rb He VK Wn;have hkP:(k:Int)<(P (i:Int).toNat).length:=by rw[Uz];omega
 have Zi:(P (i:Int).toNat).getD (k:Int).toNat default=p:=Qm;have vU:E.getD ((p.e:Nat):Int).toNat default=x:=hx.symm;have dC:∀(row:Nat->List A),row 0=[.int .i64 p.w]->∀j,j<k+1->bM k (iR (gR (S.getD i default).w ((FS (dR S) i).map oU))) row j=iR (gR (S.getD i default).w ((FS (dR S) i).map oU)) j:=fun row h0 j hj=>No (iR (gR (S.getD i default).w ((FS (dR S) i).map oU))) k row (by rw[h0,Xn];rfl) j hj;clear Qm Xn;clear VG VH VI LH UA Xm Hf hlen Zh VJ LG sa vl Rr Rs yw hS;rcases Bool.eq_false_or_eq_true p.f with hf|hf
 ·obtain⟨y1,y2,y3⟩:=fA hf;(conv=>whnf);refine EH ?_;intro Q' Xo;repeat' (first|((exfalso;exact nc hf h))|((exfalso;exact nc y3 h))|((refine atR 21 ?_;refine sO (id:=21) 85 8 [(12,.ref 3 0)] [.box 39 [dX N,r8 E,.sl S.length 1 fun i=>[ke (P i)]],.row 3 1 E.length (EO E (cX (bu S) i++(bu S i).take k)),.row 3 1 k (iR (gR (S.getD i default).w ((FS (dR S) i).map oU))),.box 65 (O' p)] ?_ ?_;rotate_left;(conv=>whnf);refine st ?_;conv=>whnf))|((refine atR 24 ?_;refine sO (id:=24) 93 17 [(13,.ref 4 0)] [.box 39 [dX N,r8 E,.sl S.length 1 fun i=>[ke (P i)]],.row 3 1 E.length (EO E (cX (bu S) i++(bu S i).take k)),.row 3 1 k (iR (gR (S.getD i default).w ((FS (dR S) i).map oU))),.box 65 (O' p),.box 67 (Gs x)] ?_ ?_;rotate_left;(conv=>whnf);refine st ?_;conv=>whnf))|(refine st ?_;conv=>whnf)|(refine⟨fun h=>?_,fun h=>?_⟩<;>(try simp only[ae] at h)<;>first|(exfalso;omega)|(conv=>whnf))|((first|refine wf ?_|refine az ?_|refine nn ?_|fail);conv=>whnf))
  all_goals first
   | (refine EI ?_
      conv=>whnf
      repeat (first|exact fa|((first|refine fb ?_|(refine And.intro ?_ ?_;rotate_left));conv=>whnf))
      all_goals first|(rw[Zi];done)|(rw[vU];done)|skip)
   | (rw [Xo]
      (conv=>whnf);refine⟨k+1,jY,(by show(bu S i).length-(k+1)<(bu S i).length-k;omega),?_⟩;(conv=>whnf)
      repeat (first|exact fa|((first|refine fb ?_|(refine And.intro ?_ ?_;rotate_left));conv=>whnf))
      all_goals first
        | exact y2
        | exact .inl fun j hj=>SO (.inl h) j hj
        | exact .inl fun j hj=>SO (.inr h) j hj
        | exact .inl fun j _=>Sx (fun q=>q.elim (by assumption) h) j
        | exact .inl fun j hj=>dC _ rfl j hj
        | skip)
 ·obtain⟨y1,y2,y3⟩:=fB hf;(conv=>whnf);refine EH ?_;intro Q' Xo;repeat' (first|((exfalso;exact nc h hf))|((exfalso;exact nc y3 h))|((refine atR 21 ?_;refine sO (id:=21) 85 8 [(12,.ref 3 0)] [.box 39 [dX N,r8 E,.sl S.length 1 fun i=>[ke (P i)]],.row 3 1 E.length (EO E (cX (bu S) i++(bu S i).take k)),.row 3 1 k (iR (gR (S.getD i default).w ((FS (dR S) i).map oU))),.box 65 (O' p)] ?_ ?_;rotate_left;(conv=>whnf);refine st ?_;conv=>whnf))|((refine atR 24 ?_;refine sO (id:=24) 93 17 [(13,.ref 4 0)] [.box 39 [dX N,r8 E,.sl S.length 1 fun i=>[ke (P i)]],.row 3 1 E.length (EO E (cX (bu S) i++(bu S i).take k)),.row 3 1 k (iR (gR (S.getD i default).w ((FS (dR S) i).map oU))),.box 65 (O' p),.box 67 (Gs x)] ?_ ?_;rotate_left;(conv=>whnf);refine st ?_;conv=>whnf))|(refine st ?_;conv=>whnf)|(refine⟨fun h=>?_,fun h=>?_⟩<;>(try simp only[ae] at h)<;>first|(exfalso;omega)|(conv=>whnf))|((first|refine wf ?_|refine az ?_|refine nn ?_|fail);conv=>whnf))
  all_goals first
   | (refine EI ?_
      conv=>whnf
      repeat (first|exact fa|((first|refine fb ?_|(refine And.intro ?_ ?_;rotate_left));conv=>whnf))
      all_goals first|(rw[Zi];done)|(rw[vU];done)|skip)
   | (rw [Xo]
      (conv=>whnf);refine⟨k+1,jY,(by show(bu S i).length-(k+1)<(bu S i).length-k;omega),?_⟩;(conv=>whnf)
      repeat (first|exact fa|((first|refine fb ?_|(refine And.intro ?_ ?_;rotate_left));conv=>whnf))
      all_goals first
        | exact y2
        | exact .inl fun j hj=>SO (.inl h) j hj
        | exact .inl fun j hj=>SO (.inr h) j hj
        | exact .inl fun j _=>Sx (fun q=>q.elim (by assumption) h) j
        | exact .inl fun j hj=>dC _ rfl j hj
        | skip)
theorem Av(l:List Rd)(S:List Sp)(N:List RS)(E:List Ed)(P:Nat->List Pc)(H:Uw G l S N E P):aa Tryz.prog G 5 [kO l] (.sb true) :=
 (Zd l S N E P H).main ⟨(Xi l S N E P H).main (fun i k h=>⟨npC l S N E P H i k h⟩) ⟨npD l S N E P H⟩⟩
end Go.Proofs.YtijddijloelacaaGreat
namespace Go.Proofs.YtijddijloelacaaGreat
open Go.Proofs.YtijddijloelacaaGreat.Am Go.Sort Go.Proofs Go.Lib Go.NetL
theorem Aw(i j:Inhabited cc): @np i = @np j:=rfl
theorem Kj(i j:Inhabited cc)(s t:Sg): @pE i s t = @pE j s t:=by
 unfold pE MT;rw[Aw i j]
theorem Gz(i j:Inhabited cc)(s:Sg): @fk i s = @fk j s:=by
 unfold fk;rw[Aw i j]
theorem ub(i j:Inhabited cc)(s:Sg)(l:List Sg)(b:Int):∀k,@iM i s l b k = @iM j s l b k
 | 0=>by unfold iM;exact Gz i j s
 | k+1=>by unfold iM;rw[ub i j s l b k,Kj i j]
theorem ND(i j:Inhabited cc)(l:List Sg): @FS i l = @FS j l:=by
 funext k;unfold FS;exact ub i j _ _ _ _
variable [Inhabited cc]
variable {G:aG}
def Rt(S:List Sp):A:=Aj (cJ (dR S)) (aK S) S.length (gx S)
theorem Xq{k:List KC}(h:iD Bq k):∃a b:Int,k=[.int a,.int b]:=by
 rcases k with _|⟨k1,k⟩
 ·exact False.elim h
 ·cases k1 with
  | int a =>
   rcases k with _|⟨k2,k⟩
   ·exact False.elim h
   ·cases k2 with
    | int b =>
     rcases k with _|⟨k3,k⟩
     ·exact⟨a,b,rfl⟩
     ·exact False.elim h
    | bool b=>exact False.elim h
    | str b=>exact False.elim h
  | bool b=>exact False.elim h
  | str b=>exact False.elim h
theorem Ru(S:List Sp)(k:List KC)(hk:iD Bq k):eH (EM (cQ S)) k=true↔∃x∈bT S,k=[.int x.i,.int x.k]:=by
 obtain⟨a,b,rfl⟩:=Xq hk;show(EM (cQ S) (a,b)).isSome=true↔_;rw[kg];constructor
 ·intro h;exact⟨_,h,rfl⟩
 ·rintro⟨x,hx,e⟩;simp only[List.cons.injEq,KC.int.injEq,and_true] at e;obtain⟨e1,e2⟩:=e;subst e1;subst e2;exact hx
theorem n50{n:Nat}(h:n<=50):(2+2*n)*n<=5100:=Nat.le_trans (Nat.mul_le_mul (show 2+2*n<=102 by omega) h) (by decide)
theorem jz(S:List Sp):(dR S).length=S.length:=List.length_map ..
theorem xy(S:List Sp)(hn:S.length<=50)(i:Nat):(FS (dR S) i).length<=102:=by
 have:=xv (dR S) i;rw[jz] at this;omega
theorem Kk(S:List Sp)(hn:S.length<=50):∀i,i<=S.length->(cX (bu S) i).length<=102*i:=fun i _ =>
 Ap _ _ _ fun j _=>by rw[iw];have:=xy S hn j;omega
theorem xz(S:List Sp)(hn:S.length<=50):(bT S).length<=5100:=by
 rw[kh];have h1:=(Um (cQ S)).2;have h2:=Kk S hn S.length (Nat.le_refl _);unfold aK cQ at *;omega
theorem Kl(dA:(default:cc).ns)(l:List Rd)(hl:Lt l)(h:jd l=0)(hn:(LF l).length<=50):aa Tryz.prog G 15 [kO l] (.tup [Rt (LF l),.int .i64 0]):=by
 have hS:=CL h;have h1:=JH (G:=G) l hl h;generalize LF l=S at *;have hO:=je hS
 have hN:(cJ (dR S)).length<=1000000:=by
  have:=Al hO;rw[jz] at this;exact Nat.le_trans this (Nat.le_trans (n50 hn) (by decide))
 have h2:=tn (i:=Hj) dA (@QK Hj G (fun q=>q) (dR S) (Ra hS (by omega)) (@FS Hj (dR S)) (@Un Hj _));rw[ND Hj inferInstance] at h2;have h3:=Nc (G:=G) dA (dR S).length (FS (dR S)) (2+2*(dR S).length) (fun i _=>xv (dR S) i) (Nat.le_trans (n50 (by rw[jz];exact hn)) (by decide)) (by rw[jz];omega) (fun i hi c hc=>(mD hO hi hc).2) (qc hO);rw[<-mE hO] at h3;rw[jz] at h2 h3
 have h4:∀i,i<S.length->aa Tryz.prog G 47 [.agg (QU (S.getD i default)),tO (FS (dR S) i),.mv true SG (rZ (cJ (dR S))) (xp (cJ (dR S)))] (vj (bu S i)):=fun i hi=>by
  have bV:i<(dR S).length:=by rw[jz];exact hi
  exact Q3 (S.getD i default) (FS (dR S) i) (cJ (dR S)) (vS hS hi).2 (CI _ (by rw[jz];omega) i) (fun c hc=>decide_eq_true (by rw[JS (mD hO bV hc).2];exact List.mem_map.2 ⟨_,oX hO bV hc,rfl⟩)) hN
 have h5:=Gt (G:=G) dA (eH (EM (cQ S))) (eV (EM (cQ S))) (bT S) (qf S) (Ru S) (Nat.le_trans (xz S hn) (by decide))
 have k:=Uj (G:=G) l S hn (FS (dR S)) (cJ (dR S)) (bu S) (bT S) h1 h2 h3 h4 (fun i _=>by rw[iw];have:=xy S hn i;omega) (Nat.le_trans (xz S hn) (by decide))
  (fun k hk=>(kg S k.i k.k).2 hk) (J' S) (fun i hi r hr=>decide_eq_true (List.mem_map.2 ⟨⟨r.lo,r.hi⟩,(kg S _ _).1 (nR hi hr),rfl⟩)) h5
 rw[show((bT S).map fun k=>(EM (cX (bu S) S.length) (k.i,k.k)).getD default)=aK S from CN S] at k;exact k
end Go.Proofs.YtijddijloelacaaGreat
namespace Go.Proofs.YtijddijloelacaaGreat
open Go.Proofs.YtijddijloelacaaGreat.Am Go.Sort Go.Proofs Go.Lib Go.NetL
variable [Inhabited cc]
variable {G:aG}
def Xr:Rd:=⟨1,[⟨0,0⟩,⟨2,2⟩],[5],false⟩
def Xs:Rd:=⟨2,[⟨0,2⟩,⟨2,0⟩],[8],true⟩
def CQ:List Rd:=[Xr,Xs]
theorem Km:jd CQ=0:=by decide
theorem UB:Lt CQ:=⟨by decide,by decide⟩
theorem Xt:(cJ (dR (LF CQ))).length=5:=of_decide_eq_true (by kernel_rfl)
theorem Xu:(aK (LF CQ)).length=4:=of_decide_eq_true (by kernel_rfl)
theorem Rv:(LF CQ).length=2:=of_decide_eq_true (by kernel_rfl)
/-- A region in three parts; in between rows of ours become values. -/
theorem CR{P:Program}{tt:TT}{s:List A}{m:List aq}{Q:Exit->List A->List aq->Prop}(aJ:bp P tt){id:Nat}{l:List Oper}(n k:Nat)(bs Zj:List Nat)
  (h:mF P G tt l (l.take n) s m fun s m=>oZ bs s m fun s m=>mF P G tt l ((l.drop n).take k) s m fun s m=>oZ Zj s m fun s m=>mF P G tt l ((l.drop n).drop k) s m (Q .normal)):WA P G (.region id l.toArray false) Q s m:=by
 unfold WA;intro c a w ids hG hs;refine wp_region_lit ?_
 have:=o0 (Q:=fun e a w=>∃s m ids,Q e s m/\aF c s m a w ids) aJ hG (l.drop n) (fun s m a w ids hq hs=>by
  obtain⟨s',m',ab,h',bH⟩:=gZ bs hs hq
  have t:=o0 (Q:=fun e a w=>∃s m ids,Q e s m/\aF c s m a w ids) aJ hG ((l.drop n).drop k) (fun s m a w ids hq hs=>by
   obtain⟨s',m',ab,h',bH⟩:=gZ Zj hs hq;exact lk aJ hG (fun s m a w ids hq hs=>⟨s,m,ids,hq,hs⟩) ((l.drop n).drop k) s' m' a w ab bH h') ((l.drop n).take k) s' m' a w ab bH h'
  rwa [List.take_append_drop] at t) (l.take n) s m a w ids hs h
 rwa [List.take_append_drop] at this
theorem Kn(N:List RS)(E:List Ed)(P:Nat->List Pc)(e1:N.length=5)(e2:E.length=4)
  (h1:aa Tryz.prog G 15 [kO CQ] (.tup [Aj N E 2 P,.int .i64 0])) (h2:aa Tryz.prog G 27 [Aj N E 2 P] (.sb true)):aa Tryz.prog G 20 [] (.sb true):=by
 unfold Aj dX r8 at h1 h2;rw[e1,e2] at h1 h2;refine aa.ah al Tryz.func20 rfl rfl _ rfl ?_;(conv=>whnf)
 iterate 3 (first|(refine st ?_;conv=>whnf))
 refine CR al 4 5 [0,1] [2,3] ?_;(conv=>whnf);refine Or.inr (Or.inr (Or.inl ?_));(conv=>whnf);refine⟨_,aa.fit h1 ?_,?_⟩
 ·(conv=>whnf);refine⟨rfl,?_⟩;(conv=>whnf);refine Or.inr fun i hi=>?_
  match i,hi with
  | 0,_ =>
   (conv=>whnf);refine⟨rfl,?_⟩;(conv=>whnf);refine⟨rfl,?_⟩;(conv=>whnf);refine⟨Or.inl fun i hi=>?_,?_⟩
   ·match i,hi with
    | 0,_=>rfl
    | 1,_=>rfl
   ·(conv=>whnf);refine⟨rfl,?_⟩;(conv=>whnf);refine⟨Or.inl fun i hi=>?_,?_⟩
    ·match i,hi with
     | 0,_=>rfl
    ·conv=>whnf
     first|done|rfl
  | 1,_ =>
   (conv=>whnf);refine⟨rfl,?_⟩;(conv=>whnf);refine⟨rfl,?_⟩;(conv=>whnf);refine⟨Or.inl fun i hi=>?_,?_⟩
   ·match i,hi with
    | 0,_=>rfl
    | 1,_=>rfl
   ·(conv=>whnf);refine⟨rfl,?_⟩;(conv=>whnf);refine⟨Or.inl fun i hi=>?_,?_⟩
    ·match i,hi with
     | 0,_=>rfl
    ·conv=>whnf
     first|done|rfl
 ·(conv=>whnf);repeat' ((first|(exact absurd trivial h)|(contradiction)|refine st ?_|(refine⟨fun h=>?_,fun h=>?_⟩<;>try simp only[ae] at h)|(refine .inl ?_;(conv=>whnf);refine⟨_,h2,?_⟩)|refine wf ?_|refine az ?_|refine nn ?_|fail)<;>conv=>whnf)
  all_goals first|rfl
theorem GA(S:List Sp):∀i,i<S.length->CJ S->S.length<=900->∀p∈gx S i,Gx (aK S).length p:=by
 intro i hi h hn p hp;unfold gx at hp;obtain⟨r,hr,rfl⟩:=List.mem_map.1 hp;have hk:=(kg S r.lo r.hi).1 (nR hi hr);have ho:=EG h hn hi r hr;refine⟨?_,ho.2.2.2.2.2.1,ho.2.2.2.2.2.2⟩;have:=List.idxOf_lt_length_of_mem (show[KC.int r.lo,.int r.hi]∈(bT S).map kP from List.mem_map.2 ⟨_,hk,rfl⟩);rw[List.length_map,kh] at this;exact this
theorem Ax(S:List Sp)(hn:S.length<=50):(aK S).length<=5100:=by rw[<-kh];exact xz S hn
theorem vV{S:List Sp}(h:CJ S)(hn:S.length<=50):(cJ (dR S)).length<=5100:=by
 have:=Al (je h);rw[jz] at this;exact Nat.le_trans this (n50 hn)
theorem vW(S:List Sp)(hn:S.length<=50)(i:Nat):(gx S i).length<=102:=by
 unfold gx;rw[List.length_map,iw];have:=xy S hn i;omega
theorem Ko(S:List Sp)(h:CJ S)(hn:S.length<=50):aa Tryz.prog G 27 [Rt S] (.sb true) :=
 NB _ _ _ _ (Gu (je h)) (qd (je h)) (Nat.le_trans (vV h hn) (by decide)) (Nat.le_trans (Ax S hn) (by decide)) (by omega) (qf S) (Gw h (by omega))
  (fun i hi=>GA S i hi h (by omega)) (fun i _=>Nat.le_trans (vW S hn i) (by decide))
theorem Kq(dA:(default:cc).ns):aa Tryz.prog G 20 [] (.sb true):=by
 have h1:=Kl (G:=G) dA CQ UB Km (by rw[Rv];decide);have h2:=Ko (G:=G) _ (CL Km) (by rw[Rv];decide);unfold Rt at h1 h2;rw[Rv] at h1 h2;exact Kn _ _ _ Xt Xu h1 h2
theorem yF(dA:(default:cc).ns)(l:List Rd):aa Tryz.prog G 5 [kO l] (.sb true):=by
 have LG:=Kq (G:=G) dA;have sa:=Uv (G:=G) l 40;by_cases hf:Kf l 40
 ·rw[decide_eq_true hf] at sa;have aD:=At hf.2.2;have vl:=QT (G:=G) l aD;by_cases h0:jd l=0
  ·rw[h0] at vl;have hn:(LF l).length<=50:=by rw[oT];have:=hf.2.1;omega
   have hS:=CL h0;have hN:=Nat.le_trans (vV hS hn) (by decide:5100<=1000000);have hE:=Nat.le_trans (Ax _ hn) (by decide:5100<=1000000);exact Av l _ _ _ _ ⟨hS,hn,rfl,rfl,rfl,hN,hE,fun i=>vW _ hn i,LG,sa,vl,Kl dA l aD h0 hn,Gn l aD h0⟩
  ·generalize jd l=e at *;refine aa.ah al Tryz.func5 rfl rfl _ rfl ?_;(conv=>whnf);repeat' ((first|(exact absurd trivial h)|(exact absurd h h0)|(exact Bool.noConfusion h)|refine st ?_|(refine⟨fun h=>?_,fun h=>?_⟩<;>try simp only[ae] at h)|(refine .inl ?_;(conv=>whnf);(first|refine⟨_,sa,?_⟩|refine⟨_,vl,?_⟩|refine⟨_,LG,?_⟩))|refine wf ?_|refine az ?_|refine nn ?_|fail)<;>conv=>whnf)
 ·rw[decide_eq_false hf] at sa;refine aa.ah al Tryz.func5 rfl rfl _ rfl ?_;(conv=>whnf);repeat' ((first|(exact Bool.noConfusion h)|refine st ?_|(refine⟨fun h=>?_,fun h=>?_⟩<;>try simp only[ae] at h)|(refine .inl ?_;(conv=>whnf);(first|refine⟨_,sa,?_⟩|refine⟨_,LG,?_⟩))|refine wf ?_|refine az ?_|refine nn ?_|fail)<;>conv=>whnf)
end Go.Proofs.YtijddijloelacaaGreat

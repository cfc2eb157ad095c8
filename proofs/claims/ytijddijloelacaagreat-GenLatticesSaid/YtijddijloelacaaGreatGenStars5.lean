/-
  The walks and plain laws, part 5.
-/
import Derived.Tactics
import Derived.Test.YtijddijloelacaaGreatGenStars4
import Derived.Test.YtijddijloelacaaGreatGenStars2
import Derived.Test.YtijddijloelacaaGreatGenStarsm4
set_option linter.unusedSimpArgs false
set_option linter.unusedSectionVars false
set_option linter.unusedVariables false
set_option maxRecDepth 100000
set_option maxHeartbeats 4000000
namespace Go.NetL
/-- A run: from a node to another one, its weight, whether in one direction alone. -/
structure Rn where
 a:Int
 b:Int
 w:Int
 ow:Bool
 deriving Inhabited
structure Ed where
 a:Int
 b:Int
 w:Int
 f:Bool
 k:Bool
 deriving Inhabited,DecidableEq
def Rn.lo(r:Rn):Int:=if r.b<r.a then r.b else r.a
def Rn.hi(r:Rn):Int:=if r.a<r.b then r.b else r.a
def Rn.fw(r:Rn):Bool:=decide (r.a<r.b)
def Bl(o:Option Ed)(r:Rn):Ed:=match o with
 | none=>⟨r.lo,r.hi,r.w,r.fw || !r.ow,!r.fw || !r.ow⟩
 | some e=>⟨e.a,e.b,if r.w<e.w then r.w else e.w,e.f||r.fw || !r.ow,e.k || !r.fw || !r.ow⟩
abbrev FO:=Int×Int->Option Ed
def stM(M:FO)(r:Rn):FO:=fun k=>if k=(r.lo,r.hi) then some (Bl (M k) r) else M k
def EM(l:List Rn):FO:=l.foldl stM fun _=>none
def Ed.key(e:Ed):Int×Int:=(e.a,e.b)
def nC(x y:Int×Int):Prop:=x.1<y.1\/(x.1=y.1/\x.2<y.2)
instance (x y:Int × Int):Decidable (nC x y):=inferInstanceAs (Decidable (_\/_))
theorem LF{x y:Int×Int}(h:nC x y)(h':nC y x):False:=by unfold nC at *;omega
theorem Dh{x:Int×Int}(h:nC x x):False:=LF h h
theorem Iw{x y z:Int×Int}(h:nC x y)(h':nC y z):nC x z:=by unfold nC at *;omega
theorem LG{x y:Int×Int}(h:¬nC x y)(h':¬nC y x):x=y:=Prod.ext (by unfold nC at *;omega) (by unfold nC at *;omega)
/-- The place of the edge between nodes. -/
def Qx(l:List Ed)(k:Int×Int):Option Nat:=l.findIdx? fun e=>decide (e.key=k)
def Bm(l:List Ed)(k:Int×Int):Option Ed:=l.find? fun e=>decide (e.key=k)
/-- How many from the front on are ahead of it, as they are gone through. -/
def Pg(l:List Ed)(e:Ed):Nat:=(List.range l.length).foldl (fun n i=>if nC (l.getD i default).key e.key then i+1 else n) 0
def wo(l:List Ed)(e:Ed):List Ed:=l.take (Pg l e)++e::l.drop (Pg l e)
def FP(l:List Ed)(r:Rn):List Ed:=match Qx l (r.lo,r.hi) with
 | none=>wo l (Bl none r)
 | some i=>l.set i (Bl (some (l.getD i default)) r)
def mE(l:List Ed):Prop:=(l.map Ed.key).Pairwise nC
theorem Ph{l:List Ed}(h:mE l){i j:Nat}(kU:i<j)(hj:j<l.length):nC (l.getD i default).key (l.getD j default).key:=by
 unfold mE at h;rw[List.pairwise_map,List.pairwise_iff_getElem] at h;have:=h i j (by omega) hj kU;rw[List.getD_eq_getElem?_getD,List.getD_eq_getElem?_getD,List.getElem?_eq_getElem (by omega),List.getElem?_eq_getElem hj];exact this
theorem dQ{l:List Ed}(h:mE l){e:Ed}{k:Int×Int}:Bm l k=some e↔e∈l/\e.key=k:=by
 unfold Bm;constructor
 ·intro hf;exact⟨List.mem_of_find?_eq_some hf,by have:=List.find?_some hf;exact of_decide_eq_true this⟩
 ·rintro⟨hm,hk⟩;cases hf:l.find? fun e=>decide (e.key=k) with
  | none =>
   rw[List.find?_eq_none] at hf;exact absurd (decide_eq_true hk) (hf e hm)
  | some e' =>
   have m':=List.mem_of_find?_eq_some hf;have k':e'.key=k:=by have:=List.find?_some hf;exact of_decide_eq_true this
   have:e'=e:=by
    obtain⟨i,hi,rfl⟩:=List.getElem_of_mem m';obtain⟨j,hj,rfl⟩:=List.getElem_of_mem hm;unfold mE at h;rw[List.pairwise_map,List.pairwise_iff_getElem] at h;rcases Nat.lt_trichotomy i j with q|q|q
    ·exact(Dh (by have:=h i j hi hj q;rw[k',hk] at this;exact this)).elim
    ·subst q;rfl
    ·exact(Dh (by have:=h j i hj hi q;rw[k',hk] at this;exact this)).elim
   rw[this]
theorem LH{l:List Ed}{k:Int×Int}(h:Qx l k=none):∀e∈l,e.key≠k:=by
 unfold Qx at h;rw[List.findIdx?_eq_none_iff] at h;intro e he hk;have:=h e he;rw[decide_eq_true hk] at this;cases this
theorem Di{l:List Ed}{k:Int×Int}{i:Nat}(h:Qx l k=some i):∃hi:i<l.length,l[i].key=k:=by
 unfold Qx at h;rw[List.findIdx?_eq_some_iff_getElem] at h;obtain⟨hi,h1,_⟩:=h;exact⟨hi,of_decide_eq_true h1⟩
/-- Where an edge is put. -/
theorem LI{l:List Ed}(h:mE l)(e:Ed):Pg l e<=l.length/\(∀i,i<Pg l e->nC (l.getD i default).key e.key)/\∀i,Pg l e<=i->i<l.length->¬nC (l.getD i default).key e.key:=by
 have key:∀n,n<=l.length->let a:=(List.range n).foldl (fun n i=>if nC (l.getD i default).key e.key then i+1 else n) 0;a<=n/\(∀i,i<a->nC (l.getD i default).key e.key)/\∀i,a<=i->i<n->¬nC (l.getD i default).key e.key:=by
  intro n
  induction n with
  | zero=>intro _;exact⟨Nat.le_refl _,fun i hi=>absurd hi (Nat.not_lt_zero _),fun i _ hi=>absurd hi (Nat.not_lt_zero _)⟩
  | succ n ih =>
   intro hn;obtain⟨a1,a2,a3⟩:=ih (by omega);simp only[List.range_succ,List.foldl_append,List.foldl_cons,List.foldl_nil];generalize (List.range n).foldl (fun n i=>if nC (l.getD i default).key e.key then i+1 else n) 0=a at *;by_cases c:nC (l.getD n default).key e.key
   ·rw[if_pos c];refine⟨Nat.le_refl _,fun i hi=>?_,fun i h1 h2=>by omega⟩;by_cases q:i=n
    ·subst q;exact c
    ·exact Iw (Ph h (by omega:i<n) (by omega)) c
   ·rw[if_neg c];refine⟨by omega,a2,fun i h1 h2=>?_⟩;by_cases q:i=n
    ·subst q;exact c
    ·exact a3 i h1 (by omega)
 exact key l.length (Nat.le_refl _)
theorem rm{l:List Ed}{i:Nat}(h:i<l.length):l.getD i default=l[i]:=by rw[List.getD_eq_getElem?_getD,List.getElem?_eq_getElem h];rfl
theorem LJ{l:List Ed}(h:mE l){e:Ed}(hn:∀x∈l,x.key≠e.key):mE (wo l e)/\∀x,x∈wo l e↔x=e\/x∈l:=by
 obtain⟨a1,a2,a3⟩:=LI h e;unfold wo;generalize Pg l e=a at *;constructor
 ·unfold mE at *;rw[List.pairwise_map] at *;rw[List.pairwise_append,List.pairwise_cons]
  have ht:∀x∈l.take a,nC x.key e.key:=fun x hx=>by
   obtain⟨i,hi,rfl⟩:=List.getElem_of_mem hx;rw[List.length_take] at hi;rw[List.getElem_take];have:=a2 i (by omega);rw[rm (by omega)] at this;exact this
  have hd:∀x∈l.drop a,nC e.key x.key:=fun x hx=>by
   obtain⟨i,hi,rfl⟩:=List.getElem_of_mem hx;rw[List.length_drop] at hi;rw[List.getElem_drop];have h1:=a3 (a+i) (by omega) (by omega);rw[rm (by omega)] at h1;refine Classical.byContradiction fun h2=>?_;exact hn _ (List.getElem_mem (by omega)) (LG h1 h2)
  refine⟨h.sublist (List.take_sublist _ _),⟨hd,h.sublist (List.drop_sublist _ _)⟩,?_⟩;intro x hx y hy;rcases List.mem_cons.1 hy with rfl|hy
  ·exact ht x hx
  ·exact Iw (ht x hx) (hd y hy)
 ·intro x;rw[List.mem_append,List.mem_cons];have:x∈l↔x∈l.take a\/x∈l.drop a:=by rw[<-List.mem_append,List.take_append_drop]
  rw[this];constructor
  ·rintro(h|h|h)
   ·exact .inr (.inl h)
   ·exact .inl h
   ·exact .inr (.inr h)
  ·rintro(h|h|h)
   ·exact .inr (.inl h)
   ·exact .inl h
   ·exact .inr (.inr h)
/-- One run more. -/
theorem RZ{l:List Ed}{M:FO}(h:mE l)(hM:∀k,Bm l k=M k)(r:Rn):mE (FP l r)/\∀k,Bm (FP l r) k=stM M r k:=by
 unfold FP;cases hp:Qx l (r.lo,r.hi) with
 | none =>
  have hn:=LH hp;have hk:(Bl none r).key=(r.lo,r.hi):=rfl;obtain⟨p1,p2⟩:=LJ h (e:=Bl none r) (fun x hx=>by rw[hk];exact hn x hx);refine⟨p1,fun k=>?_⟩
  have QY:Bm l (r.lo,r.hi)=none:=by
   cases e:Bm l (r.lo,r.hi) with
   | none=>rfl
   | some x=>exact absurd ((dQ h).1 e).2 (hn x ((dQ h).1 e).1)
  unfold stM;by_cases c:k=(r.lo,r.hi)
  ·subst c;rw[if_pos rfl,<-hM,QY];exact(dQ p1).2 ⟨(p2 _).2 (.inl rfl),hk⟩
  ·rw[if_neg c,<-hM];cases e:Bm l k with
   | some x=>exact(dQ p1).2 ⟨(p2 _).2 (.inr ((dQ h).1 e).1),((dQ h).1 e).2⟩
   | none =>
    cases e':Bm (wo l (Bl none r)) k with
    | none=>rfl
    | some x =>
     obtain⟨m1,m2⟩:=(dQ p1).1 e';rcases (p2 x).1 m1 with rfl|m1
     ·exact absurd m2.symm (by rw[hk];exact c)
     ·rw[(dQ h).2 ⟨m1,m2⟩] at e;cases e
 | some i =>
  obtain⟨hi,hk⟩:=Di hp;have hg:=rm hi;simp only[];rw[hg];have gn:(Bl (some l[i]) r).key=l[i].key:=rfl
  have UD:(l.set i (Bl (some l[i]) r)).map Ed.key=l.map Ed.key:=by
   apply List.ext_getElem (by simp);intro j h1 h2;simp only[List.getElem_map,List.getElem_set];split
   ·rename_i q;subst q;exact gn
   ·rfl
  have p1:mE (l.set i (Bl (some l[i]) r)):=by unfold mE;rw[UD];exact h
  refine⟨p1,fun k=>?_⟩;unfold stM;have UE:Bm l (r.lo,r.hi)=some l[i]:=(dQ h).2 ⟨List.getElem_mem hi,hk⟩;by_cases c:k=(r.lo,r.hi)
  ·subst c;rw[if_pos rfl,<-hM,UE];exact(dQ p1).2 ⟨List.mem_iff_getElem.2 ⟨i,by simpa using hi,by simp⟩,gn.trans hk⟩
  ·rw[if_neg c,<-hM];cases e:Bm l k with
   | some x =>
    obtain⟨m1,m2⟩:=(dQ h).1 e;obtain⟨j,hj,rfl⟩:=List.getElem_of_mem m1;have:i≠j:=fun q=>by subst q;exact c (m2.symm.trans hk)
    refine(dQ p1).2 ⟨List.mem_iff_getElem.2 ⟨j,by simpa using hj,?_⟩,m2⟩;rw[List.getElem_set,if_neg this]
   | none =>
    cases e':Bm (l.set i (Bl (some l[i]) r)) k with
    | none=>rfl
    | some x =>
     obtain⟨m1,m2⟩:=(dQ p1).1 e';obtain⟨j,hj,rfl⟩:=List.getElem_of_mem m1;rw[List.length_set] at hj;rw[List.getElem_set] at m2;split at m2
     ·exact absurd (m2.symm.trans (gn.trans hk)) c
     ·rw[(dQ h).2 ⟨List.getElem_mem hj,m2⟩] at e;cases e
def ER(l:List Rn):List Ed:=l.foldl FP []
theorem Nc:∀(rs:List Rn) (l:List Ed) (M:FO),mE l->(∀k,Bm l k=M k)->mE (rs.foldl FP l)/\∀k,Bm (rs.foldl FP l) k=rs.foldl stM M k
 | [],l,M,h,hM=>⟨h,hM⟩
 | r::rs,l,M,h,hM=>by
  obtain⟨a,b⟩:=RZ h hM r;exact Nc rs _ _ a b
theorem Ix(l:List Rn):mE (ER l)/\∀k,Bm (ER l) k=EM l k:=Nc l [] _ .nil fun _=>rfl
end Go.NetL
namespace Go.Proofs.YtijddijloelacaaGreat
open Go.Proofs.YtijddijloelacaaGreat.Am Go.Sort Go.Proofs Go.Lib Go.NetL
variable [Inhabited bY]
variable {G:aG}
def R0(c:Cu):List KC:=[.bool c.1.p,.int (c.1.X.a:Nat),.int (c.1.X.b:Nat),.int (c.1.X.c:Nat),.int (c.1.X.d:Nat),.int (c.1.X.e:Nat),.int (c.1.X.f:Nat),.int (c.1.X.g:Nat),.int (c.1.X.h:Nat),.bool c.1.q,.int (c.1.Y.a:Nat),.int (c.1.Y.b:Nat),.int (c.1.Y.c:Nat),.int (c.1.Y.d:Nat),.int (c.1.Y.e:Nat),.int (c.1.Y.f:Nat),.int (c.1.Y.g:Nat),.int (c.1.Y.h:Nat),.int (c.1.W.a:Nat),.int (c.1.W.b:Nat),.int (c.1.W.c:Nat),.int (c.1.W.d:Nat),.int (c.1.W.e:Nat),.int (c.1.W.f:Nat),.int (c.1.W.g:Nat),.int (c.1.W.h:Nat)]
def XW:A->KC
 | .int _ n=>.int n
 | .sb b=>.bool b
 | _=>.bool false
theorem Pj{c:Cu}(h:mL (rl c)=OT c.1):R0 c=yQ (rl c):=by
 have:=congrArg (List.map XW) h;exact this.symm
def Wv(N:List RS)(c:Cu):Int:=((N.map yQ).idxOf (R0 c):Nat)
def UF(sp:Sp)(L:List Cu)(N:List RS)(i:Nat):Rn:=⟨Wv N (L.getD i default),Wv N (L.getD (i+1) default),(wi sp.w (L.map xv)).getD i 0,sp.ow⟩
def qb(sp:Sp)(L:List Cu)(N:List RS)(k:Nat):List Rn:=(List.range k).map (UF sp L N)
def Nd(sp:Sp)(L:List Cu)(N:List RS):List Rn:=qb sp L N (L.length-1)
def Qy(r:Rn):List A:=[.int .i64 r.lo,.int .i64 r.hi,.sb r.fw,.int .i64 r.w,.sb r.ow]
def uk(l:List Rn):A:=.sl l.length 5 fun i=>Qy (l.getD i default)
theorem mr(sp:Sp)(L:List Cu)(N:List RS)(k:Nat):(qb sp L N k).length=k:=by simp[qb]
theorem Bn(sp:Sp)(L:List Cu)(N:List RS)(k:Nat):qb sp L N (k+1)=qb sp L N k++[UF sp L N k]:=by simp[qb,List.range_succ]
theorem Pk(sp:Sp)(L:List Cu)(N:List RS)(hw:0<=sp.w/\sp.w<=2147483648)(hP:Tx (L.map xv))(hk:∀c∈L,qN N (R0 c)=true)(hN:N.length<=1000000):
  aa Tryz.prog G 47 [.agg (Qv sp),sJ L,.mv true Qw (qN N) (wj N)] (uk (Nd sp L N)):=by
 have l2:=hP.l2;have l3:=hP.l3;rw[List.length_map] at l2 l3;have h1:=Ir (G:=G) L (by omega);have h2:=Io (G:=G) sp.w (L.map xv) hw hP;have UC:=Dg sp.w (L.map xv);rw[List.length_map] at UC;refine aa.aj ak Tryz.func47 rfl rfl _ rfl ?_;(conv=>whnf);repeat' ((first|refine st ?_|(refine⟨fun h=>?_,fun h=>?_⟩<;>try simp only[af] at h)|(refine .inl ?_;(conv=>whnf);(first|refine⟨_,h1,?_⟩|refine⟨_,h2,?_⟩))|refine wf ?_|refine aA ?_|refine nn ?_|fail)<;>conv=>whnf)
 refine gw 7 107 5 rfl ?_;(conv=>whnf);refine al (fun i:Nat=>i<=L.length-1) (fun i=>[(24,.int .i64 (i:Int)),(7,.own 1),(10,.ae),(11,.ae),(12,.ae),(13,.ae)]) (fun i=>[.box 62 (Qv sp),.row 107 5 (qb sp L N i).length (fun j=>Qy ((qb sp L N i).getD j default))]) (fun i=>L.length-1-i) 0 (Nat.zero_le _) ?_ ?_
 ·conv=>whnf
  repeat (first|exact fa|((first|refine fb ?_|(refine And.intro ?_ ?_;rotate_left));conv=>whnf))
 ·intro i hi;have hi:i<=L.length-1:=hi;rcases Nat.lt_or_ge i (L.length-1) with dE|dE
  ·have k1:=hk _ (List.getElem_mem (show i<L.length by omega));have k2:=hk _ (List.getElem_mem (show i+1<L.length by omega));rw[<-nX] at k1 k2;have hlen:=mr sp L N i;(conv=>whnf);repeat' ((first|(exfalso;omega)|(exact absurd k1 (by rw[show qN N (R0 (L.getD i default))=false from h];exact Bool.noConfusion))|(exact absurd k2 (by rw[show qN N (R0 (L.getD (i+1) default))=false from h];exact Bool.noConfusion))|refine st ?_|(refine⟨fun h=>?_,fun h=>?_⟩<;>try simp only[af] at h)|refine wf ?_|refine aA ?_|refine nn ?_|fail)<;>conv=>whnf)
   refine⟨i+1,(by show i+1<=L.length-1;omega),(by show L.length-1-(i+1)<L.length-1-i;omega),?_⟩;(conv=>whnf)
   repeat (first|exact fa|((first|refine fb ?_|(refine And.intro ?_ ?_;rotate_left));conv=>whnf))
   ·exact Or.inl fun j hj=>by rw[Bn];exact iI Qy _ (UF sp L N i) _ rfl _ rfl j hj
   ·rw[mr,mr]
  ·have e:i=L.length-1:=by omega
   subst e;(conv=>whnf);repeat' ((first|(exfalso;omega)|refine st ?_|(refine⟨fun h=>?_,fun h=>?_⟩<;>try simp only[af] at h)|refine wf ?_|refine aA ?_|refine nn ?_|fail)<;>conv=>whnf)
   exact Or.inl fun _ _=>rfl
def Ka(e:Ed):List A:=[.int .i64 e.a,.int .i64 e.b,.int .i64 e.w,.sb e.f,.sb e.k]
def eH(M:FO)(k:List KC):Bool:=match k with
 | [.int a,.int b]=>(M (a,b)).isSome
 | _=>false
def eV(M:FO)(k:List KC):A:=match k with
 | [.int a,.int b]=>.agg (Ka ((M (a,b)).getD default))
 | _=>.ae
def Qz(M:FO):aq:=.ez true [.int .i64,.int .i64] (eH M) (eV M)
theorem Pl(M:FO)(r:Rn)(key:List KC):mY (eH M) [.int r.lo,.int r.hi] true key=eH (stM M r) key:=by
 unfold mY;split
 ·rename_i e;subst e;show true=(stM M r (r.lo,r.hi)).isSome;unfold NetL.stM;rw[if_pos rfl];rfl
 ·rename_i hne;unfold eH;split
  ·rename_i a b;have:(a,b)≠(r.lo,r.hi):=fun e=>hne (by rw[Prod.mk.injEq] at e;rw[e.1,e.2]);unfold NetL.stM;rw[if_neg this]
  ·rfl
theorem Pm(M:FO)(r:Rn)(x:A)(hx:x=.agg (Ka (Bl (M (r.lo,r.hi)) r)))(key:List KC):pd (eV M) [.int r.lo,.int r.hi] x key=eV (stM M r) key:=by
 unfold pd;split
 ·rename_i e;subst e;show x=.agg (Ka ((stM M r (r.lo,r.hi)).getD default));unfold NetL.stM;rw[if_pos rfl];exact hx
 ·rename_i hne;unfold eV;split
  ·rename_i a b;have:(a,b)≠(r.lo,r.hi):=fun e=>hne (by rw[Prod.mk.injEq] at e;rw[e.1,e.2]);unfold NetL.stM;rw[if_neg this]
  ·rfl
theorem Iy(M:FO)(r:Rn):aL Tryz.prog G 48 [.omap 1,.agg (Qy r)] [.ghost [.ae,.ae,.omap 1],Qz M] (.tup []) [.ghost [.ae,.ae,.omap 1],Qz (stM M r)]:=by
 have hv:=Pm M r;have hh:=Pl M r;refine aL.aj ak Tryz.func48 rfl rfl _ rfl ?_;(conv=>whnf);cases hm:M (r.lo,r.hi) with
 | none =>
  rw[hm] at hv;have hs:(M (r.lo,r.hi)).isSome=false:=by rw[hm];rfl
  repeat' (first|(exact Bool.noConfusion (hs.symm.trans h))|((have q1:r.fw=true:=by assumption;have q2:r.fw=false:=by assumption;exact Bool.noConfusion (q1.symm.trans q2)))|((refine Iz (id:=7) [(4,.ref 3 0)] [.ghost [.ae,.ae,.omap 1],Qz M,.box 107 (Qy r),.box 67 (Ka (Bl none r))] ?_ ?_;rotate_left;(conv=>whnf);refine st ?_;conv=>whnf))|(refine st ?_;conv=>whnf)|(refine⟨fun h=>?_,fun h=>?_⟩<;>(try simp only[af] at h)<;>conv=>whnf)|((first|refine wf ?_|refine aA ?_|refine nn ?_|fail);conv=>whnf))
  all_goals first
   | exact hh h
   | exact fun _=>hv _ rfl h
   | (clear hh hv
      repeat (first|exact fa|((first|refine fb ?_|(refine And.intro ?_ ?_;rotate_left));conv=>whnf))
      all_goals first|exact fun _ _=>rfl|(simp_all [Bl];done)|(exfalso;simp_all;done)|skip)
 | some e =>
  rw[hm] at hv;have hs:(M (r.lo,r.hi)).isSome=true:=by rw[hm];rfl
  have hd:(M (r.lo,r.hi)).getD default=e:=by rw[hm];rfl
  repeat' (first|(exact Bool.noConfusion (hs.symm.trans h))|((have q1:r.fw=true:=by assumption;have q2:r.fw=false:=by assumption;exact Bool.noConfusion (q1.symm.trans q2)))|((refine Iz (id:=7) [(4,.ref 3 0)] [.ghost [.ae,.ae,.omap 1],Qz M,.box 107 (Qy r),.box 67 (Ka (Bl (some e) r))] ?_ ?_;rotate_left;(conv=>whnf);refine st ?_;conv=>whnf))|(refine st ?_;conv=>whnf)|(refine⟨fun h=>?_,fun h=>?_⟩<;>(try simp only[af] at h)<;>conv=>whnf)|((first|refine wf ?_|refine aA ?_|refine nn ?_|fail);conv=>whnf))
  all_goals first
   | exact hh h
   | exact fun _=>hv _ rfl h
   | (clear hh hv
      repeat (first|exact fa|((first|refine fb ?_|(refine And.intro ?_ ?_;rotate_left));conv=>whnf))
      all_goals first|exact fun _ _=>rfl|(simp_all [Bl];done)|(exfalso;simp_all;done)|skip)
theorem LL(row:Nat->List A):aa Tryz.prog G 207 [.sl 0 2 row,.int .i64 0,.int .i64 0,.fn 51 []] (.tup []):=by
 refine aa.aj ak Tryz.func207 rfl rfl _ rfl ?_;(conv=>whnf);repeat' ((first|refine st ?_|(refine⟨fun h=>?_,fun h=>?_⟩<;>try simp only[af] at h)|refine wf ?_|refine aA ?_|refine nn ?_|fail)<;>conv=>whnf)
 refine al (fun _:Nat=>True) (fun _=>[(8,.int .i64 1)]) (fun _=>[]) (fun _=>0) 0 trivial ?_ ?_
 ·exact ff
 ·intro i _;(conv=>whnf);repeat' ((first|refine st ?_|(refine⟨fun h=>?_,fun h=>?_⟩<;>try simp only[af] at h)|refine wf ?_|refine aA ?_|refine nn ?_|fail)<;>conv=>whnf)
  all_goals first|trivial|(exfalso;omega)
theorem LM(row:Nat->List A):aa Tryz.prog G 151 [.sl 0 2 row,.int .i64 0,.int .i64 0,.int .i64 0,.fn 51 []] (.tup []):=by
 refine aa.aj ak Tryz.func151 rfl rfl _ rfl ?_;(conv=>whnf)
 repeat (first|(refine st ?_;conv=>whnf))
 refine al (fun _:Nat=>True) (fun _=>[(1,.int .i64 0),(2,.int .i64 0),(3,.int .i64 0)]) (fun _=>[]) (fun _=>0) 0 trivial ?_ ?_
 ·exact ff
 ·intro i _;have hi:=LL (G:=G) row;(conv=>whnf);repeat' ((first|refine st ?_|(refine⟨fun h=>?_,fun h=>?_⟩<;>try simp only[af] at h)|(refine .inl ?_;(conv=>whnf);refine⟨_,hi,?_⟩)|refine wf ?_|refine aA ?_|refine nn ?_|fail)<;>conv=>whnf)
  all_goals first|trivial|(exact absurd trivial h)|(exact absurd h (by decide))
theorem IA(row:Nat->List A):aa Tryz.prog G 100 [.sl 0 2 row,.fn 51 []] (.tup []):=by
 refine aa.aj ak Tryz.func100 rfl rfl _ rfl ?_;have hi:=LM (G:=G) row;(conv=>whnf);repeat' ((first|refine st ?_|(refine⟨fun h=>?_,fun h=>?_⟩<;>try simp only[af] at h)|(refine .inl ?_;(conv=>whnf);(first|refine⟨_,Cz,?_⟩|refine⟨_,hi,?_⟩))|refine wf ?_|refine aA ?_|refine nn ?_|fail)<;>conv=>whnf)
 all_goals trivial
theorem IB(a b:Pr):aa Tryz.prog G 51 [.agg (To a),.agg (To b)] (.int .i64 (nK a b)):=by
 refine aa.aj ak Tryz.func51 rfl rfl _ rfl ?_;(conv=>whnf);repeat' ((first|refine st ?_|(refine⟨fun h=>?_,fun h=>?_⟩<;>try simp only[af] at h)|refine wf ?_|refine aA ?_|refine nn ?_|fail)<;>conv=>whnf)
 repeat' ((first|refine st ?_|(refine⟨fun h=>?_,fun h=>?_⟩<;>try simp only[af] at h)|(refine .inl ?_;(conv=>whnf);refine⟨_,jB _ _,?_⟩)|refine wf ?_|refine aA ?_|refine nn ?_|fail)<;>conv=>whnf)
 refine Or.inl ?_;(conv=>whnf);refine⟨_,(F6 [dD a.i b.i,dD a.k b.k] (by simp)).fit ?_,rfl,?_⟩
 ·(conv=>whnf);refine⟨rfl,Or.inl fun i hi=>?_⟩
  match i,hi with
  | 0,_=>rfl
  | 1,_=>rfl
 ·(conv=>whnf);repeat' ((first|refine st ?_|(refine⟨fun h=>?_,fun h=>?_⟩<;>try simp only[af] at h)|refine wf ?_|refine aA ?_|refine nn ?_|fail)<;>conv=>whnf)
  rfl
theorem IC(dn:(default:bY).ns)(l:List Pr)(hl:l.length<=1000000)(h0:0<l.length):
  aL Tryz.prog G 100 [.own 1,.fn 51 []] [.ghost [.own 1,.ae,.ae],.row 105 2 l.length (bC vQ l)] (.tup []) [.ghost [.own 1,.ae,.ae],.row 105 2 l.length (bC vQ (ee nK l))]:=by
 exact pX dn (@aL.nD FE Tryz.prog Tryz.mJ G Pr _ (fun h=>h) Tryz.Ei 2 (by omega) (fun w=>by kernel_rfl) (fun w=>by kernel_rfl) vQ (fun _=>rfl) nK kj 51 [] rfl
  (fun x y=>@IB FE G x y) ⟨_,_,Tryz.func100,rfl,rfl⟩ 105 l hl h0)
theorem LN(has:List KC->Bool)(val:List KC->A):
  aa Tryz.prog G 50 [.mv true Ak has val] (.fn 101 [.bref [.mv true Ak has val] 0]):=by
 refine aa.aj ak Tryz.func50 rfl rfl _ rfl ?_;(conv=>whnf);repeat' ((first|refine st ?_|(refine⟨fun h=>?_,fun h=>?_⟩<;>try simp only[af] at h)|refine wf ?_|refine aA ?_|refine nn ?_|fail)<;>conv=>whnf)
theorem Bo(dn:(default:bY).ns)(has:List KC->Bool)(val:List KC->A)(K:List Pr)(oK:K.Nodup)(hK:∀k,gX Ak k->(has k=true↔∃x∈K,k=[.int x.i,.int x.k]))(hn:K.length<=1000000):
  aL Tryz.prog G 99 [.fn 101 [.bref [.mv true Ak has val] 0]] [] (.own 0) [.bC 105 2 K.length (GD K)]:=by
 have hm:=vS (G:=G) dn has val K oK hK hn;refine aL.aj ak Tryz.func99 rfl rfl _ rfl ?_;(conv=>whnf);repeat' ((first|refine st ?_|(refine⟨fun h=>?_,fun h=>?_⟩<;>try simp only[af] at h)|((first|refine .inr (.inr (.inr ?_))|refine .inr ?_);(conv=>whnf);refine⟨_,_,hm,?_⟩)|refine wf ?_|refine aA ?_|refine nn ?_|fail)<;>conv=>whnf)
 exact fun _ h=>h
theorem EV(dn:(default:bY).ns)(has:List KC->Bool)(val:List KC->A)(K:List Pr)(hs:K.Pairwise iG)(hK:∀k,gX Ak k->(has k=true↔∃x∈K,k=[.int x.i,.int x.k]))(hn:K.length<=1000000):
  aa Tryz.prog G 49 [.fn 101 [.bref [.mv true Ak has val] 0],.fn 51 []] (.sl K.length 2 (bC vQ K)):=by
 have oK:K.Nodup:=by
  rw[List.nodup_iff_pairwise_ne];refine hs.imp fun {a b} h e=>?_;subst e;unfold iG at h;omega
 have hm:=Bo (G:=G) dn has val K oK hK hn;refine aa.aj ak Tryz.func49 rfl rfl _ rfl ?_;(conv=>whnf);repeat' ((first|((refine ID (code:=.region 2 _ _) 0 rfl ?_))|refine st ?_|(refine⟨fun h=>?_,fun h=>?_⟩<;>try simp only[af] at h)|((first|refine .inr (.inr (.inr ?_))|refine .inr ?_);(conv=>whnf);refine⟨_,_,hm,?_⟩)|refine wf ?_|refine aA ?_|refine nn ?_|fail)<;>conv=>whnf)
 rintro row ⟨l,hl,hr⟩;obtain rfl:row=bC vQ l:=funext hr;have hlen:=hl.length_eq
 have XX:ee nK l=K:=by
  refine ki _ _ (pO l (hl.nodup_iff.2 oK)) hs fun x=>?_;rw[(cP nK kj l).1.mem_iff,hl.mem_iff]
 by_cases hz:K.length=0
 ·refine me 0 ?_;(conv=>whnf);have h0:aa Tryz.prog G 100 [.sl K.length 2 (bC vQ l),.fn 51 []] (.tup []):=by rw[hz];exact IA _
  repeat' ((first|refine st ?_|(refine⟨fun h=>?_,fun h=>?_⟩<;>try simp only[af] at h)|(refine .inl ?_;(conv=>whnf);refine⟨_,h0,?_⟩)|refine wf ?_|refine aA ?_|refine nn ?_|fail)<;>conv=>whnf)
  exact .inl fun i hi=>by omega
 ·have hc:=IC (G:=G) dn l (by omega) (by omega);rw[XX,hlen] at hc;(conv=>whnf);repeat' ((first|refine st ?_|(refine⟨fun h=>?_,fun h=>?_⟩<;>try simp only[af] at h)|(refine .inr (.inl ?_);(conv=>whnf);refine⟨_,_,hc,?_⟩)|refine wf ?_|refine aA ?_|refine nn ?_|fail)<;>conv=>whnf)
  exact .inl fun _ _=>rfl
def kP(x:Pr):List KC:=[.int x.i,.int x.k]
def Bp(L:List Pr)(k:List KC):Bool:=decide (k∈L.map kP)
def IE(L:List Pr)(k:List KC):A:=.int .i64 ((L.map kP).idxOf k:Nat)
theorem Pn(N:List Pr)(k:Nat)(h:k<N.length)(key:List KC):mY (Bp (N.take k)) (kP (N.getD k default)) true key=Bp (N.take (k+1)) key:=by
 have ht:(N.take (k+1)).map kP=(N.take k).map kP++[kP (N.getD k default)]:=by
  rw[List.take_add_one,List.getElem?_eq_getElem h,List.getD_eq_getElem?_getD,List.getElem?_eq_getElem h,List.map_append];rfl
 unfold mY Bp;rw[ht];split
 ·rename_i e;subst e;exact(decide_eq_true (List.mem_append_right _ (List.mem_singleton.2 rfl))).symm
 ·rename_i e;rw[decide_eq_decide,List.mem_append,List.mem_singleton];exact⟨.inl,fun q=>q.resolve_right e⟩
theorem Po{N:List Pr}(hn:(N.map kP).Nodup)(k:Nat)(h:k<N.length)(key:List KC):pd (IE N) (kP (N.getD k default)) (.int .i64 (k:Int)) key=IE N key:=by
 unfold pd;split
 ·rename_i e;subst e;unfold IE;have:=Iv hn (k:=k) (by simpa using h);rw[List.getElem_map] at this;rw[List.getD_eq_getElem?_getD,List.getElem?_eq_getElem h];show _=A.int .i64 (((N.map kP).idxOf (kP N[k]):Nat):Int);rw[this]
 ·rfl
/-- A piece: its edge's place, whether it goes forth, its weight. -/
structure Pc where
 e:Nat
 f:Bool
 w:Int
 deriving Inhabited,DecidableEq
def UG(p:Pc):List A:=[.int .i64 (p.e:Int),.sb p.f,.int .i64 p.w]
def IF(l:List Pc):A:=.sl l.length 3 fun i=>UG (l.getD i default)
def FQ(K:List Pr)(r:Rn):Pc:=⟨(K.map kP).idxOf [.int r.lo,.int r.hi],r.fw,r.w⟩
theorem IG(R:List Rn)(K:List Pr)(hR:R.length<=1000000)(hk:∀r∈R,Bp K [.int r.lo,.int r.hi]=true):
  aa Tryz.prog G 52 [uk R,.mv true Ak (Bp K) (IE K)] (IF (R.map (FQ K))):=by
 refine aa.aj ak Tryz.func52 rfl rfl _ rfl ?_;(conv=>whnf);repeat' ((first|refine st ?_|(refine⟨fun h=>?_,fun h=>?_⟩<;>try simp only[af] at h)|refine wf ?_|refine aA ?_|refine nn ?_|fail)<;>conv=>whnf)
 refine gw 5 65 3 rfl ?_;(conv=>whnf);refine al (fun i:Nat=>i<=R.length) (fun i=>[(10,.int .i64 (i:Int)),(5,.own 0),(7,.ae)]) (fun i=>[.row 65 3 ((R.take i).map (FQ K)).length (fun j=>UG (((R.take i).map (FQ K)).getD j default))]) (fun i=>R.length-i) 0 (Nat.zero_le _) ?_ ?_
 ·conv=>whnf
  repeat (first|exact fa|((first|refine fb ?_|(refine And.intro ?_ ?_;rotate_left));conv=>whnf))
 ·intro i hi;have hi:i<=R.length:=hi;rcases Nat.lt_or_ge i R.length with dE|dE
  ·have k1:=hk _ (List.getElem_mem dE);have hg:R.getD i default=R[i]:=by rw[List.getD_eq_getElem?_getD,List.getElem?_eq_getElem dE];rfl
   rw[<-hg] at k1;have et:(R.take (i+1)).map (FQ K)=(R.take i).map (FQ K)++[FQ K (R.getD i default)]:=by rw[List.take_add_one,List.getElem?_eq_getElem dE,hg,List.map_append];rfl
   have hlen:((R.take i).map (FQ K)).length<=1000000:=by rw[List.length_map,List.length_take];omega
   (conv=>whnf);repeat' ((first|(exfalso;omega)|(exact Bool.noConfusion (k1.symm.trans h))|((refine mq (id:=6) 4 [3] rfl rfl ?_;conv=>whnf))|refine st ?_|(refine⟨fun h=>?_,fun h=>?_⟩<;>try simp only[af] at h)|refine wf ?_|refine aA ?_|refine nn ?_|fail)<;>conv=>whnf)
   refine⟨i+1,dE,(by show R.length-(i+1)<R.length-i;omega),?_⟩;(conv=>whnf)
   repeat (first|exact fa|((first|refine fb ?_|(refine And.intro ?_ ?_;rotate_left));conv=>whnf))
   ·exact Or.inl fun j hj=>by rw[et];exact iI UG _ (FQ K (R.getD i default)) _ rfl _ rfl j hj
   ·rw[et,List.length_append];rfl
  ·have e:i=R.length:=by omega
   subst e;rw[List.take_length];(conv=>whnf);repeat' ((first|(exfalso;omega)|refine st ?_|(refine⟨fun h=>?_,fun h=>?_⟩<;>try simp only[af] at h)|refine wf ?_|refine aA ?_|refine nn ?_|fail)<;>conv=>whnf)
   exact .inl fun _ _=>rfl
def gq(R:Nat->List Rn)(n:Nat):List Rn:=(List.range n).flatMap R
theorem uT(R:Nat->List Rn)(n:Nat):gq R (n+1)=gq R n++R n:=by simp[gq,List.range_succ]
theorem LO(l:List Rn)(r:Rn):EM (l++[r])=stM (EM l) r:=by simp[EM,List.foldl_append]
theorem Pp(f:Nat->List A)(i:Nat)(r:Nat->List A)(hr:r 0=f i)(j:Nat)(hj:j<i+1):bN i f r j=f j:=by
 unfold bN;split
 ·rfl
 ·rename_i h;have h:¬j<i:=fun h'=>by rw[show Nat.blt j i=true from Nat.ble_eq_true_of_le h'] at h;cases h
  obtain rfl:j=i:=by omega
  rw[Nat.sub_self,hr]
def nY(S:List Sp)(k:Nat):List Sg:=(S.take k).map (·.s)
def Sa(E:List Ed):A:=.sl E.length 5 fun i=>Ka (E.getD i default)
def IH(N:List RS)(E:List Ed)(n:Nat)(P:Nat->List Pc):A:=.agg [fK N,Sa E,.sl n 1 fun i=>[IF (P i)]]
theorem Sb(l:List Rd)(S:List Sp)(hn:S.length<=50)(F:Nat->List Cu)(N:List RS)(R:Nat->List Rn)(K:List Pr)
  (h1:aa Tryz.prog G 44 [sP l] (.tup [RW S,.int .i64 0]))
  (h2:aa Tryz.prog G 45 [qF (S.map (·.s))] (.tup [o8 S.length F,.int .i64 0]))
  (h3:aa Tryz.prog G 46 [o8 S.length F] (.tup [fK N,.mv true Qw (qN N) (wj N)]))
  (h4:∀i,i<S.length->aa Tryz.prog G 47 [.agg (Qv (S.getD i default)),sJ (F i),.mv true Qw (qN N) (wj N)] (uk (R i)))
  (hR:∀i,i<S.length->(R i).length<=1000)
  (hK:K.length<=100000) (T2:∀k∈K,(EM (gq R S.length) (k.i,k.k)).isSome=true) (XY:(K.map kP).Nodup) (XZ:∀i,i<S.length->∀r∈R i,Bp K [.int r.lo,.int r.hi]=true)
  (h5:aa Tryz.prog G 49 [.fn 101 [.bref [.mv true Ak (eH (EM (gq R S.length))) (eV (EM (gq R S.length)))] 0],.fn 51 []] (.sl K.length 2 (bC vQ K))) :
  aa Tryz.prog G 15 [sP l] (.tup [IH N (K.map fun k=>(EM (gq R S.length) (k.i,k.k)).getD default) S.length fun i=>(R i).map (FQ K),.int .i64 0]):=by
 refine aa.aj ak Tryz.func15 rfl rfl _ rfl ?_;(conv=>whnf);repeat' ((first|((exfalso;exact h trivial))|refine st ?_|(refine⟨fun h=>?_,fun h=>?_⟩<;>try simp only[af] at h)|(refine .inl ?_;(conv=>whnf);refine⟨_,h1,?_⟩)|refine wf ?_|refine aA ?_|refine nn ?_|fail)<;>conv=>whnf)
 refine gw 6 60 4 rfl ?_;(conv=>whnf);refine al (fun i:Nat=>i<=S.length) (fun i=>[(37,.int .i64 (i:Int)),(6,.own 1),(8,.ae)]) (fun i=>[.box 39 [.aR,.aR,.aR],.row 60 4 (nY S i).length (Rf (nY S i))]) (fun i=>S.length-i) 0 (Nat.zero_le _) ?_ ?_
 ·exact ff
 ·intro i hi;have hi:i<=S.length:=hi;rcases Nat.lt_or_ge i S.length with dE|dE
  ·have hg:S.getD i default=S[i]:=by rw[List.getD_eq_getElem?_getD,List.getElem?_eq_getElem dE];rfl
   have et:nY S (i+1)=nY S i++[(S.getD i default).s]:=by unfold nY;rw[List.take_add_one,List.getElem?_eq_getElem dE,hg,List.map_append];rfl
   have hlen:(nY S i).length<=50:=by unfold nY;rw[List.length_map,List.length_take];omega
   (conv=>whnf);repeat' ((first|(exfalso;omega)|refine st ?_|(refine⟨fun h=>?_,fun h=>?_⟩<;>try simp only[af] at h)|refine wf ?_|refine aA ?_|refine nn ?_|fail)<;>conv=>whnf)
   refine⟨i+1,dE,(by show S.length-(i+1)<S.length-i;omega),?_⟩;(conv=>whnf)
   repeat (first|exact fa|((first|refine fb ?_|(refine And.intro ?_ ?_;rotate_left));conv=>whnf))
   ·exact Or.inl fun j hj=>by rw[et];exact iI (fun s:Sg=>[A.int .i64 s.a.x,.int .i64 s.a.y,.int .i64 s.b.x,.int .i64 s.b.y]) _ ((S.getD i default).s) _ rfl _ rfl j hj
   ·rw[et,List.length_append];rfl
  ·have e:i=S.length:=by omega
   subst e;have es:nY S S.length=S.map (·.s):=by unfold nY;rw[List.take_length]
   rw[es];unfold qF o8 at h2;unfold o8 fK at h3;(conv=>whnf);repeat' ((first|(exfalso;omega)|refine st ?_|(refine⟨fun h=>?_,fun h=>?_⟩<;>try simp only[af] at h)|(refine .inr (.inr (.inl ?_));(conv=>whnf);(first|refine⟨_,h2,?_⟩|refine⟨_,h3,?_⟩))|refine wf ?_|refine aA ?_|refine nn ?_|fail)<;>conv=>whnf)
   have X2:∀k,(fun _=>false:List KC->Bool) k=eH (EM (gq R 0)) k:=fun k=>by unfold eH;split<;>rfl
   refine gw 14 101 1 rfl ?_;(conv=>whnf);refine al (fun i:Nat=>i<=S.length) (fun i=>[(60,.int .i64 (i:Int)),(14,.own 3),(15,.ae),(16,.ae),(17,.ae),(19,.ae)]) (fun i=>[.box 39 [.aR,.aR,.aR],.dead,Qz (EM (gq R i)),.row 101 1 i fun j=>[uk (R j)]]) (fun i=>S.length-i) 0 (Nat.zero_le _) ?_ ?_
   ·conv=>whnf
    repeat (first|exact fa|((first|refine fb ?_|(refine And.intro ?_ ?_;rotate_left));conv=>whnf))
    ·exact X2
    ·exact fun _ h=>Bool.noConfusion h
   ·intro i dI;have dI:i<=S.length:=dI;rcases Nat.lt_or_ge i S.length with dE|dE
    ·have k4:=h4 i dE;have kR:=hR i dE;unfold uk at k4;(conv=>whnf);repeat' ((first|(exfalso;omega)|((refine mq (id:=19) 6 [0,1,2,3] rfl rfl ?_;conv=>whnf))|refine st ?_|(refine⟨fun h=>?_,fun h=>?_⟩<;>try simp only[af] at h)|(refine .inl ?_;(conv=>whnf);refine⟨_,k4,?_⟩)|refine wf ?_|refine aA ?_|refine nn ?_|fail)<;>conv=>whnf)
     refine al (fun k:Nat=>k<=(R i).length) (fun k=>[(78,.int .i64 (k:Int)),(14,.own 3),(16,.ae),(19,.ae)]) (fun k=>[.box 39 [.aR,.aR,.aR],.dead,Qz (EM (gq R i++(R i).take k)),.row 101 1 (i+1) fun j=>[uk (R j)]]) (fun k=>(R i).length-k) 0 (Nat.zero_le _) ?_ ?_
     ·have e0:gq R i++(R i).take 0=gq R i:=by simp
      rw[e0];(conv=>whnf)
      repeat (first|exact fa|((first|refine fb ?_|(refine And.intro ?_ ?_;rotate_left));conv=>whnf))
      all_goals first|exact .inl fun j hj=>Pp (fun j=>[uk (R j)]) i _ rfl j hj
     ·intro k hk;have hk:k<=(R i).length:=hk;rcases Nat.lt_or_ge k (R i).length with pN|pN
      ·have hm:=Iy (G:=G) (EM (gq R i++(R i).take k)) ((R i).getD k default);have et:gq R i++(R i).take (k+1)=(gq R i++(R i).take k)++[(R i).getD k default]:=by rw[List.take_add_one,List.getElem?_eq_getElem pN,List.getD_eq_getElem?_getD,List.getElem?_eq_getElem pN,List.append_assoc];rfl
       rw[<-LO,<-et] at hm;(conv=>whnf);repeat' ((first|(exfalso;omega)|refine st ?_|(refine⟨fun h=>?_,fun h=>?_⟩<;>try simp only[af] at h)|(refine .inr (.inl ?_);(conv=>whnf);refine⟨_,_,hm,?_⟩)|refine wf ?_|refine aA ?_|refine nn ?_|fail)<;>conv=>whnf)
       refine⟨k+1,pN,(by show(R i).length-(k+1)<(R i).length-k;omega),?_⟩;exact ff
      ·have e:k=(R i).length:=by omega
       subst e;have et:gq R i++(R i).take (R i).length=gq R (i+1):=by rw[List.take_length,uT]
       rw[et];(conv=>whnf);repeat' ((first|(exfalso;omega)|refine st ?_|(refine⟨fun h=>?_,fun h=>?_⟩<;>try simp only[af] at h)|refine wf ?_|refine aA ?_|refine nn ?_|fail)<;>conv=>whnf)
       refine⟨i+1,dE,(by show S.length-(i+1)<S.length-i;omega),?_⟩;exact ff
    ·have e:i=S.length:=by omega
     subst e;have Nf:=LN (G:=G) (eH (EM (gq R S.length))) (eV (EM (gq R S.length)));(conv=>whnf);repeat' ((first|(exfalso;omega)|refine st ?_|(refine⟨fun h=>?_,fun h=>?_⟩<;>try simp only[af] at h)|(refine .inr (.inr (.inl ?_));(conv=>whnf);(first|refine⟨_,Nf,?_⟩|refine⟨_,h5,?_⟩))|refine wf ?_|refine aA ?_|refine nn ?_|fail)<;>conv=>whnf)
     generalize hE:(K.map fun k=>(EM (gq R S.length) (k.i,k.k)).getD default)=E;have X3:E.length=K.length:=by rw[<-hE,List.length_map]
     refine Dj 4 1 67 5 rfl rfl ?_;(conv=>whnf);refine al (fun i:Nat=>i<=K.length) (fun i=>[(94,.int .i64 (i:Int)),(22,.ae),(23,.ae)]) (fun i=>[.box 39 [.aR,.aR,.aR],.dead,.dead,.row 101 1 S.length fun j=>[uk (R j)],.box 39 [.sl N.length 26 fun i=>mL (N.getD i default),.own 6,.aR],.ez true Ak (Bp (K.take i)) (IE K),.row 67 5 i fun j=>Ka (E.getD j default)]) (fun i=>K.length-i) 0 (Nat.zero_le _) ?_ ?_
     ·conv=>whnf
      repeat (first|exact fa|((first|refine fb ?_|(refine And.intro ?_ ?_;rotate_left));conv=>whnf))
      exact fun _ h=>Bool.noConfusion h
     ·intro i Th;have Th:i<=K.length:=Th;rcases Nat.lt_or_ge i K.length with dE|dE
      ·have k1:=T2 _ (List.getElem_mem dE);have hg:K.getD i default=K[i]:=by rw[List.getD_eq_getElem?_getD,List.getElem?_eq_getElem dE];rfl
       rw[<-hg] at k1
       have X4:E.getD i default=(EM (gq R S.length) ((K.getD i default).i,(K.getD i default).k)).getD default:=by
        rw[<-hE,List.getD_eq_getElem?_getD,List.getElem?_map,List.getElem?_eq_getElem dE,hg];rfl
       (conv=>whnf);repeat' ((first|(exfalso;omega)|(exact Bool.noConfusion (k1.symm.trans h))|((refine mq (id:=32) 10 [0,1,2,3,4,5,9] rfl rfl ?_;conv=>whnf))|refine st ?_|(refine⟨fun h=>?_,fun h=>?_⟩<;>try simp only[af] at h)|refine wf ?_|refine aA ?_|refine nn ?_|fail)<;>conv=>whnf)
       refine⟨i+1,dE,(by show K.length-(i+1)<K.length-i;omega),?_⟩;(conv=>whnf)
       repeat (first|exact fa|((first|refine fb ?_|(refine And.intro ?_ ?_;rotate_left));conv=>whnf))
       all_goals first
        | exact fun key=>Pn K i dE key
        | exact fun key _=>Po XY i dE key
        | exact .inl fun j hj=>Pp (fun j=>Ka (E.getD j default)) i _ (by show _=Ka (E.getD i default);rw[X4];rfl) j hj
               
      ·have e:i=K.length:=by omega
       subst e;rw[List.take_length];(conv=>whnf);repeat' ((first|(exfalso;omega)|refine st ?_|(refine⟨fun h=>?_,fun h=>?_⟩<;>try simp only[af] at h)|refine wf ?_|refine aA ?_|refine nn ?_|fail)<;>conv=>whnf)
       refine me 5 ?_;(conv=>whnf);refine Dj 4 2 63 1 rfl rfl ?_;(conv=>whnf);refine al (fun i:Nat=>i<=S.length) (fun i=>[(113,.int .i64 (i:Int))]) (fun i=>[.box 39 [.aR,.aR,.aR],.dead,.dead,.row 101 1 S.length fun j=>[uk (R j)],.box 39 [.sl N.length 26 fun i=>mL (N.getD i default),.own 6,.own 7],.dead,.row 67 5 K.length fun j=>Ka (E.getD j default),.row 63 1 i fun j=>[IF ((R j).map (FQ K))]]) (fun i=>S.length-i) 0 (Nat.zero_le _) ?_ ?_
       ·exact ff
       ·intro i Ww;have Ww:i<=S.length:=Ww;rcases Nat.lt_or_ge i S.length with dE|dE
        ·have k6:=IG (G:=G) (R i) K (Nat.le_trans (hR i dE) (by omega)) (XZ i dE);unfold IF at k6;(conv=>whnf);repeat' ((first|(exfalso;omega)|((refine mq (id:=37) 10 [0,1,2,3,4,5,6,9] rfl rfl ?_;conv=>whnf))|refine st ?_|(refine⟨fun h=>?_,fun h=>?_⟩<;>try simp only[af] at h)|(refine .inl ?_;(conv=>whnf);refine⟨_,k6,?_⟩)|refine wf ?_|refine aA ?_|refine nn ?_|fail)<;>conv=>whnf)
         refine⟨i+1,dE,(by show S.length-(i+1)<S.length-i;omega),?_⟩;(conv=>whnf)
         repeat (first|exact fa|((first|refine fb ?_|(refine And.intro ?_ ?_;rotate_left));conv=>whnf))
         all_goals first
          | exact .inl fun j hj=>Pp (fun j=>[IF ((R j).map (FQ K))]) i _ rfl j hj
                   
        ·have e:i=S.length:=by omega
         subst e;(conv=>whnf);repeat' ((first|(exfalso;omega)|refine st ?_|(refine⟨fun h=>?_,fun h=>?_⟩<;>try simp only[af] at h)|refine wf ?_|refine aA ?_|refine nn ?_|fail)<;>conv=>whnf)
         repeat (first|exact fa|((first|refine fb ?_|(refine And.intro ?_ ?_;rotate_left));conv=>whnf))
         all_goals first|exact X3.symm|exact .inl fun _ _=>rfl
/-- An edge put in its place. -/
theorem II(l:List Ed)(e:Ed)(k:Nat):(List.range (k+1)).foldl (fun n i=>if nC (l.getD i default).key e.key then i+1 else n) 0=if nC (l.getD k default).key e.key then k+1 else (List.range k).foldl (fun n i=>if nC (l.getD i default).key e.key then i+1 else n) 0:=by
 rw[List.range_succ,List.foldl_append];rfl
def yv(l:List Ed)(e:Ed)(k:Nat):Nat:=(List.range k).foldl (fun n i=>if nC (l.getD i default).key e.key then i+1 else n) 0
theorem oW(l:List Ed)(e:Ed):∀k,yv l e k<=k
 | 0=>Nat.le_refl _
 | k+1=>by
  have:=oW l e k;unfold yv at *;rw[II];split<;>omega
end Go.Proofs.YtijddijloelacaaGreat
namespace Go.Proofs.YtijddijloelacaaGreat
open Go.Proofs.YtijddijloelacaaGreat.Am Go.Sort Go.Proofs Go.Lib Go.NetL
theorem Sc(r:Rn):r.lo<=r.hi:=by unfold Rn.lo Rn.hi;split<;>split<;>omega
theorem IJ(l:List Ed)(e x:Ed)(h:x∈wo l e):x=e\/x∈l:=by
 unfold wo at h;rcases List.mem_append.1 h with h|h
 ·exact .inr (List.mem_of_mem_take h)
 ·rcases List.mem_cons.1 h with h|h
  ·exact .inl h
  ·exact .inr (List.mem_of_mem_drop h)
theorem IK(l:List Ed)(e:Ed):(wo l e).length=l.length+1:=by
 letI:Inhabited bY:=⟨⟨False⟩⟩
 have ha:Pg l e<=l.length:=oW l e l.length;unfold wo;rw[List.length_append,List.length_cons,List.length_take,List.length_drop];omega
theorem Pq(l:List Ed)(r:Rn)(h:∀e∈l,e.a<=e.b):(∀e∈FP l r,e.a<=e.b)/\(FP l r).length<=l.length+1:=by
 unfold FP;split
 ·refine⟨fun e he=>?_,Nat.le_of_eq (IK _ _)⟩;rcases IJ _ _ _ he with rfl|he
  ·exact Sc r
  ·exact h e he
 ·rename_i i hi;obtain⟨h1,h2⟩:=Di hi;refine⟨fun e he=>?_,by rw[List.length_set];omega⟩;rcases List.mem_or_eq_of_mem_set he with he|rfl
  ·exact h e he
  ·rw[rm h1];exact h l[i] (List.getElem_mem h1)
theorem Sd(l:List Rn):(∀e∈ER l,e.a<=e.b)/\(ER l).length<=l.length:=by
 have key:∀(rs:List Rn) (L:List Ed),(∀e∈L,e.a<=e.b)->(∀e∈rs.foldl FP L,e.a<=e.b)/\(rs.foldl FP L).length<=L.length+rs.length:=fun rs=>by
  induction rs with
  | nil=>intro L h;exact⟨h,Nat.le_refl _⟩
  | cons r rs ih =>
   intro L h;obtain⟨a,b⟩:=Pq L r h;obtain⟨c,d⟩:=ih (FP L r) a;exact⟨c,by rw[List.length_cons];simp only[List.foldl_cons];omega⟩
 have:=key l [] (fun e h=>by cases h);exact⟨this.1,by have h:=this.2;rw[List.length_nil,Nat.zero_add] at h;exact h⟩
end Go.Proofs.YtijddijloelacaaGreat
namespace Go.Proofs.YtijddijloelacaaGreat
open Go.Proofs.YtijddijloelacaaGreat.Am Go.Sort Go.Proofs Go.Lib Go.NetL
variable [Inhabited bY]
variable {G:aG}
end Go.Proofs.YtijddijloelacaaGreat
namespace Go.Proofs.YtijddijloelacaaGreat
open Go.Proofs.YtijddijloelacaaGreat.Am Go.Sort Go.Proofs Go.Lib Go.NetL
variable [Inhabited bY]
theorem Bq{α:Type}[Inhabited α]{L:List α}{i:Nat}(h:i<L.length):L.getD i default=L[i]:=by rw[List.getD_eq_getElem?_getD,List.getElem?_eq_getElem h];rfl
def FS(l:List Sg)(i:Nat):List Cu:=il (l.getD i default) l i l.length
theorem Se(l:List Sg):∀i,i<l.length->FS l i=Qu l i:=fun i hi=>(of_eq l i hi).symm
theorem pe(l:List Sg)(i:Nat):(FS l i).Pairwise jt/\∀c∈FS l i,EN (l.getD i default) c:=⟨(ep _ l i l.length).1,(ep _ l i l.length).2.1⟩
theorem yR(l:List Sg)(i:Nat):(FS l i).getD 0 default=nA (l.getD i default) 0 1:=by
 obtain⟨h1,_,h3⟩:=ep (l.getD i default) l i l.length;exact EP h1 ((h3 _).2 (.inl (by simp[eL])))
theorem IL(l:List Sg)(i:Nat):(FS l i).getD ((FS l i).length-1) default=nA (l.getD i default) 1 1:=by
 obtain⟨h1,_,h3⟩:=ep (l.getD i default) l i l.length;exact H4 h1 ((h3 _).2 (.inl (by simp[eL])))
theorem Ps(l:List Sg)(i:Nat):2<=(FS l i).length:=by
 have h1:=yR l i;have h2:=IL l i;refine Classical.byContradiction fun hn=>?_;rw[show(FS l i).length-1=0 by omega,h1] at h2;have:=Db (l.getD i default);rw[h2] at this;exact Dc _ this
theorem wu(l:List Sg)(i:Nat):(FS l i).length<=2+2*l.length:=yI _ l i l.length
theorem Br{l:List Sg}(h:Cr l){i:Nat}(hi:i<l.length){c:Cu}(hc:c∈FS l i):gl (rl c)/\mL (rl c)=OT c.1:=Pa (h i hi) ((pe l i).2 c hc)
theorem Sf:c9 0 1=0:=of_decide_eq_true (by kernel_rfl)
theorem Sh:c9 1 1=cq 1 1:=of_decide_eq_true (by kernel_rfl)
theorem Pu(l:List Sg)(hl:l.length<=900)(i:Nat):Tx ((FS l i).map xv):=by
 have h2:=Ps l i;have h3:=wu l i;have hlen:((FS l i).map xv).length=(FS l i).length:=List.length_map ..
 have hg:∀k,k<(FS l i).length->((FS l i).map xv).getD k default=xv ((FS l i).getD k default):=fun k hk=>by
  rw[List.getD_eq_getElem?_getD,List.getD_eq_getElem?_getD,List.getElem?_map,List.getElem?_eq_getElem hk];rfl
 have hs:((FS l i).map xv).Pairwise Pd:=EU (pe l i).1;refine⟨by omega,by omega,fun k hk=>?_,fun k h0 hk=>?_,?_,?_⟩
 ·rw[hlen] at hk;obtain⟨n,d,hd,e⟩:=(pe l i).2 _ (List.getElem_mem hk);rw[<-nX hk] at e;obtain⟨a,b,c,d'⟩:=oY n d hd;rw[hg k hk,e,Iq hd];exact⟨⟨c,a,b⟩,d'⟩
 ·have h:=List.pairwise_iff_getElem.1 hs (k-1) k (by omega) hk (by omega);unfold Pd at h;rw[<-Bq,<-Bq] at h;exact Nat.lt_asymm h
 ·rw[hg 0 (by omega),yR,Iq (by decide)];exact Sf
 ·rw[hlen,hg _ (by omega),IL,Iq (by decide)];exact Sh
/-- The nodes. -/
def gA(L:List Sg):List RS:=if h:∀r∈mN (FS L) L.length,gl r then lk (cZ (fU (mN (FS L) L.length) h)) else []
theorem IM{F:Nat->List Cu}{n:Nat}{r:RS}:r∈mN F n↔∃i,i<n/\∃c,c∈F i/\rl c=r:=by
 unfold mN;simp only[List.mem_flatMap,List.mem_range,List.mem_map]
theorem sT{l:List Sg}(h:Cr l):∀r∈mN (FS l) l.length,gl r:=fun r hr=>by
 obtain⟨i,hi,c,hc,rfl⟩:=IM.1 hr;exact(Br h hi hc).1
theorem sU{l:List Sg}(h:Cr l):gA l=lk (cZ (fU (mN (FS l) l.length) (sT h))):=dif_pos (sT h)
theorem EW{l:List Sg}(h:Cr l){r:RS}:r∈gA l↔r∈mN (FS l) l.length:=by
 rw[sU h];unfold lk;rw[List.mem_map];have hp:=fun x=>(gI (fU (mN (FS l) l.length) (sT h)) [] List.Pairwise.nil).2 x;constructor
 ·rintro⟨x,hx,rfl⟩;rcases (hp x).1 hx with h0|h0
  ·cases h0
  ·unfold fU at h0;obtain⟨a,ha,e⟩:=List.mem_pmap.1 h0;rw[<-e];exact ha
 ·intro hr;exact⟨⟨r,sT h r hr⟩,(hp _).2 (.inr (List.mem_pmap.2 ⟨r,hr,rfl⟩)),rfl⟩
theorem IP{l:List Sg}(h:Cr l):(gA l).length<=(2+2*l.length)*l.length:=by
 rw[sU h];exact uS _ _ (sS _ _ _ fun j _=>wu l j)
theorem IQ{l:List Sg}(h:Cr l){i:Nat}(hi:i<l.length){c:Cu}(hc:c∈FS l i):rl c∈gA l:=(EW h).2 (IM.2 ⟨i,hi,c,hc,rfl⟩)
def Si(S:List Sp):Prop:=∀s∈S,bU s.s/\0<=s.w/\s.w<=2147483648
theorem Pv{l:List Rd}(h:jL l=0):Si (Ii l):=by
 obtain⟨_,h2,_,_⟩:=De h
 have key:∀k,k<=l.length->Si (o9 l k):=by
  intro k
  induction k with
  | zero=>intro _ s hs;cases hs
  | succ k ih =>
   intro hk s hs;unfold o9 at hs;rcases List.mem_append.1 hs with hs|hs
   ·exact ih (by omega) s hs
   ·unfold Ih at hs;obtain⟨i,hi,rfl⟩:=List.mem_map.1 hs;rw[List.mem_range] at hi;obtain⟨⟨s1,s2,s3,s4,s5⟩,q1,q2,q3⟩:=uR (h2 k (by omega));have q:=q3 i hi;unfold sQ at q;refine⟨⟨q1 i (by omega),q1 (i+1) (by omega),fun e=>q2 ⟨i+1,by omega,by omega,?_⟩⟩,?_,?_⟩
    ·exact(Pb.1 e).symm
    ·show 0<=(l.getD k default).ws.getD i 0;omega
    ·show(l.getD k default).ws.getD i 0<=2147483648;omega
 exact key l.length (Nat.le_refl _)
abbrev pf(S:List Sp):List Sg:=S.map (·.s)
theorem Ng{S:List Sp}(h:Si S){i:Nat}(hi:i<S.length):bU (S.getD i default).s/\0<=(S.getD i default).w/\(S.getD i default).w<=2147483648:=by
 rw[Bq hi];exact h _ (List.getElem_mem hi)
theorem Pw{S:List Sp}{i:Nat}(hi:i<S.length):(pf S).getD i default=(S.getD i default).s:=by
 rw[List.getD_eq_getElem?_getD,List.getD_eq_getElem?_getD,List.getElem?_map,List.getElem?_eq_getElem hi];rfl
theorem IS{S:List Sp}(h:Si S):Cr (pf S):=fun i hi=>by
 rw[List.length_map] at hi;rw[Pw hi];exact(Ng h hi).1
theorem Px{S:List Sp}(h:Si S)(hn:S.length<=400):vN (pf S)=0:=by
 unfold vN;rw[if_neg (by rw[List.length_map];omega),if_pos (IS h)]
def yT(S:List Sp)(i:Nat):List Rn:=Nd (S.getD i default) (FS (pf S) i) (gA (pf S))
theorem yU(S:List Sp)(i:Nat):(yT S i).length=(FS (pf S) i).length-1:=mr _ _ _ _
theorem IT{R:Nat->List Rn}{n:Nat}{r:Rn}:r∈gq R n↔∃i,i<n/\r∈R i:=by
 unfold gq;simp only[List.mem_flatMap,List.mem_range]
theorem yV(R:Nat->List Rn)(B:Nat):∀n,(∀j,j<n->(R j).length<=B)->(gq R n).length<=B*n
 | 0,_=>by simp[gq]
 | n+1,h=>by
  rw[uT,List.length_append];have:=yV R B n fun j hj=>h j (by omega);have:=h n (by omega);rw[Nat.mul_succ];omega
def iJ(S:List Sp):List Rn:=gq (yT S) S.length
def fV(S:List Sp):List Ed:=ER (iJ S)
def ja(S:List Sp):List Pr:=(fV S).map fun e=>⟨e.a,e.b⟩
def LP(S:List Sp)(i:Nat):List Pc:=(yT S i).map (FQ (ja S))
theorem uU(S:List Sp):(ja S).Pairwise iG:=by
 have h:=(Ix (iJ S)).1;unfold mE at h;unfold ja;rw[List.pairwise_map] at h ⊢;exact h.imp fun {a b} q=>by unfold nC Ed.key at q;unfold iG;exact q
theorem pg(S:List Sp)(a b:Int):(EM (iJ S) (a,b)).isSome=true↔(⟨a,b⟩:Pr)∈ja S:=by
 obtain⟨h1,h2⟩:=Ix (iJ S);rw[<-h2];unfold ja;rw[List.mem_map];constructor
 ·intro h;obtain⟨e,he⟩:=Option.isSome_iff_exists.1 h;obtain⟨m,k⟩:=(dQ h1).1 he;unfold Ed.key at k;rw[Prod.mk.injEq] at k;exact⟨e,m,by rw[k.1,k.2]⟩
 ·rintro⟨e,m,k⟩;rw[Pr.mk.injEq] at k;rw[(dQ h1).2 ⟨m,(show e.key=(a,b) by unfold Ed.key;rw[k.1,k.2])⟩];rfl
theorem Bs(S:List Sp):((ja S).map fun k=>(EM (iJ S) (k.i,k.k)).getD default)=fV S:=by
 obtain⟨h1,h2⟩:=Ix (iJ S);unfold ja;rw[List.map_map];refine List.ext_getElem (by simp) fun j q1 q2=>?_;rw[List.getElem_map];have:Bm (fV S) (fV S)[j].key=some (fV S)[j]:=(dQ h1).2 ⟨List.getElem_mem q2,rfl⟩;unfold fV at this;rw[h2] at this;show(EM (iJ S) (fV S)[j].key).getD default=_;unfold fV;rw[this];rfl
theorem Bt{S:List Sp}{i:Nat}(hi:i<S.length){r:Rn}(hr:r∈yT S i):(EM (iJ S) (r.lo,r.hi)).isSome=true:=by
 have key:∀(rs:List Rn) (M:FO),(∀k,(M k).isSome=true->((rs.foldl NetL.stM M) k).isSome=true)/\∀r∈rs,((rs.foldl NetL.stM M) (r.lo,r.hi)).isSome=true:=fun rs=>by
  induction rs with
  | nil=>exact fun M=>⟨fun k h=>h,fun r hr=>by cases hr⟩
  | cons x rs ih =>
   intro M;obtain⟨a,b⟩:=ih (NetL.stM M x)
   have hx:∀k,(M k).isSome=true->(NetL.stM M x k).isSome=true:=fun k h=>by
    unfold NetL.stM;split
    ·rfl
    ·exact h
   refine⟨fun k h=>a k (hx k h),fun r hr=>?_⟩;rcases List.mem_cons.1 hr with rfl|hr
   ·exact a _ (by unfold NetL.stM;rw[if_pos rfl];rfl)
   ·exact b r hr
 exact(key (iJ S) _).2 r (IT.2 ⟨i,hi,hr⟩)
theorem EX(S:List Sp):(ja S).length=(fV S).length:=List.length_map ..
theorem IU(S:List Sp):((ja S).map kP).Nodup:=by
 rw[List.nodup_iff_pairwise_ne,List.pairwise_map];refine(uU S).imp fun {a b} h e=>?_;unfold kP at e;simp only[List.cons.injEq,KC.int.injEq,and_true] at e;unfold iG at h;omega
end Go.Proofs.YtijddijloelacaaGreat
namespace Go.Proofs.YtijddijloelacaaGreat
open Go.Proofs.YtijddijloelacaaGreat.Am Go.Sort Go.Proofs
variable [Inhabited bY]
variable {G:aG}
instance (r:Rd):Decidable (RU r):=inferInstanceAs (Decidable (_/\_))
end Go.Proofs.YtijddijloelacaaGreat
namespace Go.Proofs.YtijddijloelacaaGreat
open Go.Proofs.YtijddijloelacaaGreat.Am Go.Sort Go.Proofs Go.Lib Go.NetL
variable [Inhabited bY]
variable {G:aG}
def yW(i:Nat):Rd:=⟨(i:Int)+1,[⟨0,0⟩,⟨(i:Int)+1,1⟩],[(i:Int)+1],false⟩
def fA(n:Nat):List Rd:=(List.range n).map yW
def iK(i:Nat):Rd:=⟨(i:Int)+2,[⟨2*(i:Int)+1,-1⟩,⟨2*(i:Int)+1,1⟩],[2],false⟩
def mZ(n:Nat):Rd:=⟨1,[⟨0,0⟩,⟨2*(n:Int),0⟩],[2*(n:Int)],false⟩
def fX(n:Nat):List Rd:=mZ n::(List.range n).map iK
theorem uV(n:Nat):fA (n+1)=fA n++[yW n]:=by simp[fA,List.range_succ]
theorem EY(n k:Nat):mZ n::(List.range (k+1)).map iK=(mZ n::(List.range k).map iK)++[iK k]:=by simp[List.range_succ]
theorem lK(n:Nat):(fA n).length=n:=by simp[fA]
theorem nZ(n:Nat):(fX n).length=n+1:=by simp[fX]
theorem Dk{n i:Nat}(h:i<n):(fA n).getD i default=yW i:=by
 rw[List.getD_eq_getElem?_getD,List.getElem?_eq_getElem (by rw[lK];exact h)];simp[fA]
theorem IV(n:Nat):(fX n).getD 0 default=mZ n:=rfl
theorem Dl{n i:Nat}(h:i<n):(fX n).getD (i+1) default=iK i:=by
 rw[List.getD_eq_getElem?_getD,List.getElem?_eq_getElem (by rw[nZ];omega)];simp[fX]
theorem yX:∀n,n<101->1<=n->jL (fA n)=0:=of_decide_eq_true (by kernel_rfl)
theorem yY:∀n,n<51->2<=n->jL (fX n)=0:=of_decide_eq_true (by kernel_rfl)
theorem wz(n:Nat)(h:n<=100):Lt (fA n):=⟨by rw[lK];omega,fun i hi=>by
 rw[lK] at hi;rw[Dk hi];exact⟨by show 2<=110;decide,by show 1<=110;decide⟩⟩
theorem rn(n:Nat)(h:n<=50):Lt (fX n):=⟨by rw[nZ];omega,fun i hi=>by
 rw[nZ] at hi;cases i with
 | zero=>exact⟨by show 2<=110;decide,by show 1<=110;decide⟩
 | succ i =>
  rw[Dl (by omega)];exact⟨by show 2<=110;decide,by show 1<=110;decide⟩⟩
theorem IW:∀n,n<13->2<=n->(Ii (fA n)).length=n/\(gA (pf (Ii (fA n)))).length=n+1/\(fV (Ii (fA n))).length=n:=of_decide_eq_true (by kernel_rfl)
theorem IX:∀n,n<13->2<=n->(Ii (fX n)).length=n+1/\(gA (pf (Ii (fX n)))).length=3*n+2/\(fV (Ii (fX n))).length=3*n+1:=of_decide_eq_true (by kernel_rfl)
theorem Bu(id:Int)(a b:Pt)(w:Int):aa Tryz.prog G 42 [.int .i64 id,.agg (kY a),.agg (kY b),.int .i64 w] (.agg (kv ⟨id,[a,b],[w],false⟩)):=by
 refine aa.aj ak Tryz.func42 rfl rfl _ rfl ?_;(conv=>whnf);repeat' ((first|refine st ?_|(refine⟨fun h=>?_,fun h=>?_⟩<;>try simp only[af] at h)|refine wf ?_|refine aA ?_|refine nn ?_|fail)<;>conv=>whnf)
 repeat (first|exact fa|((first|refine fb ?_|(refine And.intro ?_ ?_;rotate_left));conv=>whnf))
 all_goals first
  | (refine .inl fun i hi => ?_; have : i = 0 := by omega
     subst this;rfl)
  | (refine .inl fun i hi=>?_;rcases (show i=0\/i=1 by omega) with rfl|rfl<;>rfl)
   
theorem Bv(n:Int):aa Tryz.prog G 10 [.int .i64 n] (if 1<=n/\n<=100 then .tup [sP (fA n.toNat),.int .i64 0] else .tup [.aR,.int .i64 1]):=by
 by_cases h0:1<=n/\n<=100
 ·rw[if_pos h0];obtain⟨k,rfl⟩:∃k:Nat,n=k:=⟨n.toNat,by omega⟩;rw[Int.toNat_natCast];refine aa.aj ak Tryz.func10 rfl rfl _ rfl ?_;(conv=>whnf);repeat' ((first|(exfalso;omega)|refine st ?_|(refine⟨fun h=>?_,fun h=>?_⟩<;>try simp only[af] at h)|refine wf ?_|refine aA ?_|refine nn ?_|fail)<;>conv=>whnf)
  refine gw 4 31 4 rfl ?_;(conv=>whnf);refine al (fun i:Nat=>i<=k) (fun i=>[(5,.int .i64 ((i:Int)+1)),(4,.own 0)]) (fun i=>[.row 31 4 (fA i).length (H5 (fA i))]) (fun i=>k-i) 0 (Nat.zero_le _) ?_ ?_
  ·conv=>whnf
   repeat (first|exact fa|((first|refine fb ?_|(refine And.intro ?_ ?_;rotate_left));conv=>whnf))
  ·intro i hi;have hi:i<=k:=hi;have hl:=lK i;rcases Nat.lt_or_ge i k with dE|dE
   ·have q:=Bu (G:=G) ((i:Int)+1) ⟨0,0⟩ ⟨(i:Int)+1,1⟩ ((i:Int)+1);unfold kY at q;(conv=>whnf);repeat' ((first|(exfalso;omega)|refine st ?_|(refine⟨fun h=>?_,fun h=>?_⟩<;>try simp only[af] at h)|(refine .inl ?_;(conv=>whnf);refine⟨_,q,?_⟩)|refine wf ?_|refine aA ?_|refine nn ?_|fail)<;>conv=>whnf)
    refine⟨i+1,dE,(by show k-(i+1)<k-i;omega),?_⟩;(conv=>whnf)
    repeat (first|exact fa|((first|refine fb ?_|(refine And.intro ?_ ?_;rotate_left));conv=>whnf))
    all_goals first|exact .inl fun j hj=>by rw[uV];exact iI kv _ (yW i) _ rfl _ rfl j hj|(rw[uV,List.length_append];rfl)
   ·have e:i=k:=by omega
    subst e;(conv=>whnf);repeat' ((first|(exfalso;omega)|refine st ?_|(refine⟨fun h=>?_,fun h=>?_⟩<;>try simp only[af] at h)|refine wf ?_|refine aA ?_|refine nn ?_|fail)<;>conv=>whnf)
    repeat (first|exact fa|((first|refine fb ?_|(refine And.intro ?_ ?_;rotate_left));conv=>whnf))
 ·rw[if_neg h0];refine aa.aj ak Tryz.func10 rfl rfl _ rfl ?_;(conv=>whnf);repeat' ((first|(exfalso;omega)|refine st ?_|(refine⟨fun h=>?_,fun h=>?_⟩<;>try simp only[af] at h)|refine wf ?_|refine aA ?_|refine nn ?_|fail)<;>conv=>whnf)
theorem yZ(j:Nat):(⟨(j:Int)+1+1,[⟨2*((j:Int)+1)-1,-1⟩,⟨2*((j:Int)+1)-1,1⟩],[2],false⟩:Rd)=iK j:=by
 unfold iK;rw[show(j:Int)+1+1=j+2 by omega,show 2*((j:Int)+1)-1=2*(j:Int)+1 by omega]
def uW(n k:Nat):List Rd:=mZ n::(List.range k).map iK
theorem sV(n k:Nat):uW n (k+1)=uW n k++[iK k]:=EY n k
theorem E0(n k:Nat):(uW n k).length=k+1:=by simp[uW]
theorem IY(n:Int):aa Tryz.prog G 11 [.int .i64 n] (if 2<=n/\n<=50 then .tup [sP (fX n.toNat),.int .i64 0] else .tup [.aR,.int .i64 1]):=by
 by_cases h0:2<=n/\n<=50
 ·rw[if_pos h0];obtain⟨k,rfl⟩:∃k:Nat,n=k:=⟨n.toNat,by omega⟩;rw[Int.toNat_natCast];have q0:=Bu (G:=G) 1 ⟨0,0⟩ ⟨2*(k:Int),0⟩ (2*(k:Int))
  change aa _ _ _ _ (.agg (kv (mZ k))) at q0
  unfold kY at q0;refine aa.aj ak Tryz.func11 rfl rfl _ rfl ?_;(conv=>whnf);repeat' ((first|(exfalso;omega)|refine st ?_|(refine⟨fun h=>?_,fun h=>?_⟩<;>try simp only[af] at h)|(refine .inl ?_;(conv=>whnf);refine⟨_,q0,?_⟩)|refine wf ?_|refine aA ?_|refine nn ?_|fail)<;>conv=>whnf)
  refine al (fun i:Nat=>i<=k) (fun i=>[(5,.int .i64 ((i:Int)+1)),(4,.own 0),(19,.ae)]) (fun i=>[.row 31 4 (uW k i).length (H5 (uW k i))]) (fun i=>k-i) 0 (Nat.zero_le _) ?_ ?_
  ·conv=>whnf
   repeat (first|exact fa|((first|refine fb ?_|(refine And.intro ?_ ?_;rotate_left));conv=>whnf))
   all_goals first
    | (refine .inl fun i hi => ?_; have : i = 0 := by omega
       subst this;rfl)
       
  ·intro i hi;have hi:i<=k:=hi;have hl:=E0 k i;rcases Nat.lt_or_ge i k with dE|dE
   ·have q:=Bu (G:=G) ((i:Int)+1+1) ⟨2*((i:Int)+1)-1,-1⟩ ⟨2*((i:Int)+1)-1,1⟩ 2;rw[yZ] at q;unfold kY at q;(conv=>whnf);repeat' ((first|(exfalso;omega)|refine st ?_|(refine⟨fun h=>?_,fun h=>?_⟩<;>try simp only[af] at h)|(refine .inl ?_;(conv=>whnf);refine⟨_,q,?_⟩)|refine wf ?_|refine aA ?_|refine nn ?_|fail)<;>conv=>whnf)
    refine⟨i+1,dE,(by show k-(i+1)<k-i;omega),?_⟩;(conv=>whnf)
    repeat (first|exact fa|((first|refine fb ?_|(refine And.intro ?_ ?_;rotate_left));conv=>whnf))
    all_goals first|exact .inl fun j hj=>by rw[sV];exact iI kv _ (iK i) _ rfl _ rfl j hj|(rw[sV,List.length_append];rfl)
   ·have e:i=k:=by omega
    subst e;(conv=>whnf);repeat' ((first|(exfalso;omega)|refine st ?_|(refine⟨fun h=>?_,fun h=>?_⟩<;>try simp only[af] at h)|refine wf ?_|refine aA ?_|refine nn ?_|fail)<;>conv=>whnf)
    repeat (first|exact fa|((first|refine fb ?_|(refine And.intro ?_ ?_;rotate_left));conv=>whnf))
 ·rw[if_neg h0];refine aa.aj ak Tryz.func11 rfl rfl _ rfl ?_;(conv=>whnf);repeat' ((first|(exfalso;omega)|refine st ?_|(refine⟨fun h=>?_,fun h=>?_⟩<;>try simp only[af] at h)|refine wf ?_|refine aA ?_|refine nn ?_|fail)<;>conv=>whnf)
theorem Py:aa Tryz.prog G 14 [] (.sb true):=by
 have h1:=Bv (G:=G) 1;rw[if_pos (by decide)] at h1;refine aa.aj ak Tryz.func14 rfl rfl _ rfl ?_;(conv=>whnf);repeat' ((first|(exact absurd trivial h)|(exact absurd rfl h)|refine st ?_|(refine⟨fun h=>?_,fun h=>?_⟩<;>try simp only[af] at h)|(refine .inl ?_;(conv=>whnf);refine⟨_,h1,?_⟩)|refine wf ?_|refine aA ?_|refine nn ?_|fail)<;>conv=>whnf)
 all_goals first|rfl
/-- A road of two points as the law lays it down. -/
def By(id x0 y0 x1 y1 w:Int):List A:=[.int .i64 id,.sl 2 2 (fun i=>fT 2 (List.drop (i*2) [.int .i64 x0,.int .i64 y0,.int .i64 x1,.int .i64 y1])),.sl 1 1 (fun i=>fT 1 (List.drop (i*1) [.int .i64 w])),.bool false]
theorem wA(a:Rd)(id x0 y0 x1 y1 w:Int)(h:aa Tryz.prog G 13 [.agg (kv a),.agg (kv ⟨id,[⟨x0,y0⟩,⟨x1,y1⟩],[w],false⟩)] (.sb true)):
  aa Tryz.prog G 13 [.agg (kv a),.agg (By id x0 y0 x1 y1 w)] (.sb true):=by
 refine h.fit ?_;unfold kv By xT rK;(conv=>whnf)
 repeat (first|exact fa|((first|refine fb ?_|(refine And.intro ?_ ?_;rotate_left));conv=>whnf))
 all_goals first
  | exact .inl fun _ _=>rfl
  | (refine .inl fun i hi => ?_; have : i = 0 := by omega
     subst this;rfl)
  | (refine .inl fun i hi=>?_;rcases (show i=0\/i=1 by omega) with rfl|rfl<;>rfl)
   
theorem sW(k:Nat)(h1:1<=k)(h2:k<=100)(r:A)(f:Int)
  (Kb:aa Tryz.prog G 11 [.int .i64 (k:Int)] (.tup [r,.int .i64 f]))
  (Pz:aa Tryz.prog G 14 [] (.sb true))
  (hc:(2<=k/\k<=50/\r=sP (fX k)/\f=0)\/(¬(2<=k/\k<=50)/\r=.aR/\f=1))
  (UH:2<=k->k<=12->∃N E S P N' E' S' P',N.length=k+1/\E.length=k/\N'.length=3*k+2/\E'.length=3*k+1/\aa Tryz.prog G 15 [sP (fA k)] (.tup [IH N E S P,.int .i64 0])/\aa Tryz.prog G 15 [sP (fX k)] (.tup [IH N' E' S' P',.int .i64 0])) :
  aa Tryz.prog G 3 [.int .i64 (k:Int)] (.sb true):=by
 have QB:=Bv (G:=G) (k:Int);rw[if_pos (by omega),Int.toNat_natCast] at QB;have UI:=Ic (G:=G) (fA k) (wz k h2);rw[yX k (by omega) h1] at UI;have hl:=lK k;have Sj:=nZ k;have d1:((0:Int)==0)=decide ((k:Int)<=100):=(decide_eq_true (by omega)).symm
 have oS:∀i,i<k->aa Tryz.prog G 13 [.agg (kv ((fA k).getD i default)),.agg (By ((i:Int)+1) 0 0 ((i:Int)+1) 1 ((i:Int)+1))] (.sb true):=fun i hi=>by
  refine wA _ _ _ _ _ _ _ ?_;have:=Ig (G:=G) ((fA k).getD i default) (yW i) ((wz k h2).2 i (by rw[hl];exact hi))
  rwa [decide_eq_true (Dk hi)] at this
 unfold kv By at oS;rcases hc with⟨c1,c2,rfl,rfl⟩|⟨c0,rfl,rfl⟩
 ·have Wx:=Ic (G:=G) (fX k) (rn k c2);rw[yY k (by omega) c1] at Wx;have d2:((0:Int)==0)=decide ((k:Int)<=50):=(decide_eq_true (by omega)).symm
  have o0:aa Tryz.prog G 13 [.agg (kv ((fX k).getD 0 default)),.agg (By 1 0 0 (2*(k:Int)) 0 (2*(k:Int)))] (.sb true):=by
   refine wA _ _ _ _ _ _ _ ?_;have:=Ig (G:=G) ((fX k).getD 0 default) (mZ k) ((rn k c2).2 0 (by rw[Sj];omega))
   rwa [decide_eq_true (IV k)] at this
  have oC:∀i,i<k->aa Tryz.prog G 13 [.agg (kv ((fX k).getD (i+1) default)),.agg (By ((i:Int)+1+1) (2*((i:Int)+1)-1) (-1) (2*((i:Int)+1)-1) 1 2)] (.sb true):=fun i hi=>by
   refine wA _ _ _ _ _ _ _ ?_;rw[yZ];have:=Ig (G:=G) ((fX k).getD (i+1) default) (iK i) ((rn k c2).2 (i+1) (by rw[Sj];omega))
   rwa [decide_eq_true (Dl hi)] at this
  unfold kv By at o0 oC;refine aa.aj ak Tryz.func3 rfl rfl _ rfl ?_;(conv=>whnf);repeat' ((first|(exfalso;omega)|(exact absurd trivial h)|(exact absurd rfl h)|(exact absurd d1 h)|(exact absurd d2 h)|refine st ?_|(refine⟨fun h=>?_,fun h=>?_⟩<;>try simp only[af] at h)|(refine .inl ?_;(conv=>whnf);(first|refine⟨_,QB,?_⟩|refine⟨_,Kb,?_⟩|refine⟨_,UI,?_⟩))|refine wf ?_|refine aA ?_|refine nn ?_|fail)<;>conv=>whnf)
  refine al (fun i:Nat=>i<=k) (fun i=>[(7,.int .i64 (i:Int))]) (fun _=>[]) (fun i=>k-i) 0 (Nat.zero_le _) ?_ ?_
  ·exact ff
  ·intro i hi;have hi:i<=k:=hi;rcases Nat.lt_or_ge i k with dE|dE
   ·have o:=oS i dE;(conv=>whnf);repeat' ((first|(exfalso;omega)|(exact absurd trivial h)|(exact Bool.noConfusion h)|refine st ?_|(refine⟨fun h=>?_,fun h=>?_⟩<;>try simp only[af] at h)|(refine .inr (.inr (.inl ?_));(conv=>whnf);refine⟨_,o,?_⟩)|refine wf ?_|refine aA ?_|refine nn ?_|fail)<;>conv=>whnf)
    refine⟨i+1,dE,(by show k-(i+1)<k-i;omega),?_⟩;exact ff
   ·have e:i=k:=by omega
    subst e;(conv=>whnf);repeat' ((first|(exfalso;omega)|(exact absurd trivial h)|(exact absurd rfl h)|(exact Bool.noConfusion h)|refine st ?_|(refine⟨fun h=>?_,fun h=>?_⟩<;>try simp only[af] at h)|(refine .inl ?_;(conv=>whnf);refine⟨_,Wx,?_⟩)|(refine .inr (.inr (.inl ?_));(conv=>whnf);refine⟨_,o0,?_⟩)|refine wf ?_|refine aA ?_|refine nn ?_|fail)<;>conv=>whnf)
    refine al (fun j:Nat=>j<=i) (fun j=>[(8,.int .i64 ((j:Int)+1))]) (fun _=>[]) (fun j=>i-j) 0 (Nat.zero_le _) ?_ ?_
    ·exact ff
    ·intro j hj;have hj:j<=i:=hj;rcases Nat.lt_or_ge j i with Kc|Kc
     ·have o:=oC j Kc;(conv=>whnf);repeat' ((first|(exfalso;omega)|(exact absurd trivial h)|(exact Bool.noConfusion h)|refine st ?_|(refine⟨fun h=>?_,fun h=>?_⟩<;>try simp only[af] at h)|(refine .inr (.inr (.inl ?_));(conv=>whnf);refine⟨_,o,?_⟩)|refine wf ?_|refine aA ?_|refine nn ?_|fail)<;>conv=>whnf)
      refine⟨j+1,Kc,(by show i-(j+1)<i-j;omega),?_⟩;exact ff
     ·have e:j=i:=by omega
      subst e;rcases Nat.lt_or_ge 12 j with Wy|Wy
      ·(conv=>whnf);repeat' ((first|(exfalso;omega)|(exact absurd trivial h)|refine st ?_|(refine⟨fun h=>?_,fun h=>?_⟩<;>try simp only[af] at h)|(refine .inl ?_;(conv=>whnf);refine⟨_,Pz,?_⟩)|refine wf ?_|refine aA ?_|refine nn ?_|fail)<;>conv=>whnf)
      ·obtain⟨N,E,n,P,N',E',n',P',e1,e2,e3,e4,hO,Wz⟩:=UH c1 Wy;unfold IH fK Sa at hO Wz;(conv=>whnf);repeat' ((first|(exfalso;omega)|(exact absurd trivial h)|(exact absurd rfl h)|refine st ?_|(refine⟨fun h=>?_,fun h=>?_⟩<;>try simp only[af] at h)|(refine .inl ?_;(conv=>whnf);(first|refine⟨_,hO,?_⟩|refine⟨_,Wz,?_⟩|refine⟨_,Pz,?_⟩))|refine wf ?_|refine aA ?_|refine nn ?_|fail)<;>conv=>whnf)
 ·refine aa.aj ak Tryz.func3 rfl rfl _ rfl ?_;(conv=>whnf);repeat' ((first|(exfalso;omega)|(exact absurd trivial h)|(exact absurd rfl h)|(exact absurd d1 h)|(exact Bool.noConfusion h)|(exact absurd h (by decide))|((exfalso;exact h (decide_eq_false (by omega)).symm))|refine st ?_|(refine⟨fun h=>?_,fun h=>?_⟩<;>try simp only[af] at h)|(refine .inl ?_;(conv=>whnf);(first|refine⟨_,QB,?_⟩|refine⟨_,Kb,?_⟩|refine⟨_,UI,?_⟩))|refine wf ?_|refine aA ?_|refine nn ?_|fail)<;>conv=>whnf)
  all_goals
   refine al (fun i:Nat=>i<=k) (fun i=>[(7,.int .i64 (i:Int))]) (fun _=>[]) (fun i=>k-i) 0 (Nat.zero_le _) ?_ ?_
   ·exact ff
   ·intro i hi;have hi:i<=k:=hi;rcases Nat.lt_or_ge i k with dE|dE
    ·have o:=oS i dE;(conv=>whnf);repeat' ((first|(exfalso;omega)|(exact absurd trivial h)|(exact Bool.noConfusion h)|refine st ?_|(refine⟨fun h=>?_,fun h=>?_⟩<;>try simp only[af] at h)|(refine .inr (.inr (.inl ?_));(conv=>whnf);refine⟨_,o,?_⟩)|refine wf ?_|refine aA ?_|refine nn ?_|fail)<;>conv=>whnf)
     refine⟨i+1,dE,(by show k-(i+1)<k-i;omega),?_⟩;exact ff
    ·have e:i=k:=by omega
     subst e;(conv=>whnf);repeat' ((first|(exfalso;omega)|(exact absurd trivial h)|(exact absurd h (by decide))|refine st ?_|(refine⟨fun h=>?_,fun h=>?_⟩<;>try simp only[af] at h)|(refine .inl ?_;(conv=>whnf);refine⟨_,Pz,?_⟩)|refine wf ?_|refine aA ?_|refine nn ?_|fail)<;>conv=>whnf)
end Go.Proofs.YtijddijloelacaaGreat
namespace Go.Proofs.YtijddijloelacaaGreat
open Go.Proofs.YtijddijloelacaaGreat.Am Go.Sort Go.Proofs Go.Lib Go.NetL
theorem y7(i j:Inhabited bY): @nA i = @nA j:=rfl
theorem IZ(i j:Inhabited bY)(s t:Sg): @oI i s t = @oI j s t:=by
 unfold oI Lo;rw[y7 i j]
theorem E1(i j:Inhabited bY)(s:Sg): @eL i s = @eL j s:=by
 unfold eL;rw[y7 i j]
theorem sX(i j:Inhabited bY)(s:Sg)(l:List Sg)(b:Int):∀k,@il i s l b k = @il j s l b k
 | 0=>by unfold il;exact E1 i j s
 | k+1=>by unfold il;rw[sX i j s l b k,IZ i j]
theorem LQ(i j:Inhabited bY)(l:List Sg): @FS i l = @FS j l:=by
 funext k;unfold FS;exact sX i j _ _ _ _
variable [Inhabited bY]
variable {G:aG}
def UJ(S:List Sp):A:=IH (gA (pf S)) (fV S) S.length (LP S)
theorem UK{k:List KC}(h:gX Ak k):∃a b:Int,k=[.int a,.int b]:=by
 rcases k with _|⟨k1,k⟩
 ·exact False.elim h
 ·cases k1 with
  | int a =>
   rcases k with _|⟨k2,k⟩
   ·exact False.elim h
   ·cases k2 with
    | int b =>
     rcases k with _|⟨k3,k⟩
     ·exact⟨a,b,rfl⟩
     ·exact False.elim h
    | bool b=>exact False.elim h
    | str b=>exact False.elim h
  | bool b=>exact False.elim h
  | str b=>exact False.elim h
theorem PA(S:List Sp)(k:List KC)(hk:gX Ak k):eH (EM (iJ S)) k=true↔∃x∈ja S,k=[.int x.i,.int x.k]:=by
 obtain⟨a,b,rfl⟩:=UK hk;show(EM (iJ S) (a,b)).isSome=true↔_;rw[pg];constructor
 ·intro h;exact⟨_,h,rfl⟩
 ·rintro⟨x,hx,e⟩;simp only[List.cons.injEq,KC.int.injEq,and_true] at e;obtain⟨e1,e2⟩:=e;subst e1;subst e2;exact hx
theorem n50{n:Nat}(h:n<=50):(2+2*n)*n<=5100:=Nat.le_trans (Nat.mul_le_mul (show 2+2*n<=102 by omega) h) (by decide)
theorem kz(S:List Sp):(pf S).length=S.length:=List.length_map ..
theorem Dm(S:List Sp)(hn:S.length<=50)(i:Nat):(FS (pf S) i).length<=102:=by
 have:=wu (pf S) i;rw[kz] at this;omega
theorem I0(S:List Sp)(hn:S.length<=50):∀i,i<=S.length->(gq (yT S) i).length<=102*i:=fun i _ =>
 yV _ _ _ fun j _=>by rw[yU];have:=Dm S hn j;omega
theorem Dn(S:List Sp)(hn:S.length<=50):(ja S).length<=5100:=by
 rw[EX];have h1:=(Sd (iJ S)).2;have h2:=I0 S hn S.length (Nat.le_refl _);unfold fV iJ at *;omega
theorem I1(dn:(default:bY).ns)(l:List Rd)(hl:Lt l)(h:jL l=0)(hn:(Ii l).length<=50):aa Tryz.prog G 15 [sP l] (.tup [UJ (Ii l),.int .i64 0]):=by
 have hS:=Pv h;have h1:=Ik (G:=G) l hl h;generalize Ii l=S at *;have hO:=IS hS
 have hN:(gA (pf S)).length<=1000000:=by
  have:=IP hO;rw[kz] at this;exact Nat.le_trans this (Nat.le_trans (n50 hn) (by decide))
 have h2:=rW (i:=FE) dn (@OX FE G (fun q=>q) (pf S) (Px hS (by omega)) (@FS FE (pf S)) (@Se FE _));rw[LQ FE inferInstance] at h2;have h3:=LD (G:=G) dn (pf S).length (FS (pf S)) (2+2*(pf S).length) (fun i _=>wu (pf S) i) (Nat.le_trans (n50 (by rw[kz];exact hn)) (by decide)) (by rw[kz];omega) (fun i hi c hc=>(Br hO hi hc).2) (sT hO);rw[<-sU hO] at h3;rw[kz] at h2 h3
 have h4:∀i,i<S.length->aa Tryz.prog G 47 [.agg (Qv (S.getD i default)),sJ (FS (pf S) i),.mv true Qw (qN (gA (pf S))) (wj (gA (pf S)))] (uk (yT S i)):=fun i hi=>by
  have cr:i<(pf S).length:=by rw[kz];exact hi
  exact Pk (S.getD i default) (FS (pf S) i) (gA (pf S)) (Ng hS hi).2 (Pu _ (by rw[kz];omega) i) (fun c hc=>decide_eq_true (by rw[Pj (Br hO cr hc).2];exact List.mem_map.2 ⟨_,IQ hO cr hc,rfl⟩)) hN
 have h5:=EV (G:=G) dn (eH (EM (iJ S))) (eV (EM (iJ S))) (ja S) (uU S) (PA S) (Nat.le_trans (Dn S hn) (by decide))
 have k:=Sb (G:=G) l S hn (FS (pf S)) (gA (pf S)) (yT S) (ja S) h1 h2 h3 h4 (fun i _=>by rw[yU];have:=Dm S hn i;omega) (Nat.le_trans (Dn S hn) (by decide))
  (fun k hk=>(pg S k.i k.k).2 hk) (IU S) (fun i hi r hr=>decide_eq_true (List.mem_map.2 ⟨⟨r.lo,r.hi⟩,(pg S _ _).1 (Bt hi hr),rfl⟩)) h5
 rw[show((ja S).map fun k=>(EM (gq (yT S) S.length) (k.i,k.k)).getD default)=fV S from Bs S] at k;exact k
end Go.Proofs.YtijddijloelacaaGreat
namespace Go.Proofs.YtijddijloelacaaGreat
open Go.Proofs.YtijddijloelacaaGreat.Am Go.Sort Go.Proofs Go.Lib Go.NetL
variable [Inhabited bY]
variable {G:aG}
theorem Aw(dn:(default:bY).ns)(n:Int):aa Tryz.prog G 3 [.int .i64 n] (.sb true):=by
 have Pz:=Py (G:=G);by_cases h1:1<=n/\n<=100
 ·obtain⟨k,rfl⟩:∃k:Nat,n=k:=⟨n.toNat,by omega⟩;have Kb:=IY (G:=G) (k:Int);by_cases h2:2<=(k:Int)/\(k:Int)<=50
  ·rw[if_pos h2,Int.toNat_natCast] at Kb;refine sW k (by omega) (by omega) _ _ Kb Pz (.inl ⟨by omega,by omega,rfl,rfl⟩) fun a b=>?_;obtain⟨s1,s2,s3⟩:=IW k (by omega) a;obtain⟨c1,c2,c3⟩:=IX k (by omega) a
   exact⟨_,_,_,_,_,_,_,_,s2,s3,c2,c3,I1 dn (fA k) (wz k (by omega)) (yX k (by omega) (by omega)) (by rw[s1];omega),
    I1 dn (fX k) (rn k (by omega)) (yY k (by omega) a) (by rw[c1];omega)⟩
  ·rw[if_neg h2] at Kb;exact sW k (by omega) (by omega) _ _ Kb Pz (.inr ⟨by omega,rfl,rfl⟩) fun a b=>absurd ⟨by omega,by omega⟩ h2
 ·have QB:=Bv (G:=G) n;have Kb:=IY (G:=G) n;rw[if_neg h1] at QB;rw[if_neg (by omega)] at Kb;refine aa.aj ak Tryz.func3 rfl rfl _ rfl ?_;(conv=>whnf);repeat' ((first|(exfalso;omega)|(exact absurd trivial h)|(exact absurd rfl h)|(exact Bool.noConfusion h)|(exact absurd h (by decide))|((exfalso;exact h (decide_eq_false (by omega)).symm))|refine st ?_|(refine⟨fun h=>?_,fun h=>?_⟩<;>try simp only[af] at h)|(refine .inl ?_;(conv=>whnf);(first|refine⟨_,QB,?_⟩|refine⟨_,Kb,?_⟩|refine⟨_,Pz,?_⟩))|refine wf ?_|refine aA ?_|refine nn ?_|fail)<;>conv=>whnf)
end Go.Proofs.YtijddijloelacaaGreat

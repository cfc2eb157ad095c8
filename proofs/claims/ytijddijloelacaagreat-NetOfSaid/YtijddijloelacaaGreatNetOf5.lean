/-
  The walks and plain laws, part 5.
-/
import Derived.Tactics
import Derived.Test.YtijddijloelacaaGreatNetOf4
import Derived.Test.YtijddijloelacaaGreatNetOf2
import Derived.Test.YtijddijloelacaaGreatAm4
set_option linter.unusedSimpArgs false
set_option linter.unusedSectionVars false
set_option linter.unusedVariables false
set_option maxRecDepth 100000
set_option maxHeartbeats 4000000
namespace Go.NetL
/-- A run: from a node to another one, its weight, whether in one direction alone. -/
structure Rn where
 a:Int
 b:Int
 w:Int
 ow:Bool
 deriving Inhabited
structure Ed where
 a:Int
 b:Int
 w:Int
 f:Bool
 k:Bool
 deriving Inhabited,DecidableEq
def Rn.lo(r:Rn):Int:=if r.b<r.a then r.b else r.a
def Rn.hi(r:Rn):Int:=if r.a<r.b then r.b else r.a
def Rn.fw(r:Rn):Bool:=decide (r.a<r.b)
def lz(o:Option Ed)(r:Rn):Ed:=match o with
 | none=>⟨r.lo,r.hi,r.w,r.fw || !r.ow,!r.fw || !r.ow⟩
 | some e=>⟨e.a,e.b,if r.w<e.w then r.w else e.w,e.f||r.fw || !r.ow,e.k || !r.fw || !r.ow⟩
abbrev JN:=Int×Int->Option Ed
def stM(M:JN)(r:Rn):JN:=fun k=>if k=(r.lo,r.hi) then some (lz (M k) r) else M k
def EM(l:List Rn):JN:=l.foldl stM fun _=>none
def Ed.key(e:Ed):Int×Int:=(e.a,e.b)
def qf(x y:Int×Int):Prop:=x.1<y.1\/(x.1=y.1/\x.2<y.2)
instance (x y:Int × Int):Decidable (qf x y):=inferInstanceAs (Decidable (_\/_))
theorem RA{x y:Int×Int}(h:qf x y)(h':qf y x):False:=by unfold qf at *;omega
theorem HY{x:Int×Int}(h:qf x x):False:=RA h h
theorem Ol{x y z:Int×Int}(h:qf x y)(h':qf y z):qf x z:=by unfold qf at *;omega
theorem RB{x y:Int×Int}(h:¬qf x y)(h':¬qf y x):x=y:=Prod.ext (by unfold qf at *;omega) (by unfold qf at *;omega)
/-- The place of the edge between nodes. -/
def H3(l:List Ed)(k:Int×Int):Option Nat:=l.findIdx? fun e=>decide (e.key=k)
def FU(l:List Ed)(k:Int×Int):Option Ed:=l.find? fun e=>decide (e.key=k)
/-- How many from the front on are ahead of it, as they are gone through. -/
def VA(l:List Ed)(e:Ed):Nat:=(List.range l.length).foldl (fun n i=>if qf (l.getD i default).key e.key then i+1 else n) 0
def ur(l:List Ed)(e:Ed):List Ed:=l.take (VA l e)++e::l.drop (VA l e)
def xo(l:List Ed)(r:Rn):List Ed:=match H3 l (r.lo,r.hi) with
 | none=>ur l (lz none r)
 | some i=>l.set i (lz (some (l.getD i default)) r)
def nr(l:List Ed):Prop:=(l.map Ed.key).Pairwise qf
theorem VB{l:List Ed}(h:nr l){i j:Nat}(lB:i<j)(hj:j<l.length):qf (l.getD i default).key (l.getD j default).key:=by
 unfold nr at h;rw[List.pairwise_map,List.pairwise_iff_getElem] at h;have:=h i j (by omega) hj lB;rw[List.getD_eq_getElem?_getD,List.getD_eq_getElem?_getD,List.getElem?_eq_getElem (by omega),List.getElem?_eq_getElem hj];exact this
theorem eL{l:List Ed}(h:nr l){e:Ed}{k:Int×Int}:FU l k=some e↔e∈l/\e.key=k:=by
 unfold FU;constructor
 ·intro hf;exact⟨List.mem_of_find?_eq_some hf,by have:=List.find?_some hf;exact of_decide_eq_true this⟩
 ·rintro⟨hm,hk⟩;cases hf:l.find? fun e=>decide (e.key=k) with
  | none =>
   rw[List.find?_eq_none] at hf;exact absurd (decide_eq_true hk) (hf e hm)
  | some e' =>
   have m':=List.mem_of_find?_eq_some hf;have k':e'.key=k:=by have:=List.find?_some hf;exact of_decide_eq_true this
   have:e'=e:=by
    obtain⟨i,hi,rfl⟩:=List.getElem_of_mem m';obtain⟨j,hj,rfl⟩:=List.getElem_of_mem hm;unfold nr at h;rw[List.pairwise_map,List.pairwise_iff_getElem] at h;rcases Nat.lt_trichotomy i j with q|q|q
    ·exact(HY (by have:=h i j hi hj q;rw[k',hk] at this;exact this)).elim
    ·subst q;rfl
    ·exact(HY (by have:=h j i hj hi q;rw[k',hk] at this;exact this)).elim
   rw[this]
theorem H4{l:List Ed}{k:Int×Int}(h:H3 l k=none):∀e∈l,e.key≠k:=by
 unfold H3 at h;rw[List.findIdx?_eq_none_iff] at h;intro e he hk;have:=h e he;rw[decide_eq_true hk] at this;cases this
theorem rH{l:List Ed}{k:Int×Int}{i:Nat}(h:H3 l k=some i):∃hi:i<l.length,l[i].key=k:=by
 unfold H3 at h;rw[List.findIdx?_eq_some_iff_getElem] at h;obtain⟨hi,h1,_⟩:=h;exact⟨hi,of_decide_eq_true h1⟩
/-- Where an edge is put. -/
theorem RC{l:List Ed}(h:nr l)(e:Ed):VA l e<=l.length/\(∀i,i<VA l e->qf (l.getD i default).key e.key)/\∀i,VA l e<=i->i<l.length->¬qf (l.getD i default).key e.key:=by
 have key:∀n,n<=l.length->let a:=(List.range n).foldl (fun n i=>if qf (l.getD i default).key e.key then i+1 else n) 0;a<=n/\(∀i,i<a->qf (l.getD i default).key e.key)/\∀i,a<=i->i<n->¬qf (l.getD i default).key e.key:=by
  intro n
  induction n with
  | zero=>intro _;exact⟨Nat.le_refl _,fun i hi=>absurd hi (Nat.not_lt_zero _),fun i _ hi=>absurd hi (Nat.not_lt_zero _)⟩
  | succ n ih =>
   intro hn;obtain⟨a1,a2,a3⟩:=ih (by omega);simp only[List.range_succ,List.foldl_append,List.foldl_cons,List.foldl_nil];generalize (List.range n).foldl (fun n i=>if qf (l.getD i default).key e.key then i+1 else n) 0=a at *;by_cases c:qf (l.getD n default).key e.key
   ·rw[if_pos c];refine⟨Nat.le_refl _,fun i hi=>?_,fun i h1 h2=>by omega⟩;by_cases q:i=n
    ·subst q;exact c
    ·exact Ol (VB h (by omega:i<n) (by omega)) c
   ·rw[if_neg c];refine⟨by omega,a2,fun i h1 h2=>?_⟩;by_cases q:i=n
    ·subst q;exact c
    ·exact a3 i h1 (by omega)
 exact key l.length (Nat.le_refl _)
theorem rI{l:List Ed}{i:Nat}(h:i<l.length):l.getD i default=l[i]:=by rw[List.getD_eq_getElem?_getD,List.getElem?_eq_getElem h];rfl
theorem RD{l:List Ed}(h:nr l){e:Ed}(hn:∀x∈l,x.key≠e.key):nr (ur l e)/\∀x,x∈ur l e↔x=e\/x∈l:=by
 obtain⟨a1,a2,a3⟩:=RC h e;unfold ur;generalize VA l e=a at *;constructor
 ·unfold nr at *;rw[List.pairwise_map] at *;rw[List.pairwise_append,List.pairwise_cons]
  have ht:∀x∈l.take a,qf x.key e.key:=fun x hx=>by
   obtain⟨i,hi,rfl⟩:=List.getElem_of_mem hx;rw[List.length_take] at hi;rw[List.getElem_take];have:=a2 i (by omega);rw[rI (by omega)] at this;exact this
  have hd:∀x∈l.drop a,qf e.key x.key:=fun x hx=>by
   obtain⟨i,hi,rfl⟩:=List.getElem_of_mem hx;rw[List.length_drop] at hi;rw[List.getElem_drop];have h1:=a3 (a+i) (by omega) (by omega);rw[rI (by omega)] at h1;refine Classical.byContradiction fun h2=>?_;exact hn _ (List.getElem_mem (by omega)) (RB h1 h2)
  refine⟨h.sublist (List.take_sublist _ _),⟨hd,h.sublist (List.drop_sublist _ _)⟩,?_⟩;intro x hx y hy;rcases List.mem_cons.1 hy with rfl|hy
  ·exact ht x hx
  ·exact Ol (ht x hx) (hd y hy)
 ·intro x;rw[List.mem_append,List.mem_cons];have:x∈l↔x∈l.take a\/x∈l.drop a:=by rw[<-List.mem_append,List.take_append_drop]
  rw[this];constructor
  ·rintro(h|h|h)
   ·exact .inr (.inl h)
   ·exact .inl h
   ·exact .inr (.inr h)
  ·rintro(h|h|h)
   ·exact .inr (.inl h)
   ·exact .inl h
   ·exact .inr (.inr h)
/-- One run more. -/
theorem Y7{l:List Ed}{M:JN}(h:nr l)(hM:∀k,FU l k=M k)(r:Rn):nr (xo l r)/\∀k,FU (xo l r) k=stM M r k:=by
 unfold xo;cases hp:H3 l (r.lo,r.hi) with
 | none =>
  have hn:=H4 hp;have hk:(lz none r).key=(r.lo,r.hi):=rfl;obtain⟨p1,p2⟩:=RD h (e:=lz none r) (fun x hx=>by rw[hk];exact hn x hx);refine⟨p1,fun k=>?_⟩
  have Xx:FU l (r.lo,r.hi)=none:=by
   cases e:FU l (r.lo,r.hi) with
   | none=>rfl
   | some x=>exact absurd ((eL h).1 e).2 (hn x ((eL h).1 e).1)
  unfold stM;by_cases c:k=(r.lo,r.hi)
  ·subst c;rw[if_pos rfl,<-hM,Xx];exact(eL p1).2 ⟨(p2 _).2 (.inl rfl),hk⟩
  ·rw[if_neg c,<-hM];cases e:FU l k with
   | some x=>exact(eL p1).2 ⟨(p2 _).2 (.inr ((eL h).1 e).1),((eL h).1 e).2⟩
   | none =>
    cases e':FU (ur l (lz none r)) k with
    | none=>rfl
    | some x =>
     obtain⟨m1,m2⟩:=(eL p1).1 e';rcases (p2 x).1 m1 with rfl|m1
     ·exact absurd m2.symm (by rw[hk];exact c)
     ·rw[(eL h).2 ⟨m1,m2⟩] at e;cases e
 | some i =>
  obtain⟨hi,hk⟩:=rH hp;have hg:=rI hi;simp only[];rw[hg];have iu:(lz (some l[i]) r).key=l[i].key:=rfl
  have hmap:(l.set i (lz (some l[i]) r)).map Ed.key=l.map Ed.key:=by
   apply List.ext_getElem (by simp);intro j h1 h2;simp only[List.getElem_map,List.getElem_set];split
   ·rename_i q;subst q;exact iu
   ·rfl
  have p1:nr (l.set i (lz (some l[i]) r)):=by unfold nr;rw[hmap];exact h
  refine⟨p1,fun k=>?_⟩;unfold stM;have hli:FU l (r.lo,r.hi)=some l[i]:=(eL h).2 ⟨List.getElem_mem hi,hk⟩;by_cases c:k=(r.lo,r.hi)
  ·subst c;rw[if_pos rfl,<-hM,hli];exact(eL p1).2 ⟨List.mem_iff_getElem.2 ⟨i,by simpa using hi,by simp⟩,iu.trans hk⟩
  ·rw[if_neg c,<-hM];cases e:FU l k with
   | some x =>
    obtain⟨m1,m2⟩:=(eL h).1 e;obtain⟨j,hj,rfl⟩:=List.getElem_of_mem m1;have:i≠j:=fun q=>by subst q;exact c (m2.symm.trans hk)
    refine(eL p1).2 ⟨List.mem_iff_getElem.2 ⟨j,by simpa using hj,?_⟩,m2⟩;rw[List.getElem_set,if_neg this]
   | none =>
    cases e':FU (l.set i (lz (some l[i]) r)) k with
    | none=>rfl
    | some x =>
     obtain⟨m1,m2⟩:=(eL p1).1 e';obtain⟨j,hj,rfl⟩:=List.getElem_of_mem m1;rw[List.length_set] at hj;rw[List.getElem_set] at m2;split at m2
     ·exact absurd (m2.symm.trans (iu.trans hk)) c
     ·rw[(eL h).2 ⟨List.getElem_mem hj,m2⟩] at e;cases e
def ER(l:List Rn):List Ed:=l.foldl xo []
theorem Tb:∀(rs:List Rn) (l:List Ed) (M:JN),nr l->(∀k,FU l k=M k)->nr (rs.foldl xo l)/\∀k,FU (rs.foldl xo l) k=rs.foldl stM M k
 | [],l,M,h,hM=>⟨h,hM⟩
 | r::rs,l,M,h,hM=>by
  obtain⟨a,b⟩:=Y7 h hM r;exact Tb rs _ _ a b
theorem H5(l:List Rn):nr (ER l)/\∀k,FU (ER l) k=EM l k:=Tb l [] _ .nil fun _=>rfl
end Go.NetL
namespace Go.Proofs.YtijddijloelacaaGreat
open Go.Proofs.YtijddijloelacaaGreat.Am Go.Sort Go.Proofs Go.Lib Go.NetL
variable [Inhabited cF]
variable {G:aK}
def Y8(c:Cu):List KC:=[.bool c.1.p,.int (c.1.X.a:Nat),.int (c.1.X.b:Nat),.int (c.1.X.c:Nat),.int (c.1.X.d:Nat),.int (c.1.X.e:Nat),.int (c.1.X.f:Nat),.int (c.1.X.g:Nat),.int (c.1.X.h:Nat),.bool c.1.q,.int (c.1.Y.a:Nat),.int (c.1.Y.b:Nat),.int (c.1.Y.c:Nat),.int (c.1.Y.d:Nat),.int (c.1.Y.e:Nat),.int (c.1.Y.f:Nat),.int (c.1.Y.g:Nat),.int (c.1.Y.h:Nat),.int (c.1.W.a:Nat),.int (c.1.W.b:Nat),.int (c.1.W.c:Nat),.int (c.1.W.d:Nat),.int (c.1.W.e:Nat),.int (c.1.W.f:Nat),.int (c.1.W.g:Nat),.int (c.1.W.h:Nat)]
def kA1:A->KC
 | .int _ n=>.int n
 | .sb b=>.bool b
 | _=>.bool false
theorem Om{c:Cu}(h:fJ (jr c)=FE c.1):Y8 c=A0 (jr c):=by
 have:=congrArg (List.map kA1) h;exact this.symm
def ixN(N:List RS)(c:Cu):Int:=((N.map A0).idxOf (Y8 c):Nat)
def WI(sp:Sp)(L:List Cu)(N:List RS)(i:Nat):Rn:=⟨ixN N (L.getD i default),ixN N (L.getD (i+1) default),(kG sp.w (L.map ph)).getD i 0,sp.ow⟩
def pC(sp:Sp)(L:List Cu)(N:List RS)(k:Nat):List Rn:=(List.range k).map (WI sp L N)
def Tc(sp:Sp)(L:List Cu)(N:List RS):List Rn:=pC sp L N (L.length-1)
def WJ(r:Rn):List A:=[.int .i64 r.lo,.int .i64 r.hi,.sb r.fw,.int .i64 r.w,.sb r.ow]
def xL(l:List Rn):A:=.sl l.length 5 fun i=>WJ (l.getD i default)
theorem oY(sp:Sp)(L:List Cu)(N:List RS)(k:Nat):(pC sp L N k).length=k:=by simp[pC]
theorem FV(sp:Sp)(L:List Cu)(N:List RS)(k:Nat):pC sp L N (k+1)=pC sp L N k++[WI sp L N k]:=by simp[pC,List.range_succ]
theorem VC(sp:Sp)(L:List Cu)(N:List RS)(hw:0<=sp.w/\sp.w<=2147483648)(hP:WG (L.map ph))(hk:∀c∈L,uq N (Y8 c)=true)(hN:N.length<=1000000):
  aa Tryz.prog G 47 [.agg (Vr sp),kv L,.mv true WH (uq N) (A1 N)] (xL (Tc sp L N)):=by
 have l2:=hP.l2;have l3:=hP.l3;rw[List.length_map] at l2 l3;have h1:=Oj (G:=G) L (by omega);have h2:=Og (G:=G) sp.w (L.map ph) hw hP;have Y6:=vb sp.w (L.map ph);rw[List.length_map] at Y6;refine aa.af ak Tryz.func47 rfl rfl _ rfl ?_;(conv=>whnf);repeat' ((first|refine st ?_|(refine⟨fun h=>?_,fun h=>?_⟩<;>try simp only[ae] at h)|(refine .inl ?_;(conv=>whnf);(first|refine⟨_,h1,?_⟩|refine⟨_,h2,?_⟩))|refine wf ?_|refine ao ?_|refine nn ?_|fail)<;>conv=>whnf)
 refine jB 7 107 5 rfl ?_;(conv=>whnf);refine ah (fun i:Nat=>i<=L.length-1) (fun i=>[(24,.int .i64 (i:Int)),(7,.own 1),(10,.aj),(11,.aj),(12,.aj),(13,.aj)]) (fun i=>[.box 62 (Vr sp),.row 107 5 (pC sp L N i).length (fun j=>WJ ((pC sp L N i).getD j default))]) (fun i=>L.length-1-i) 0 (Nat.zero_le _) ?_ ?_
 ·conv=>whnf
  repeat (first|exact fa|((first|refine fb ?_|(refine And.intro ?_ ?_;rotate_left));conv=>whnf))
 ·intro i hi;have hi:i<=L.length-1:=hi;rcases Nat.lt_or_ge i (L.length-1) with bT|bT
  ·have k1:=hk _ (List.getElem_mem (show i<L.length by omega));have k2:=hk _ (List.getElem_mem (show i+1<L.length by omega));rw[<-gB] at k1 k2;have hlen:=oY sp L N i;(conv=>whnf);repeat' ((first|(exfalso;omega)|(exact absurd k1 (by rw[show uq N (Y8 (L.getD i default))=false from h];exact Bool.noConfusion))|(exact absurd k2 (by rw[show uq N (Y8 (L.getD (i+1) default))=false from h];exact Bool.noConfusion))|refine st ?_|(refine⟨fun h=>?_,fun h=>?_⟩<;>try simp only[ae] at h)|refine wf ?_|refine ao ?_|refine nn ?_|fail)<;>conv=>whnf)
   refine⟨i+1,(by show i+1<=L.length-1;omega),(by show L.length-1-(i+1)<L.length-1-i;omega),?_⟩;(conv=>whnf)
   repeat (first|exact fa|((first|refine fb ?_|(refine And.intro ?_ ?_;rotate_left));conv=>whnf))
   ·exact Or.inl fun j hj=>by rw[FV];exact jq WJ _ (WI sp L N i) _ rfl _ rfl j hj
   ·rw[oY,oY]
  ·have e:i=L.length-1:=by omega
   subst e;(conv=>whnf);repeat' ((first|(exfalso;omega)|refine st ?_|(refine⟨fun h=>?_,fun h=>?_⟩<;>try simp only[ae] at h)|refine wf ?_|refine ao ?_|refine nn ?_|fail)<;>conv=>whnf)
   exact Or.inl fun _ _=>rfl
def fX(e:Ed):List A:=[.int .i64 e.a,.int .i64 e.b,.int .i64 e.w,.sb e.f,.sb e.k]
def eH(M:JN)(k:List KC):Bool:=match k with
 | [.int a,.int b]=>(M (a,b)).isSome
 | _=>false
def eV(M:JN)(k:List KC):A:=match k with
 | [.int a,.int b]=>.agg (fX ((M (a,b)).getD default))
 | _=>.aj
def WK(M:JN):ar:=.fK true [.int .i64,.int .i64] (eH M) (eV M)
theorem VD(M:JN)(r:Rn)(key:List KC):pR (eH M) [.int r.lo,.int r.hi] true key=eH (stM M r) key:=by
 unfold pR;split
 ·rename_i e;subst e;show true=(stM M r (r.lo,r.hi)).isSome;unfold NetL.stM;rw[if_pos rfl];rfl
 ·rename_i hne;unfold eH;split
  ·rename_i a b;have:(a,b)≠(r.lo,r.hi):=fun e=>hne (by rw[Prod.mk.injEq] at e;rw[e.1,e.2]);unfold NetL.stM;rw[if_neg this]
  ·rfl
theorem VE(M:JN)(r:Rn)(x:A)(hx:x=.agg (fX (lz (M (r.lo,r.hi)) r)))(key:List KC):sD (eV M) [.int r.lo,.int r.hi] x key=eV (stM M r) key:=by
 unfold sD;split
 ·rename_i e;subst e;show x=.agg (fX ((stM M r (r.lo,r.hi)).getD default));unfold NetL.stM;rw[if_pos rfl];exact hx
 ·rename_i hne;unfold eV;split
  ·rename_i a b;have:(a,b)≠(r.lo,r.hi):=fun e=>hne (by rw[Prod.mk.injEq] at e;rw[e.1,e.2]);unfold NetL.stM;rw[if_neg this]
  ·rfl
theorem On(M:JN)(r:Rn):aM Tryz.prog G 48 [.omap 1,.agg (WJ r)] [.ghost [.aj,.aj,.omap 1],WK M] (.tup []) [.ghost [.aj,.aj,.omap 1],WK (stM M r)]:=by
 have hv:=VE M r;have hh:=VD M r;refine aM.af ak Tryz.func48 rfl rfl _ rfl ?_;(conv=>whnf);cases hm:M (r.lo,r.hi) with
 | none =>
  rw[hm] at hv;have hs:(M (r.lo,r.hi)).isSome=false:=by rw[hm];rfl
  repeat' (first|(exact Bool.noConfusion (hs.symm.trans h))|((have q1:r.fw=true:=by assumption;have q2:r.fw=false:=by assumption;exact Bool.noConfusion (q1.symm.trans q2)))|((refine zZ (id:=7) [(4,.ref 3 0)] [.ghost [.aj,.aj,.omap 1],WK M,.box 107 (WJ r),.box 67 (fX (lz none r))] ?_ ?_;rotate_left;(conv=>whnf);refine st ?_;conv=>whnf))|(refine st ?_;conv=>whnf)|(refine⟨fun h=>?_,fun h=>?_⟩<;>(try simp only[ae] at h)<;>conv=>whnf)|((first|refine wf ?_|refine ao ?_|refine nn ?_|fail);conv=>whnf))
  all_goals first
   | exact hh h
   | exact fun _=>hv _ rfl h
   | (clear hh hv
      repeat (first|exact fa|((first|refine fb ?_|(refine And.intro ?_ ?_;rotate_left));conv=>whnf))
      all_goals first|exact fun _ _=>rfl|(simp_all [lz];done)|(exfalso;simp_all;done)|skip)
 | some e =>
  rw[hm] at hv;have hs:(M (r.lo,r.hi)).isSome=true:=by rw[hm];rfl
  have hd:(M (r.lo,r.hi)).getD default=e:=by rw[hm];rfl
  repeat' (first|(exact Bool.noConfusion (hs.symm.trans h))|((have q1:r.fw=true:=by assumption;have q2:r.fw=false:=by assumption;exact Bool.noConfusion (q1.symm.trans q2)))|((refine zZ (id:=7) [(4,.ref 3 0)] [.ghost [.aj,.aj,.omap 1],WK M,.box 107 (WJ r),.box 67 (fX (lz (some e) r))] ?_ ?_;rotate_left;(conv=>whnf);refine st ?_;conv=>whnf))|(refine st ?_;conv=>whnf)|(refine⟨fun h=>?_,fun h=>?_⟩<;>(try simp only[ae] at h)<;>conv=>whnf)|((first|refine wf ?_|refine ao ?_|refine nn ?_|fail);conv=>whnf))
  all_goals first
   | exact hh h
   | exact fun _=>hv _ rfl h
   | (clear hh hv
      repeat (first|exact fa|((first|refine fb ?_|(refine And.intro ?_ ?_;rotate_left));conv=>whnf))
      all_goals first|exact fun _ _=>rfl|(simp_all [lz];done)|(exfalso;simp_all;done)|skip)
theorem RE(row:Nat->List A):aa Tryz.prog G 207 [.sl 0 2 row,.int .i64 0,.int .i64 0,.fn 51 []] (.tup []):=by
 refine aa.af ak Tryz.func207 rfl rfl _ rfl ?_;(conv=>whnf);repeat' ((first|refine st ?_|(refine⟨fun h=>?_,fun h=>?_⟩<;>try simp only[ae] at h)|refine wf ?_|refine ao ?_|refine nn ?_|fail)<;>conv=>whnf)
 refine ah (fun _:Nat=>True) (fun _=>[(8,.int .i64 1)]) (fun _=>[]) (fun _=>0) 0 trivial ?_ ?_
 ·exact ff
 ·intro i _;(conv=>whnf);repeat' ((first|refine st ?_|(refine⟨fun h=>?_,fun h=>?_⟩<;>try simp only[ae] at h)|refine wf ?_|refine ao ?_|refine nn ?_|fail)<;>conv=>whnf)
  all_goals first|trivial|(exfalso;omega)
theorem RF(row:Nat->List A):aa Tryz.prog G 151 [.sl 0 2 row,.int .i64 0,.int .i64 0,.int .i64 0,.fn 51 []] (.tup []):=by
 refine aa.af ak Tryz.func151 rfl rfl _ rfl ?_;(conv=>whnf)
 repeat (first|(refine st ?_;conv=>whnf))
 refine ah (fun _:Nat=>True) (fun _=>[(1,.int .i64 0),(2,.int .i64 0),(3,.int .i64 0)]) (fun _=>[]) (fun _=>0) 0 trivial ?_ ?_
 ·exact ff
 ·intro i _;have hi:=RE (G:=G) row;(conv=>whnf);repeat' ((first|refine st ?_|(refine⟨fun h=>?_,fun h=>?_⟩<;>try simp only[ae] at h)|(refine .inl ?_;(conv=>whnf);refine⟨_,hi,?_⟩)|refine wf ?_|refine ao ?_|refine nn ?_|fail)<;>conv=>whnf)
  all_goals first|trivial|(exact absurd trivial h)|(exact absurd h (by decide))
theorem Oo(row:Nat->List A):aa Tryz.prog G 100 [.sl 0 2 row,.fn 51 []] (.tup []):=by
 refine aa.af ak Tryz.func100 rfl rfl _ rfl ?_;have hi:=RF (G:=G) row;(conv=>whnf);repeat' ((first|refine st ?_|(refine⟨fun h=>?_,fun h=>?_⟩<;>try simp only[ae] at h)|(refine .inl ?_;(conv=>whnf);(first|refine⟨_,Hg,?_⟩|refine⟨_,hi,?_⟩))|refine wf ?_|refine ao ?_|refine nn ?_|fail)<;>conv=>whnf)
 all_goals trivial
theorem xe(a b:Pr):aa Tryz.prog G 51 [.agg (UC a),.agg (UC b)] (.int .i64 (pg a b)):=by
 refine aa.af ak Tryz.func51 rfl rfl _ rfl ?_;(conv=>whnf);repeat' ((first|refine st ?_|(refine⟨fun h=>?_,fun h=>?_⟩<;>try simp only[ae] at h)|refine wf ?_|refine ao ?_|refine nn ?_|fail)<;>conv=>whnf)
 repeat' ((first|refine st ?_|(refine⟨fun h=>?_,fun h=>?_⟩<;>try simp only[ae] at h)|(refine .inl ?_;(conv=>whnf);refine⟨_,lV _ _,?_⟩)|refine wf ?_|refine ao ?_|refine nn ?_|fail)<;>conv=>whnf)
 refine Or.inl ?_;(conv=>whnf);refine⟨_,(LA [dm a.i b.i,dm a.k b.k] (by simp)).fit ?_,rfl,?_⟩
 ·(conv=>whnf);refine⟨rfl,Or.inl fun i hi=>?_⟩
  match i,hi with
  | 0,_=>rfl
  | 1,_=>rfl
 ·(conv=>whnf);repeat' ((first|refine st ?_|(refine⟨fun h=>?_,fun h=>?_⟩<;>try simp only[ae] at h)|refine wf ?_|refine ao ?_|refine nn ?_|fail)<;>conv=>whnf)
  rfl
theorem Oq(dS:(default:cF).ns)(l:List Pr)(hl:l.length<=1000000)(h0:0<l.length):
  aM Tryz.prog G 100 [.own 1,.fn 51 []] [.ghost [.own 1,.aj,.aj],.row 105 2 l.length (bW Ar l)] (.tup []) [.ghost [.own 1,.aj,.aj],.row 105 2 l.length (bW Ar (fQ pg l))]:=by
 exact tI dS (@aM.qT J9 Tryz.prog Tryz.pv G Pr _ (fun h=>h) Tryz.Jb 2 (by omega) (fun w=>by kernel_rfl) (fun w=>by kernel_rfl) Ar (fun _=>rfl) pg mU 51 [] rfl
  (fun x y=>@xe J9 G x y) ⟨_,_,Tryz.func100,rfl,rfl⟩ 105 l hl h0)
theorem RG(has:List KC->Bool)(val:List KC->A):
  aa Tryz.prog G 50 [.mv true D9 has val] (.fn 101 [.bref [.mv true D9 has val] 0]):=by
 refine aa.af ak Tryz.func50 rfl rfl _ rfl ?_;(conv=>whnf);repeat' ((first|refine st ?_|(refine⟨fun h=>?_,fun h=>?_⟩<;>try simp only[ae] at h)|refine wf ?_|refine ao ?_|refine nn ?_|fail)<;>conv=>whnf)
theorem FW(dS:(default:cF).ns)(has:List KC->Bool)(val:List KC->A)(K:List Pr)(sn:K.Nodup)(hK:∀k,jv D9 k->(has k=true↔∃x∈K,k=[.int x.i,.int x.k]))(hn:K.length<=1000000):
  aM Tryz.prog G 99 [.fn 101 [.bref [.mv true D9 has val] 0]] [] (.own 0) [.bW 105 2 K.length (Mh K)]:=by
 have hm:=At (G:=G) dS has val K sn hK hn;refine aM.af ak Tryz.func99 rfl rfl _ rfl ?_;(conv=>whnf);repeat' ((first|refine st ?_|(refine⟨fun h=>?_,fun h=>?_⟩<;>try simp only[ae] at h)|((first|refine .inr (.inr (.inr ?_))|refine .inr ?_);(conv=>whnf);refine⟨_,_,hm,?_⟩)|refine wf ?_|refine ao ?_|refine nn ?_|fail)<;>conv=>whnf)
 exact fun _ h=>h
theorem JO(dS:(default:cF).ns)(has:List KC->Bool)(val:List KC->A)(K:List Pr)(hs:K.Pairwise gX)(hK:∀k,jv D9 k->(has k=true↔∃x∈K,k=[.int x.i,.int x.k]))(hn:K.length<=1000000):
  aa Tryz.prog G 49 [.fn 101 [.bref [.mv true D9 has val] 0],.fn 51 []] (.sl K.length 2 (bW Ar K)):=by
 have sn:K.Nodup:=by
  rw[List.nodup_iff_pairwise_ne];refine hs.imp fun {a b} h e=>?_;subst e;unfold gX at h;omega
 have hm:=FW (G:=G) dS has val K sn hK hn;refine aa.af ak Tryz.func49 rfl rfl _ rfl ?_;(conv=>whnf);repeat' ((first|((refine Lv (code:=.region 2 _ _) 0 rfl ?_))|refine st ?_|(refine⟨fun h=>?_,fun h=>?_⟩<;>try simp only[ae] at h)|((first|refine .inr (.inr (.inr ?_))|refine .inr ?_);(conv=>whnf);refine⟨_,_,hm,?_⟩)|refine wf ?_|refine ao ?_|refine nn ?_|fail)<;>conv=>whnf)
 rintro row ⟨l,hl,hr⟩;obtain rfl:row=bW Ar l:=funext hr;have hlen:=hl.length_eq
 have hsr:fQ pg l=K:=by
  refine mT _ _ (tO l (hl.nodup_iff.2 sn)) hs fun x=>?_;rw[(du pg mU l).1.mem_iff,hl.mem_iff]
 by_cases hz:K.length=0
 ·refine gL 0 ?_;(conv=>whnf);have h0:aa Tryz.prog G 100 [.sl K.length 2 (bW Ar l),.fn 51 []] (.tup []):=by rw[hz];exact Oo _
  repeat' ((first|refine st ?_|(refine⟨fun h=>?_,fun h=>?_⟩<;>try simp only[ae] at h)|(refine .inl ?_;(conv=>whnf);refine⟨_,h0,?_⟩)|refine wf ?_|refine ao ?_|refine nn ?_|fail)<;>conv=>whnf)
  exact .inl fun i hi=>by omega
 ·have hc:=Oq (G:=G) dS l (by omega) (by omega);rw[hsr,hlen] at hc;(conv=>whnf);repeat' ((first|refine st ?_|(refine⟨fun h=>?_,fun h=>?_⟩<;>try simp only[ae] at h)|(refine .inr (.inl ?_);(conv=>whnf);refine⟨_,_,hc,?_⟩)|refine wf ?_|refine ao ?_|refine nn ?_|fail)<;>conv=>whnf)
  exact .inl fun _ _=>rfl
def kP(x:Pr):List KC:=[.int x.i,.int x.k]
def FX(L:List Pr)(k:List KC):Bool:=decide (k∈L.map kP)
def Ot(L:List Pr)(k:List KC):A:=.int .i64 ((L.map kP).idxOf k:Nat)
theorem VF(N:List Pr)(k:Nat)(h:k<N.length)(key:List KC):pR (FX (N.take k)) (kP (N.getD k default)) true key=FX (N.take (k+1)) key:=by
 have ht:(N.take (k+1)).map kP=(N.take k).map kP++[kP (N.getD k default)]:=by
  rw[List.take_add_one,List.getElem?_eq_getElem h,List.getD_eq_getElem?_getD,List.getElem?_eq_getElem h,List.map_append];rfl
 unfold pR FX;rw[ht];split
 ·rename_i e;subst e;exact(decide_eq_true (List.mem_append_right _ (List.mem_singleton.2 rfl))).symm
 ·rename_i e;rw[decide_eq_decide,List.mem_append,List.mem_singleton];exact⟨.inl,fun q=>q.resolve_right e⟩
theorem VG{N:List Pr}(hn:(N.map kP).Nodup)(k:Nat)(h:k<N.length)(key:List KC):sD (Ot N) (kP (N.getD k default)) (.int .i64 (k:Int)) key=Ot N key:=by
 unfold sD;split
 ·rename_i e;subst e;unfold Ot;have:=A3 hn (k:=k) (by simpa using h);rw[List.getElem_map] at this;rw[List.getD_eq_getElem?_getD,List.getElem?_eq_getElem h];show _=A.int .i64 (((N.map kP).idxOf (kP N[k]):Nat):Int);rw[this]
 ·rfl
/-- A piece: its edge's place, whether it goes forth, its weight. -/
structure Pc where
 e:Nat
 f:Bool
 w:Int
 deriving Inhabited,DecidableEq
def Ou(p:Pc):List A:=[.int .i64 (p.e:Int),.sb p.f,.int .i64 p.w]
def jt(l:List Pc):A:=.sl l.length 3 fun i=>Ou (l.getD i default)
def ql(K:List Pr)(r:Rn):Pc:=⟨(K.map kP).idxOf [.int r.lo,.int r.hi],r.fw,r.w⟩
theorem Ov(R:List Rn)(K:List Pr)(hR:R.length<=1000000)(hk:∀r∈R,FX K [.int r.lo,.int r.hi]=true):
  aa Tryz.prog G 52 [xL R,.mv true D9 (FX K) (Ot K)] (jt (R.map (ql K))):=by
 refine aa.af ak Tryz.func52 rfl rfl _ rfl ?_;(conv=>whnf);repeat' ((first|refine st ?_|(refine⟨fun h=>?_,fun h=>?_⟩<;>try simp only[ae] at h)|refine wf ?_|refine ao ?_|refine nn ?_|fail)<;>conv=>whnf)
 refine jB 5 65 3 rfl ?_;(conv=>whnf);refine ah (fun i:Nat=>i<=R.length) (fun i=>[(10,.int .i64 (i:Int)),(5,.own 0),(7,.aj)]) (fun i=>[.row 65 3 ((R.take i).map (ql K)).length (fun j=>Ou (((R.take i).map (ql K)).getD j default))]) (fun i=>R.length-i) 0 (Nat.zero_le _) ?_ ?_
 ·conv=>whnf
  repeat (first|exact fa|((first|refine fb ?_|(refine And.intro ?_ ?_;rotate_left));conv=>whnf))
 ·intro i hi;have hi:i<=R.length:=hi;rcases Nat.lt_or_ge i R.length with bT|bT
  ·have k1:=hk _ (List.getElem_mem bT);have hg:R.getD i default=R[i]:=by rw[List.getD_eq_getElem?_getD,List.getElem?_eq_getElem bT];rfl
   rw[<-hg] at k1;have et:(R.take (i+1)).map (ql K)=(R.take i).map (ql K)++[ql K (R.getD i default)]:=by rw[List.take_add_one,List.getElem?_eq_getElem bT,hg,List.map_append];rfl
   have hlen:((R.take i).map (ql K)).length<=1000000:=by rw[List.length_map,List.length_take];omega
   (conv=>whnf);repeat' ((first|(exfalso;omega)|(exact Bool.noConfusion (k1.symm.trans h))|((refine eO (id:=6) 4 [3] rfl rfl ?_;conv=>whnf))|refine st ?_|(refine⟨fun h=>?_,fun h=>?_⟩<;>try simp only[ae] at h)|refine wf ?_|refine ao ?_|refine nn ?_|fail)<;>conv=>whnf)
   refine⟨i+1,bT,(by show R.length-(i+1)<R.length-i;omega),?_⟩;(conv=>whnf)
   repeat (first|exact fa|((first|refine fb ?_|(refine And.intro ?_ ?_;rotate_left));conv=>whnf))
   ·exact Or.inl fun j hj=>by rw[et];exact jq Ou _ (ql K (R.getD i default)) _ rfl _ rfl j hj
   ·rw[et,List.length_append];rfl
  ·have e:i=R.length:=by omega
   subst e;rw[List.take_length];(conv=>whnf);repeat' ((first|(exfalso;omega)|refine st ?_|(refine⟨fun h=>?_,fun h=>?_⟩<;>try simp only[ae] at h)|refine wf ?_|refine ao ?_|refine nn ?_|fail)<;>conv=>whnf)
   exact .inl fun _ _=>rfl
def cN(R:Nat->List Rn)(n:Nat):List Rn:=(List.range n).flatMap R
theorem oZ(R:Nat->List Rn)(n:Nat):cN R (n+1)=cN R n++R n:=by simp[cN,List.range_succ]
theorem RH(l:List Rn)(r:Rn):EM (l++[r])=stM (EM l) r:=by simp[EM,List.foldl_append]
theorem JR(f:Nat->List A)(i:Nat)(r:Nat->List A)(hr:r 0=f i)(j:Nat)(hj:j<i+1):aO i f r j=f j:=by
 unfold aO;split
 ·rfl
 ·rename_i h;have h:¬j<i:=fun h'=>by rw[show Nat.blt j i=true from Nat.ble_eq_true_of_le h'] at h;cases h
  obtain rfl:j=i:=by omega
  rw[Nat.sub_self,hr]
def iK(S:List Sp)(k:Nat):List Sg:=(S.take k).map (·.s)
def qg(E:List Ed):A:=.sl E.length 5 fun i=>fX (E.getD i default)
def jQ(N:List RS)(E:List Ed)(n:Nat)(P:Nat->List Pc):A:=.agg [dM N,qg E,.sl n 1 fun i=>[jt (P i)]]
theorem Y9(l:List Rd)(S:List Sp)(hn:S.length<=50)(F:Nat->List Cu)(N:List RS)(R:Nat->List Rn)(K:List Pr)
  (h1:aa Tryz.prog G 44 [jC l] (.tup [AW S,.int .i64 0]))
  (h2:aa Tryz.prog G 45 [p9 (S.map (·.s))] (.tup [ly S.length F,.int .i64 0]))
  (h3:aa Tryz.prog G 46 [ly S.length F] (.tup [dM N,.mv true WH (uq N) (A1 N)]))
  (h4:∀i,i<S.length->aa Tryz.prog G 47 [.agg (Vr (S.getD i default)),kv (F i),.mv true WH (uq N) (A1 N)] (xL (R i)))
  (hR:∀i,i<S.length->(R i).length<=1000)
  (hK:K.length<=100000) (hK1:∀k∈K,(EM (cN R S.length) (k.i,k.k)).isSome=true) (hKn:(K.map kP).Nodup) (hRK:∀i,i<S.length->∀r∈R i,FX K [.int r.lo,.int r.hi]=true)
  (h5:aa Tryz.prog G 49 [.fn 101 [.bref [.mv true D9 (eH (EM (cN R S.length))) (eV (EM (cN R S.length)))] 0],.fn 51 []] (.sl K.length 2 (bW Ar K))) :
  aa Tryz.prog G 15 [jC l] (.tup [jQ N (K.map fun k=>(EM (cN R S.length) (k.i,k.k)).getD default) S.length fun i=>(R i).map (ql K),.int .i64 0]):=by
 refine aa.af ak Tryz.func15 rfl rfl _ rfl ?_;(conv=>whnf);repeat' ((first|((exfalso;exact h trivial))|refine st ?_|(refine⟨fun h=>?_,fun h=>?_⟩<;>try simp only[ae] at h)|(refine .inl ?_;(conv=>whnf);refine⟨_,h1,?_⟩)|refine wf ?_|refine ao ?_|refine nn ?_|fail)<;>conv=>whnf)
 refine jB 6 60 4 rfl ?_;(conv=>whnf);refine ah (fun i:Nat=>i<=S.length) (fun i=>[(37,.int .i64 (i:Int)),(6,.own 1),(8,.aj)]) (fun i=>[.box 39 [.aC,.aC,.aC],.row 60 4 (iK S i).length (Uz (iK S i))]) (fun i=>S.length-i) 0 (Nat.zero_le _) ?_ ?_
 ·exact ff
 ·intro i hi;have hi:i<=S.length:=hi;rcases Nat.lt_or_ge i S.length with bT|bT
  ·have hg:S.getD i default=S[i]:=by rw[List.getD_eq_getElem?_getD,List.getElem?_eq_getElem bT];rfl
   have et:iK S (i+1)=iK S i++[(S.getD i default).s]:=by unfold iK;rw[List.take_add_one,List.getElem?_eq_getElem bT,hg,List.map_append];rfl
   have hlen:(iK S i).length<=50:=by unfold iK;rw[List.length_map,List.length_take];omega
   (conv=>whnf);repeat' ((first|(exfalso;omega)|refine st ?_|(refine⟨fun h=>?_,fun h=>?_⟩<;>try simp only[ae] at h)|refine wf ?_|refine ao ?_|refine nn ?_|fail)<;>conv=>whnf)
   refine⟨i+1,bT,(by show S.length-(i+1)<S.length-i;omega),?_⟩;(conv=>whnf)
   repeat (first|exact fa|((first|refine fb ?_|(refine And.intro ?_ ?_;rotate_left));conv=>whnf))
   ·exact Or.inl fun j hj=>by rw[et];exact jq (fun s:Sg=>[A.int .i64 s.a.x,.int .i64 s.a.y,.int .i64 s.b.x,.int .i64 s.b.y]) _ ((S.getD i default).s) _ rfl _ rfl j hj
   ·rw[et,List.length_append];rfl
  ·have e:i=S.length:=by omega
   subst e;have es:iK S S.length=S.map (·.s):=by unfold iK;rw[List.take_length]
   rw[es];unfold p9 ly at h2;unfold ly dM at h3;(conv=>whnf);repeat' ((first|(exfalso;omega)|refine st ?_|(refine⟨fun h=>?_,fun h=>?_⟩<;>try simp only[ae] at h)|(refine .inr (.inr (.inl ?_));(conv=>whnf);(first|refine⟨_,h2,?_⟩|refine⟨_,h3,?_⟩))|refine wf ?_|refine ao ?_|refine nn ?_|fail)<;>conv=>whnf)
   have eE0:∀k,(fun _=>false:List KC->Bool) k=eH (EM (cN R 0)) k:=fun k=>by unfold eH;split<;>rfl
   refine jB 14 101 1 rfl ?_;(conv=>whnf);refine ah (fun i:Nat=>i<=S.length) (fun i=>[(60,.int .i64 (i:Int)),(14,.own 3),(15,.aj),(16,.aj),(17,.aj),(19,.aj)]) (fun i=>[.box 39 [.aC,.aC,.aC],.dead,WK (EM (cN R i)),.row 101 1 i fun j=>[xL (R j)]]) (fun i=>S.length-i) 0 (Nat.zero_le _) ?_ ?_
   ·conv=>whnf
    repeat (first|exact fa|((first|refine fb ?_|(refine And.intro ?_ ?_;rotate_left));conv=>whnf))
    ·exact eE0
    ·exact fun _ h=>Bool.noConfusion h
   ·intro i dH;have dH:i<=S.length:=dH;rcases Nat.lt_or_ge i S.length with bT|bT
    ·have k4:=h4 i bT;have kR:=hR i bT;unfold xL at k4;(conv=>whnf);repeat' ((first|(exfalso;omega)|((refine eO (id:=19) 6 [0,1,2,3] rfl rfl ?_;conv=>whnf))|refine st ?_|(refine⟨fun h=>?_,fun h=>?_⟩<;>try simp only[ae] at h)|(refine .inl ?_;(conv=>whnf);refine⟨_,k4,?_⟩)|refine wf ?_|refine ao ?_|refine nn ?_|fail)<;>conv=>whnf)
     refine ah (fun k:Nat=>k<=(R i).length) (fun k=>[(78,.int .i64 (k:Int)),(14,.own 3),(16,.aj),(19,.aj)]) (fun k=>[.box 39 [.aC,.aC,.aC],.dead,WK (EM (cN R i++(R i).take k)),.row 101 1 (i+1) fun j=>[xL (R j)]]) (fun k=>(R i).length-k) 0 (Nat.zero_le _) ?_ ?_
     ·have e0:cN R i++(R i).take 0=cN R i:=by simp
      rw[e0];(conv=>whnf)
      repeat (first|exact fa|((first|refine fb ?_|(refine And.intro ?_ ?_;rotate_left));conv=>whnf))
      all_goals first|exact .inl fun j hj=>JR (fun j=>[xL (R j)]) i _ rfl j hj
     ·intro k hk;have hk:k<=(R i).length:=hk;rcases Nat.lt_or_ge k (R i).length with gF|gF
      ·have hm:=On (G:=G) (EM (cN R i++(R i).take k)) ((R i).getD k default);have et:cN R i++(R i).take (k+1)=(cN R i++(R i).take k)++[(R i).getD k default]:=by rw[List.take_add_one,List.getElem?_eq_getElem gF,List.getD_eq_getElem?_getD,List.getElem?_eq_getElem gF,List.append_assoc];rfl
       rw[<-RH,<-et] at hm;(conv=>whnf);repeat' ((first|(exfalso;omega)|refine st ?_|(refine⟨fun h=>?_,fun h=>?_⟩<;>try simp only[ae] at h)|(refine .inr (.inl ?_);(conv=>whnf);refine⟨_,_,hm,?_⟩)|refine wf ?_|refine ao ?_|refine nn ?_|fail)<;>conv=>whnf)
       refine⟨k+1,gF,(by show(R i).length-(k+1)<(R i).length-k;omega),?_⟩;exact ff
      ·have e:k=(R i).length:=by omega
       subst e;have et:cN R i++(R i).take (R i).length=cN R (i+1):=by rw[List.take_length,oZ]
       rw[et];(conv=>whnf);repeat' ((first|(exfalso;omega)|refine st ?_|(refine⟨fun h=>?_,fun h=>?_⟩<;>try simp only[ae] at h)|refine wf ?_|refine ao ?_|refine nn ?_|fail)<;>conv=>whnf)
       refine⟨i+1,bT,(by show S.length-(i+1)<S.length-i;omega),?_⟩;exact ff
    ·have e:i=S.length:=by omega
     subst e;have Sc:=RG (G:=G) (eH (EM (cN R S.length))) (eV (EM (cN R S.length)));(conv=>whnf);repeat' ((first|(exfalso;omega)|refine st ?_|(refine⟨fun h=>?_,fun h=>?_⟩<;>try simp only[ae] at h)|(refine .inr (.inr (.inl ?_));(conv=>whnf);(first|refine⟨_,Sc,?_⟩|refine⟨_,h5,?_⟩))|refine wf ?_|refine ao ?_|refine nn ?_|fail)<;>conv=>whnf)
     generalize hE:(K.map fun k=>(EM (cN R S.length) (k.i,k.k)).getD default)=E;have hEl:E.length=K.length:=by rw[<-hE,List.length_map]
     refine uH 4 1 67 5 rfl rfl ?_;(conv=>whnf);refine ah (fun i:Nat=>i<=K.length) (fun i=>[(94,.int .i64 (i:Int)),(22,.aj),(23,.aj)]) (fun i=>[.box 39 [.aC,.aC,.aC],.dead,.dead,.row 101 1 S.length fun j=>[xL (R j)],.box 39 [.sl N.length 26 fun i=>fJ (N.getD i default),.own 6,.aC],.fK true D9 (FX (K.take i)) (Ot K),.row 67 5 i fun j=>fX (E.getD j default)]) (fun i=>K.length-i) 0 (Nat.zero_le _) ?_ ?_
     ·conv=>whnf
      repeat (first|exact fa|((first|refine fb ?_|(refine And.intro ?_ ?_;rotate_left));conv=>whnf))
      exact fun _ h=>Bool.noConfusion h
     ·intro i Uk;have Uk:i<=K.length:=Uk;rcases Nat.lt_or_ge i K.length with bT|bT
      ·have k1:=hK1 _ (List.getElem_mem bT);have hg:K.getD i default=K[i]:=by rw[List.getD_eq_getElem?_getD,List.getElem?_eq_getElem bT];rfl
       rw[<-hg] at k1
       have hEi:E.getD i default=(EM (cN R S.length) ((K.getD i default).i,(K.getD i default).k)).getD default:=by
        rw[<-hE,List.getD_eq_getElem?_getD,List.getElem?_map,List.getElem?_eq_getElem bT,hg];rfl
       (conv=>whnf);repeat' ((first|(exfalso;omega)|(exact Bool.noConfusion (k1.symm.trans h))|((refine eO (id:=32) 10 [0,1,2,3,4,5,9] rfl rfl ?_;conv=>whnf))|refine st ?_|(refine⟨fun h=>?_,fun h=>?_⟩<;>try simp only[ae] at h)|refine wf ?_|refine ao ?_|refine nn ?_|fail)<;>conv=>whnf)
       refine⟨i+1,bT,(by show K.length-(i+1)<K.length-i;omega),?_⟩;(conv=>whnf)
       repeat (first|exact fa|((first|refine fb ?_|(refine And.intro ?_ ?_;rotate_left));conv=>whnf))
       all_goals first
        | exact fun key=>VF K i bT key
        | exact fun key _=>VG hKn i bT key
        | exact .inl fun j hj=>JR (fun j=>fX (E.getD j default)) i _ (by show _=fX (E.getD i default);rw[hEi];rfl) j hj
       
      ·have e:i=K.length:=by omega
       subst e;rw[List.take_length];(conv=>whnf);repeat' ((first|(exfalso;omega)|refine st ?_|(refine⟨fun h=>?_,fun h=>?_⟩<;>try simp only[ae] at h)|refine wf ?_|refine ao ?_|refine nn ?_|fail)<;>conv=>whnf)
       refine gL 5 ?_;(conv=>whnf);refine uH 4 2 63 1 rfl rfl ?_;(conv=>whnf);refine ah (fun i:Nat=>i<=S.length) (fun i=>[(113,.int .i64 (i:Int))]) (fun i=>[.box 39 [.aC,.aC,.aC],.dead,.dead,.row 101 1 S.length fun j=>[xL (R j)],.box 39 [.sl N.length 26 fun i=>fJ (N.getD i default),.own 6,.own 7],.dead,.row 67 5 K.length fun j=>fX (E.getD j default),.row 63 1 i fun j=>[jt ((R j).map (ql K))]]) (fun i=>S.length-i) 0 (Nat.zero_le _) ?_ ?_
       ·exact ff
       ·intro i hi4;have hi4:i<=S.length:=hi4;rcases Nat.lt_or_ge i S.length with bT|bT
        ·have k6:=Ov (G:=G) (R i) K (Nat.le_trans (hR i bT) (by omega)) (hRK i bT);unfold jt at k6;(conv=>whnf);repeat' ((first|(exfalso;omega)|((refine eO (id:=37) 10 [0,1,2,3,4,5,6,9] rfl rfl ?_;conv=>whnf))|refine st ?_|(refine⟨fun h=>?_,fun h=>?_⟩<;>try simp only[ae] at h)|(refine .inl ?_;(conv=>whnf);refine⟨_,k6,?_⟩)|refine wf ?_|refine ao ?_|refine nn ?_|fail)<;>conv=>whnf)
         refine⟨i+1,bT,(by show S.length-(i+1)<S.length-i;omega),?_⟩;(conv=>whnf)
         repeat (first|exact fa|((first|refine fb ?_|(refine And.intro ?_ ?_;rotate_left));conv=>whnf))
         all_goals first
          | exact .inl fun j hj=>JR (fun j=>[jt ((R j).map (ql K))]) i _ rfl j hj
         
        ·have e:i=S.length:=by omega
         subst e;(conv=>whnf);repeat' ((first|(exfalso;omega)|refine st ?_|(refine⟨fun h=>?_,fun h=>?_⟩<;>try simp only[ae] at h)|refine wf ?_|refine ao ?_|refine nn ?_|fail)<;>conv=>whnf)
         repeat (first|exact fa|((first|refine fb ?_|(refine And.intro ?_ ?_;rotate_left));conv=>whnf))
         all_goals first|exact hEl.symm|exact .inl fun _ _=>rfl
theorem FY{l:List RS}(h:∀r∈l,Rk r)(i:Nat):Rk (l.getD i default):=by
 rw[List.getD_eq_getElem?_getD];by_cases hi:i<l.length
 ·rw[List.getElem?_eq_getElem hi];exact h _ (List.getElem_mem hi)
 ·rw[List.getElem?_eq_none (by omega)];exact⟨by decide,by decide,by decide⟩
def FZ{α:Type}(p:α->Bool)(l:List α):Int:=match l.findIdx? p with
 | some i=>(i:Int)
 | none=>-1
theorem rJ{α:Type}[Inhabited α](p:α->Bool)(l:List α)(i:Nat)(hi:i<l.length)(h:p (l.getD i default)=true)(h0:∀j,j<i->p (l.getD j default)=false):FZ p l=(i:Int):=by
 unfold FZ
 have:l.findIdx? p=some i:=by
  rw[List.findIdx?_eq_some_iff_getElem];refine⟨hi,?_,fun j hj=>?_⟩
  ·rw[List.getD_eq_getElem?_getD,List.getElem?_eq_getElem hi] at h;exact h
  ·have:=h0 j hj;rw[List.getD_eq_getElem?_getD,List.getElem?_eq_getElem (by omega)] at this;rw[show l[j]=(some l[j]).getD default from rfl,this];exact Bool.false_ne_true
 rw[this]
theorem vc{α:Type}[Inhabited α](p:α->Bool)(l:List α)(h0:∀j,j<l.length->p (l.getD j default)=false):FZ p l = -1:=by
 unfold FZ
 have:l.findIdx? p=none:=by
  rw[List.findIdx?_eq_none_iff];intro x hx;obtain⟨j,hj,rfl⟩:=List.getElem_of_mem hx;have:=h0 j hj;rw[List.getD_eq_getElem?_getD,List.getElem?_eq_getElem hj] at this;exact this
 rw[this]
abbrev Pd(N:List RS)(r:RS):Int:=FZ (fun x=>decide (x=r)) N
theorem ve(N:List RS)(r:RS)(hN:∀x∈N,Rk x)(hr:Rk r)(hl:N.length<=1000000):aa Tryz.prog G 22 [dM N,.agg (fJ r)] (.int .i64 (Pd N r)):=by
 refine aa.af ak Tryz.func22 rfl rfl _ rfl ?_;(conv=>whnf);repeat' ((first|refine st ?_|(refine⟨fun h=>?_,fun h=>?_⟩<;>try simp only[ae] at h)|refine wf ?_|refine ao ?_|refine nn ?_|fail)<;>conv=>whnf)
 refine ah (fun i:Nat=>i<=N.length/\∀j,j<i->decide (N.getD j default=r)=false) (fun i=>[(5,.int .i64 (i:Int))]) (fun _=>[.box 57 (fJ r)]) (fun i=>N.length-i) 0 ⟨Nat.zero_le _,fun j h=>by omega⟩ ?_ ?_
 ·exact ff
 ·rintro i ⟨hi,hI⟩;have hi:i<=N.length:=hi;have key:=Fx (FY hN i) hr;unfold fJ dX at *;(conv=>whnf);repeat' ((first|refine st ?_|(refine⟨fun h=>?_,fun h=>?_⟩<;>try simp only[ae] at h)|refine wf ?_|refine ao ?_|refine nn ?_|fail)<;>conv=>whnf)
  ·exact(rJ _ N i (by omega) (key.symm.trans h) hI).symm
  ·refine⟨i+1,⟨by omega,fun j hj=>by
    by_cases q:j=i
    ·rw[q];exact key.symm.trans h
    ·exact hI j (by omega)⟩,(by show N.length-(i+1)<N.length-i;omega),?_⟩
   exact ff
  ·exact(vc _ N fun j hj=>hI j (by omega)).symm
abbrev VH(E:List Ed):List ar:=[.ghost [.own 1,.aj,.aj,.aj],.row 67 5 E.length fun j=>fX (E.getD j default)]
abbrev Za(E:List Ed)(a b:Int):Int:=FZ (fun e=>e.a==a&&e.b==b||e.a==b&&e.b==a) E
theorem RI(E:List Ed)(a b:Int)(hl:E.length<=1000000):aM Tryz.prog G 63 [.own 1,.int .i64 a,.int .i64 b] (VH E) (.int .i64 (Za E a b)) (VH E):=by
 refine aM.af ak Tryz.func63 rfl rfl _ rfl ?_;(conv=>whnf);repeat' ((first|refine st ?_|(refine⟨fun h=>?_,fun h=>?_⟩<;>try simp only[ae] at h)|refine wf ?_|refine ao ?_|refine nn ?_|fail)<;>conv=>whnf)
 refine ah (fun i:Nat=>i<=E.length/\∀j,j<i->((E.getD j default).a==a&&(E.getD j default).b==b||(E.getD j default).a==b&&(E.getD j default).b==a)=false) (fun i=>[(7,.int .i64 (i:Int))]) (fun _=>VH E) (fun i=>E.length-i) 0 ⟨Nat.zero_le _,fun j h=>by omega⟩ ?_ ?_
 ·exact ff
 ·rintro i ⟨hi,hI⟩;have hi:i<=E.length:=hi;(conv=>whnf);repeat' ((first|refine st ?_|(refine⟨fun h=>?_,fun h=>?_⟩<;>try simp only[ae] at h)|refine wf ?_|refine ao ?_|refine nn ?_|fail)<;>conv=>whnf)
  all_goals first
   | exact .inl fun _ _=>rfl
   | exact(rJ _ E i (by omega) (by clear hI;simp_all) hI).symm
   | exact(vc _ E fun j hj=>hI j (by omega)).symm
   | exact⟨(rJ _ E i (by omega) (by clear hI;simp_all) hI).symm,rfl,.inl fun _ _=>rfl⟩
   | exact⟨(vc _ E fun j hj=>hI j (by omega)).symm,rfl,.inl fun _ _=>rfl⟩
   | (refine⟨i+1,⟨by omega,fun j hj=>by
        by_cases q:j=i
        ·subst q;clear hI;simp_all
        ·exact hI j (by omega)⟩,(by show E.length-(i+1)<E.length-i;omega),?_⟩
      conv=>whnf
      repeat (first|exact fa|((first|refine fb ?_|(refine And.intro ?_ ?_;rotate_left));conv=>whnf)))
/-- An edge put in its place. -/
theorem DJ(l:List Ed)(e:Ed)(k:Nat):(List.range (k+1)).foldl (fun n i=>if qf (l.getD i default).key e.key then i+1 else n) 0=if qf (l.getD k default).key e.key then k+1 else (List.range k).foldl (fun n i=>if qf (l.getD i default).key e.key then i+1 else n) 0:=by
 rw[List.range_succ,List.foldl_append];rfl
def nv(l:List Ed)(e:Ed)(k:Nat):Nat:=(List.range k).foldl (fun n i=>if qf (l.getD i default).key e.key then i+1 else n) 0
theorem mZ(l:List Ed)(e:Ed):∀k,nv l e k<=k
 | 0=>Nat.le_refl _
 | k+1=>by
  have:=mZ l e k;unfold nv at *;rw[DJ];split<;>omega
theorem Ow{n j:Nat}{f g:Nat->List A}(h:j<n):aO n f g j=f j:=by
 unfold aO;rw[show Nat.blt j n=true from Nat.ble_eq_true_of_le h]
theorem H6{n j:Nat}{f g:Nat->List A}(h:n<=j):aO n f g j=g (j-n):=by
 unfold aO;split
 ·rename_i h';have:=Nat.le_of_ble_eq_true h';omega
 ·rfl
theorem Ox(l:List Ed)(e:Ed)(a:Nat)(ha:a<=l.length)(f0 f1 r:Nat->List A)(hr:r 0=fX e)(j:Nat):
  aO (0+(a-0)+1) (aO (0+(a-0)) (aO 0 f0 fun i=>fX (l.getD (0+i) default)) r) (aO 0 f1 fun i=>fX (l.getD (a+i) default)) j=fX ((l.take a++e::l.drop a).getD j default):=by
 simp only[Nat.sub_zero,Nat.zero_add];have ht:(l.take a).length=a:=by rw[List.length_take];omega
 rcases Nat.lt_trichotomy j a with h|h|h
 ·rw[Ow (by omega),Ow h,H6 (Nat.zero_le _),Nat.sub_zero,List.getD_eq_getElem?_getD,List.getD_eq_getElem?_getD,List.getElem?_append_left (by omega),List.getElem?_take,if_pos h]
 ·subst h;rw[Ow (by omega),H6 (Nat.le_refl _),Nat.sub_self,hr,List.getD_eq_getElem?_getD,List.getElem?_append_right (by omega),ht,Nat.sub_self];rfl
 ·obtain⟨k,rfl⟩:∃k,j=a+1+k:=⟨j-(a+1),by omega⟩;rw[H6 (by omega),H6 (Nat.zero_le _),List.getD_eq_getElem?_getD,List.getD_eq_getElem?_getD,List.getElem?_append_right (by omega),ht,show a+1+k-a=k+1 by omega,List.getElem?_cons_succ,List.getElem?_drop]
  congr 3;omega
theorem VI(l:List Ed)(e:Ed)(hl:l.length<=100000):aM Tryz.prog G 64 [qg l,.agg (fX e)] [] (.own 0) [.row 67 5 (ur l e).length fun j=>fX ((ur l e).getD j default)]:=by
 refine aM.af ak Tryz.func64 rfl rfl _ rfl ?_;(conv=>whnf);repeat' ((first|refine st ?_|(refine⟨fun h=>?_,fun h=>?_⟩<;>try simp only[ae] at h)|refine wf ?_|refine ao ?_|refine nn ?_|fail)<;>conv=>whnf)
 refine ah (fun i:Nat=>i<=l.length) (fun i=>[(6,.int .i64 (i:Int)),(5,.int .i64 (nv l e i:Int))]) (fun _=>[.box 67 (fX e)]) (fun i=>l.length-i) 0 (Nat.zero_le _) ?_ ?_
 ·exact ff
 ·intro i hi;have hi:i<=l.length:=hi;have ha:=mZ l e i;have rY:nv l e (i+1)=if (l.getD i default).a<e.a\/((l.getD i default).a=e.a/\(l.getD i default).b<e.b) then i+1 else nv l e i:=DJ l e i
  (conv=>whnf);repeat' ((first|(exfalso;omega)|refine st ?_|(refine⟨fun h=>?_,fun h=>?_⟩<;>try simp only[ae] at h)|refine wf ?_|refine ao ?_|refine nn ?_|fail)<;>conv=>whnf)
  all_goals try
   (refine⟨i+1,(by show i+1<=l.length;omega),(by show l.length-(i+1)<l.length-i;omega),?_⟩
    simp only[Int.toNat_natCast] at *;(conv=>whnf)
    repeat (first|exact fa|((first|refine fb ?_|(refine And.intro ?_ ?_;rotate_left));conv=>whnf)))
  all_goals try (rw[rY];split<;>omega)
  have e:i=l.length:=by omega
  subst e;refine⟨?_,.inl fun j _=>Ox l e (nv l e l.length) ha _ _ _ rfl j⟩;show _=(l.take (nv l e l.length)++e::l.drop (nv l e l.length)).length;rw[List.length_append,List.length_cons,List.length_take,List.length_drop];omega
theorem RJ(S:List Sp)(hn:S.length<=50)(F:Nat->List Cu)(hF:∀i,i<S.length->aa Tryz.prog G 104 [.agg (gZ (S.getD i default).s),p9 (S.map (·.s)),.int .i64 (i:Int)] (kv (F i))):
  aa Tryz.prog G 60 [AW S] (ly S.length F):=by
 refine aa.af ak Tryz.func60 rfl rfl _ rfl ?_;(conv=>whnf);repeat' ((first|refine st ?_|(refine⟨fun h=>?_,fun h=>?_⟩<;>try simp only[ae] at h)|refine wf ?_|refine ao ?_|refine nn ?_|fail)<;>conv=>whnf)
 refine ah (fun i:Nat=>i<=S.length) (fun i=>[(4,.int .i64 (i:Int)),(3,.own 0),(7,.aj)]) (fun i=>[.row 60 4 (iK S i).length (Uz (iK S i))]) (fun i=>S.length-i) 0 (Nat.zero_le _) ?_ ?_
 ·exact ff
 ·intro i hi;have hi:i<=S.length:=hi;rcases Nat.lt_or_ge i S.length with bT|bT
  ·have hg:S.getD i default=S[i]:=by rw[List.getD_eq_getElem?_getD,List.getElem?_eq_getElem bT];rfl
   have et:iK S (i+1)=iK S i++[(S.getD i default).s]:=by unfold iK;rw[List.take_add_one,List.getElem?_eq_getElem bT,hg,List.map_append];rfl
   have hlen:(iK S i).length<=50:=by unfold iK;rw[List.length_map,List.length_take];omega
   (conv=>whnf);repeat' ((first|(exfalso;omega)|refine st ?_|(refine⟨fun h=>?_,fun h=>?_⟩<;>try simp only[ae] at h)|refine wf ?_|refine ao ?_|refine nn ?_|fail)<;>conv=>whnf)
   refine⟨i+1,bT,(by show S.length-(i+1)<S.length-i;omega),?_⟩;(conv=>whnf)
   repeat (first|exact fa|((first|refine fb ?_|(refine And.intro ?_ ?_;rotate_left));conv=>whnf))
   ·exact Or.inl fun j hj=>by rw[et];exact jq (fun s:Sg=>[A.int .i64 s.a.x,.int .i64 s.a.y,.int .i64 s.b.x,.int .i64 s.b.y]) _ ((S.getD i default).s) _ rfl _ rfl j hj
   ·rw[et,List.length_append];rfl
  ·have e:i=S.length:=by omega
   subst e;have es:iK S S.length=S.map (·.s):=by unfold iK;rw[List.take_length]
   rw[es];(conv=>whnf);repeat' ((first|(exfalso;omega)|refine st ?_|(refine⟨fun h=>?_,fun h=>?_⟩<;>try simp only[ae] at h)|refine wf ?_|refine ao ?_|refine nn ?_|fail)<;>conv=>whnf)
   refine gL 0 ?_;(conv=>whnf);refine ah (fun i:Nat=>i<=S.length) (fun i=>[(6,.int .i64 (i:Int)),(5,.own 1),(22,.aj)]) (fun i=>[.dead,.row 103 1 i fun j=>[kv (F j)]]) (fun i=>S.length-i) 0 (Nat.zero_le _) ?_ ?_
   ·exact ff
   ·intro i dH;have dH:i<=S.length:=dH;rcases Nat.lt_or_ge i S.length with bT|bT
    ·have k1:=hF i bT;unfold kv p9 at k1;(conv=>whnf);repeat' ((first|(exfalso;omega)|refine st ?_|(refine⟨fun h=>?_,fun h=>?_⟩<;>try simp only[ae] at h)|(refine .inl ?_;(conv=>whnf);refine⟨_,k1,?_⟩)|refine wf ?_|refine ao ?_|refine nn ?_|fail)<;>conv=>whnf)
     refine⟨i+1,bT,(by show S.length-(i+1)<S.length-i;omega),?_⟩;(conv=>whnf)
     repeat (first|exact fa|((first|refine fb ?_|(refine And.intro ?_ ?_;rotate_left));conv=>whnf))
     exact .inl fun j hj=>JR (fun j=>[kv (F j)]) i _ rfl j hj
    ·have e:i=S.length:=by omega
     subst e;(conv=>whnf);repeat' ((first|(exfalso;omega)|refine st ?_|(refine⟨fun h=>?_,fun h=>?_⟩<;>try simp only[ae] at h)|refine wf ?_|refine ao ?_|refine nn ?_|fail)<;>conv=>whnf)
     exact .inl fun _ _=>rfl
end Go.Proofs.YtijddijloelacaaGreat
namespace Go.Proofs.YtijddijloelacaaGreat
open Go.Proofs.YtijddijloelacaaGreat.Am Go.Sort Go.Proofs Go.Lib Go.NetL
theorem RM(l:List Rn)(r:Rn):ER (l++[r])=xo (ER l) r:=by simp[ER,List.foldl_append]
theorem Zb(r:Rn):r.lo<=r.hi:=by unfold Rn.lo Rn.hi;split<;>split<;>omega
theorem DL(l:List Ed)(e x:Ed)(h:x∈ur l e):x=e\/x∈l:=by
 unfold ur at h;rcases List.mem_append.1 h with h|h
 ·exact .inr (List.mem_of_mem_take h)
 ·rcases List.mem_cons.1 h with h|h
  ·exact .inl h
  ·exact .inr (List.mem_of_mem_drop h)
theorem Oy(l:List Ed)(e:Ed):(ur l e).length=l.length+1:=by
 letI:Inhabited cF:=⟨⟨False⟩⟩
 have ha:VA l e<=l.length:=mZ l e l.length;unfold ur;rw[List.length_append,List.length_cons,List.length_take,List.length_drop];omega
theorem VJ(l:List Ed)(r:Rn)(h:∀e∈l,e.a<=e.b):(∀e∈xo l r,e.a<=e.b)/\(xo l r).length<=l.length+1:=by
 unfold xo;split
 ·refine⟨fun e he=>?_,Nat.le_of_eq (Oy _ _)⟩;rcases DL _ _ _ he with rfl|he
  ·exact Zb r
  ·exact h e he
 ·rename_i i hi;obtain⟨h1,h2⟩:=rH hi;refine⟨fun e he=>?_,by rw[List.length_set];omega⟩;rcases List.mem_or_eq_of_mem_set he with he|rfl
  ·exact h e he
  ·rw[rI h1];exact h l[i] (List.getElem_mem h1)
theorem H7(l:List Rn):(∀e∈ER l,e.a<=e.b)/\(ER l).length<=l.length:=by
 have key:∀(rs:List Rn) (L:List Ed),(∀e∈L,e.a<=e.b)->(∀e∈rs.foldl xo L,e.a<=e.b)/\(rs.foldl xo L).length<=L.length+rs.length:=fun rs=>by
  induction rs with
  | nil=>intro L h;exact⟨h,Nat.le_refl _⟩
  | cons r rs ih =>
   intro L h;obtain⟨a,b⟩:=VJ L r h;obtain⟨c,d⟩:=ih (xo L r) a;exact⟨c,by rw[List.length_cons];simp only[List.foldl_cons];omega⟩
 have:=key l [] (fun e h=>by cases h);exact⟨this.1,by have h:=this.2;rw[List.length_nil,Nat.zero_add] at h;exact h⟩
theorem find_congr{α:Type}{p q:α->Bool}:∀ {l:List α},(∀x∈l,p x=q x)->l.findIdx? p=l.findIdx? q
 | [],_=>rfl
 | a::l,h=>by
  rw[List.findIdx?_cons,List.findIdx?_cons,h a (by simp),find_congr fun x hx=>h x (by simp[hx])]
/-- The place of a run's edge, in the document's way. -/
theorem Oz(E:List Ed)(r:Rn)(h:∀e∈E,e.a<=e.b):Za E r.a r.b=match H3 E (r.lo,r.hi) with|some i=>(i:Int)|none=>-1:=by
 have:E.findIdx? (fun e=>e.a==r.a&&e.b==r.b||e.a==r.b&&e.b==r.a)=H3 E (r.lo,r.hi):=by
  unfold H3;refine find_congr fun e he=>?_;have:=h e he;rw[Bool.eq_iff_iff];simp only[Bool.or_eq_true,Bool.and_eq_true,beq_iff_eq,decide_eq_true_iff,Ed.key,Prod.mk.injEq,Rn.lo,Rn.hi];constructor
  ·intro q;split<;>split<;>omega
  ·split<;>split<;>omega
 unfold Za FZ;rw[this];try (cases H3 E (r.lo,r.hi)<;>rfl)
/-- What a run alone makes. -/
theorem DN(r:Rn)(h:r.a≠r.b):lz none r=if r.b<r.a then ⟨r.b,r.a,r.w,!r.ow,true⟩ else ⟨r.a,r.b,r.w,true,!r.ow⟩:=by
 unfold lz Rn.lo Rn.hi Rn.fw;by_cases c:r.b<r.a
 ·have c':¬r.a<r.b:=by omega
  simp[c,c']
 ·have c':r.a<r.b:=by omega
  simp[c,c']
theorem DO(e:Ed)(r:Rn):lz (some e) r=⟨e.a,e.b,if r.w<e.w then r.w else e.w,e.f||(lz none r).f,e.k||(lz none r).k⟩:=by
 simp[lz,Bool.or_assoc]
end Go.Proofs.YtijddijloelacaaGreat
namespace Go.Proofs.YtijddijloelacaaGreat
open Go.Proofs.YtijddijloelacaaGreat.Am Go.Sort Go.Proofs Go.Lib Go.NetL
variable [Inhabited cF]
variable {G:aK}
/-- The slots from n on, k of them, said nothing of. -/
def jkr:Nat->Nat->List A->List A
 | _,_,[]=>[]
 | 0,0,s=>s
 | 0,k+1,_::s=>.aj::jkr 0 k s
 | n+1,k,x::s=>x::jkr n k s
theorem atR{P:Program}{Q:Exit->List A->List ar->Prop}{s:List A}{m:List ar}(id:Nat){l:Array Oper}{d:Bool}(h:WA P G (.region id l d) Q s m):WA P G (.region id l d) Q s m:=h
theorem RN{P:Program}{Q:Exit->List A->List ar->Prop}{s:List A}{m:List ar}{code:Code}(h:∀Q',Q'=Q->WA P G code Q' s m):WA P G code Q s m:=h Q rfl
@[irreducible] def OA (p:Prop):Prop:=p
theorem A4{p:Prop}(h:p):OA p:=by unfold OA;exact h
theorem OB{p:Prop}(h:OA p):p:=by unfold OA at h;exact h
theorem A5{P:Program}{Q:Exit->List A->List ar->Prop}{s:List A}{m:List ar}{id:Nat}{l:Array Oper}{d:Bool}(n k:Nat)(ov:List (Nat×A))(M:List ar)
  (h0:OA (fl (Ww ov (jkr n k s)) fun s'=>uh s m s' M)) (h:fl (Ww ov (jkr n k s)) fun s'=>WA P G (.region id l d) Q s' M):WA P G (.region id l d) Q s m:=by
 have h0:=OB h0;rw[cI] at h0 h;exact sF (kg h0) h
structure JT (T:Prop):Type where
 out:T
theorem H8{T p:Prop}(main:JT T->p)(prf:T):p:=main ⟨prf⟩
theorem VK(E:List Ed)(j:Nat)(hj:j<E.length)(e':Ed)(t:Nat):bZ (fun t=>fX (E.getD t default)) j (fX e') t=fX ((E.set j e').getD t default):=by
 unfold bZ;split
 ·rename_i q;subst q;rw[List.getD_eq_getElem?_getD,List.getElem?_set_self hj];rfl
 ·rename_i q
  have:(E.set j e').getD t default=E.getD t default:=by
   rw[List.getD_eq_getElem?_getD,List.getD_eq_getElem?_getD,List.getElem?_set_ne (fun e=>q e.symm)]
  rw[this]
theorem oC(E:List Ed)(j:Nat)(hj:j<E.length)(e':Ed):(E.set j e').getD j default=e':=by
 rw[List.getD_eq_getElem?_getD,List.getElem?_set_self hj];rfl
theorem VL(E:List Ed)(j:Nat)(hj:j<E.length)(t:Nat):(E.set j (E.getD j default)).getD t default=E.getD t default:=by
 rw[List.getD_eq_getElem?_getD,List.getD_eq_getElem?_getD];by_cases q:t=j
 ·subst q;rw[List.getElem?_set_self hj,List.getD_eq_getElem?_getD,List.getElem?_eq_getElem hj];rfl
 ·rw[List.getElem?_set_ne (fun e=>q e.symm)];rfl
def Td(e z:Ed):Ed:=⟨e.a,e.b,if z.w<e.w then z.w else e.w,e.f,e.k⟩
def VM(e z:Ed):Ed:=⟨e.a,e.b,e.w,e.f||z.f,e.k⟩
def WL(e z:Ed):Ed:=⟨e.a,e.b,e.w,e.f,e.k||z.k⟩
theorem RO(e:Ed)(r:Rn):lz (some e) r=WL (VM (Td e (lz none r)) (lz none r)) (lz none r):=by rw[DO];rfl
theorem OC(E:List Ed)(j:Nat)(hj:j<E.length)(e':Ed)(cs:List A)(hc:cs=fX e')(t:Nat):bZ (fun t=>fX (E.getD t default)) j cs t=fX ((E.set j e').getD t default):=by
 subst hc;exact VK E j hj e' t
theorem VN(E:List Ed)(j:Nat)(hj:j<E.length)(z:Ed)(h:z.w<(E.getD j default).w)(t:Nat):bZ (fun t=>fX (E.getD t default)) j [.int .i64 (E.getD j default).a,.int .i64 (E.getD j default).b,.int .i64 z.w,.sb (E.getD j default).f,.sb (E.getD j default).k] t=fX ((E.set j (Td (E.getD j default) z)).getD t default) :=
 OC E j hj _ _ (by unfold Td fX;rw[if_pos h]) t
theorem VO(E:List Ed)(j:Nat)(hj:j<E.length)(z:Ed)(h:¬z.w<(E.getD j default).w)(t:Nat):fX (E.getD t default)=fX ((E.set j (Td (E.getD j default) z)).getD t default):=by
 have:Td (E.getD j default) z=E.getD j default:=by unfold Td;rw[if_neg h]
 rw[this,VL E j hj]
theorem H9(E:List Ed)(j:Nat)(hj:j<E.length)(e1 e2:Ed)(cs:List A)(hc:cs=fX e2)(t:Nat):bZ (fun t=>fX ((E.set j e1).getD t default)) j cs t=fX ((E.set j e2).getD t default):=by
 have:=OC (E.set j e1) j (by rw[List.length_set];exact hj) e2 cs hc t
 rwa [List.set_set] at this
theorem Zc(E:List Ed)(j:Nat)(hj:j<E.length)(e1 z:Ed)(b:Bool)(h:b=(e1.f||z.f))(t:Nat):bZ (fun t=>fX ((E.set j e1).getD t default)) j [.int .i64 ((E.set j e1).getD j default).a,.int .i64 ((E.set j e1).getD j default).b,.int .i64 ((E.set j e1).getD j default).w,.sb b,.sb ((E.set j e1).getD j default).k] t=fX ((E.set j (VM e1 z)).getD t default) :=
 H9 E j hj _ _ _ (by rw[oC E j hj,h];rfl) t
theorem Zd(E:List Ed)(j:Nat)(hj:j<E.length)(e1 z:Ed)(b:Bool)(h:b=(e1.k||z.k))(t:Nat):bZ (fun t=>fX ((E.set j e1).getD t default)) j [.int .i64 ((E.set j e1).getD j default).a,.int .i64 ((E.set j e1).getD j default).b,.int .i64 ((E.set j e1).getD j default).w,.sb ((E.set j e1).getD j default).f,.sb b] t=fX ((E.set j (WL e1 z)).getD t default) :=
 H9 E j hj _ _ _ (by rw[oC E j hj,h];rfl) t
theorem Te(E:List Ed)(j:Nat)(hj:j<E.length)(e1:Ed)(b:Bool)(h:((E.set j e1).getD j default).f=b):e1.f=b:=by rwa [oC E j hj] at h
theorem Tf(E:List Ed)(j:Nat)(hj:j<E.length)(e1:Ed)(b:Bool)(h:((E.set j e1).getD j default).k=b):e1.k=b:=by rwa [oC E j hj] at h
theorem Ze(x:Ed):eI (iI.jA 4 0 (fX x) (fX x)):=by
 unfold fX;exact ff
theorem Zf(x:Ed)(h:x.f=true):eI (iI.jA 4 0 [.int .i64 x.a,.int .i64 x.b,.int .i64 x.w,.bool true,.sb x.k] (fX x)):=by
 unfold fX;rw[h];exact ff
theorem Zg(x:Ed)(h:x.k=true):eI (iI.jA 4 0 [.int .i64 x.a,.int .i64 x.b,.int .i64 x.w,.sb x.f,.bool true] (fX x)):=by
 unfold fX;rw[h];exact ff
theorem xf(E:List Ed)(j t:Nat)(e1 e2:Ed)(h:¬t=j):(E.set j e1).getD t default=(E.set j e2).getD t default:=by
 rw[List.getD_eq_getElem?_getD,List.getD_eq_getElem?_getD,List.getElem?_set_ne (fun e=>h e.symm),List.getElem?_set_ne (fun e=>h e.symm)]
theorem VP(E:List Ed)(j:Nat)(hj:j<E.length)(e1 z:Ed)(h:e1.f=true)(t:Nat):eI (iI.jA 4 0 (bZ (fun t=>fX ((E.set j e1).getD t default)) j [.int .i64 ((E.set j e1).getD j default).a,.int .i64 ((E.set j e1).getD j default).b,.int .i64 ((E.set j e1).getD j default).w,.bool true,.sb ((E.set j e1).getD j default).k] t) (fX ((E.set j (VM e1 z)).getD t default))):=by
 unfold bZ;by_cases q:t=j
 ·rw[if_pos q,q,oC E j hj,oC E j hj];exact Zf (VM e1 z) (by show(e1.f||z.f)=true;rw[h];rfl)
 ·rw[if_neg q];show eI (iI.jA 4 0 (fX ((E.set j e1).getD t default)) _);rw[xf E j t e1 (VM e1 z) q];exact Ze _
theorem VS(E:List Ed)(j:Nat)(hj:j<E.length)(e1 z:Ed)(h:e1.k=true)(t:Nat):eI (iI.jA 4 0 (bZ (fun t=>fX ((E.set j e1).getD t default)) j [.int .i64 ((E.set j e1).getD j default).a,.int .i64 ((E.set j e1).getD j default).b,.int .i64 ((E.set j e1).getD j default).w,.sb ((E.set j e1).getD j default).f,.bool true] t) (fX ((E.set j (WL e1 z)).getD t default))):=by
 unfold bZ;by_cases q:t=j
 ·rw[if_pos q,q,oC E j hj,oC E j hj];exact Zg (WL e1 z) (by show(e1.k||z.k)=true;rw[h];rfl)
 ·rw[if_neg q];show eI (iI.jA 4 0 (fX ((E.set j e1).getD t default)) _);rw[xf E j t e1 (WL e1 z) q];exact Ze _
theorem Zh{E:List Ed}(h:nr E):((E.map fun e=>(⟨e.a,e.b⟩:Pr)).map kP).Nodup:=by
 unfold nr at h;rw[List.pairwise_map] at h;rw[List.map_map,List.nodup_iff_pairwise_ne,List.pairwise_map];refine h.imp fun {a b} q e=>?_;have e:kP ⟨a.a,a.b⟩=kP ⟨b.a,b.b⟩:=e;unfold kP at e;simp only[List.cons.injEq,KC.int.injEq,and_true] at e;unfold qf Ed.key at q;simp only at q;omega
theorem VT(rs:List Rn)(r:Rn)(hr:r∈rs):Za (ER rs) r.a r.b=(((ql ((ER rs).map fun e=>(⟨e.a,e.b⟩:Pr)) r).e:Nat):Int):=by
 have key:∀(rs:List Rn) (M:JN),(∀k,(M k).isSome=true->((rs.foldl stM M) k).isSome=true)/\∀r∈rs,((rs.foldl stM M) (r.lo,r.hi)).isSome=true:=fun rs=>by
  induction rs with
  | nil=>exact fun M=>⟨fun k h=>h,fun r hr=>by cases hr⟩
  | cons x rs ih =>
   intro M;obtain⟨a,b⟩:=ih (stM M x)
   have hx:∀k,(M k).isSome=true->(stM M x k).isSome=true:=fun k h=>by
    unfold NetL.stM;split
    ·rfl
    ·exact h
   refine⟨fun k h=>a k (hx k h),fun r hr=>?_⟩;rcases List.mem_cons.1 hr with rfl|hr
   ·exact a _ (by unfold NetL.stM;rw[if_pos rfl];rfl)
   ·exact b r hr
 have hs:(EM rs (r.lo,r.hi)).isSome=true:=(key rs _).2 r hr;obtain⟨h1,h2⟩:=H5 rs;rw[<-h2] at hs;rw[Oz _ r (H7 rs).1];cases hp:H3 (ER rs) (r.lo,r.hi) with
 | none =>
  obtain⟨e,he⟩:=Option.isSome_iff_exists.1 hs;obtain⟨m,q⟩:=(eL h1).1 he;exact absurd q (H4 hp e m)
 | some j =>
  obtain⟨hj,hk⟩:=rH hp;show(j:Int)=((((ER rs).map fun e=>(⟨e.a,e.b⟩:Pr)).map kP).idxOf [.int r.lo,.int r.hi]:Nat);have:=A3 (Zh h1) (k:=j) (by rw[List.length_map,List.length_map];exact hj);rw[List.getElem_map,List.getElem_map] at this;unfold Ed.key at hk;rw[Prod.mk.injEq] at hk;have e:kP ⟨(ER rs)[j].a,(ER rs)[j].b⟩=[.int r.lo,.int r.hi]:=by unfold kP;rw[hk.1,hk.2]
  rw[e] at this;rw[this]
theorem OD(E:List Ed)(a b:Int)(hl:E.length<=1000000):aa Tryz.prog G 63 [qg E,.int .i64 a,.int .i64 b] (.int .i64 (Za E a b)):=by
 refine aa.af ak Tryz.func63 rfl rfl _ rfl ?_;(conv=>whnf);repeat' ((first|refine st ?_|(refine⟨fun h=>?_,fun h=>?_⟩<;>try simp only[ae] at h)|refine wf ?_|refine ao ?_|refine nn ?_|fail)<;>conv=>whnf)
 refine ah (fun i:Nat=>i<=E.length/\∀j,j<i->((E.getD j default).a==a&&(E.getD j default).b==b||(E.getD j default).a==b&&(E.getD j default).b==a)=false) (fun i=>[(7,.int .i64 (i:Int))]) (fun _=>[]) (fun i=>E.length-i) 0 ⟨Nat.zero_le _,fun j h=>by omega⟩ ?_ ?_
 ·exact ff
 ·rintro i ⟨hi,hI⟩;have hi:i<=E.length:=hi;(conv=>whnf);repeat' ((first|refine st ?_|(refine⟨fun h=>?_,fun h=>?_⟩<;>try simp only[ae] at h)|refine wf ?_|refine ao ?_|refine nn ?_|fail)<;>conv=>whnf)
  all_goals first
   | exact(rJ _ E i (by omega) (by clear hI;simp_all) hI).symm
   | exact(vc _ E fun j hj=>hI j (by omega)).symm
   | (refine⟨i+1,⟨by omega,fun j hj=>by
        by_cases q:j=i
        ·subst q;clear hI;simp_all
        ·exact hI j (by omega)⟩,(by show E.length-(i+1)<E.length-i;omega),?_⟩
      conv=>whnf
      repeat (first|exact fa|((first|refine fb ?_|(refine And.intro ?_ ?_;rotate_left));conv=>whnf)))
/-- A walk whose rest is named by what is left. -/
structure JP (R:Prop) where
 T:Prop
 main:JT T->R
def mkJ{R T:Prop}(main:JT T->R):JP R:=⟨T,main⟩
theorem Zi{P:Program}{c:Code}{Q:Exit->List A->List ar->Prop}{s:List A}{m:List ar}(h:WA P G c Q s m):WA P G c Q s m:=h
/-- The same with a rest for each round, and one behind the loop. -/
structure JQ (D:Nat->Nat->Prop) (R:Prop) where
 T:Nat->Nat->Prop
 U:Prop
 main:(∀i k,D i k->JT (T i k))->JT U->R
end Go.Proofs.YtijddijloelacaaGreat

/-
  The walks and plain laws, part 7.
-/
import Derived.Test.YtijddijloelacaaGreatNetOf5
import Derived.Test.YtijddijloelacaaGreatNetOf6
import Derived.Test.YtijddijloelacaaGreatNetOf4
import Derived.Test.YtijddijloelacaaGreatAm4
set_option linter.unusedSimpArgs false
set_option linter.unusedSectionVars false
set_option linter.unusedVariables false
set_option maxRecDepth 100000
set_option maxHeartbeats 4000000
namespace Go.Proofs.YtijddijloelacaaGreat
open Go.Proofs.YtijddijloelacaaGreat.Am Go.Sort Go.Proofs Go.Lib Go.NetL
variable [Inhabited cF]
theorem ga{α:Type}[Inhabited α]{L:List α}{i:Nat}(h:i<L.length):L.getD i default=L[i]:=by rw[List.getD_eq_getElem?_getD,List.getElem?_eq_getElem h];rfl
def FS(l:List Sg)(i:Nat):List Cu:=eJ (l.getD i default) l i l.length
theorem Zk(l:List Sg):∀i,i<l.length->FS l i=WE l i:=fun i hi=>(of_eq l i hi).symm
theorem o0(l:List Sg)(i:Nat):(FS l i).Pairwise gN/\∀c∈FS l i,Dv (l.getD i default) c:=⟨(fV _ l i l.length).1,(fV _ l i l.length).2.1⟩
theorem DP(l:List Sg)(i:Nat):(FS l i).getD 0 default=ox (l.getD i default) 0 1:=by
 obtain⟨h1,_,h3⟩:=fV (l.getD i default) l i l.length;exact JG h1 ((h3 _).2 (.inl (by simp[fY])))
theorem OE(l:List Sg)(i:Nat):(FS l i).getD ((FS l i).length-1) default=ox (l.getD i default) 1 1:=by
 obtain⟨h1,_,h3⟩:=fV (l.getD i default) l i l.length;exact NR h1 ((h3 _).2 (.inl (by simp[fY])))
theorem OG(l:List Sg)(i:Nat):2<=(FS l i).length:=by
 have h1:=DP l i;have h2:=OE l i;refine Classical.byContradiction fun hn=>?_;rw[show(FS l i).length-1=0 by omega,h1] at h2;have:=HT (l.getD i default);rw[h2] at this;exact AR _ this
theorem xg(l:List Sg)(i:Nat):(FS l i).length<=2+2*l.length:=xa _ l i l.length
theorem nb{l:List Sg}(h:Be l){i:Nat}(hi:i<l.length){c:Cu}(hc:c∈FS l i):dU (jr c)/\fJ (jr c)=FE c.1:=FT (h i hi) ((o0 l i).2 c hc)
theorem Zl{l:List Sg}(h:Be l){i:Nat}(hi:i<l.length){k:Nat}(hk:k+1<(FS l i).length):jr ((FS l i).getD k default)≠jr ((FS l i).getD (k+1) default):=by
 intro e;obtain⟨h1,h2⟩:=o0 l i;have m1:=List.getElem_mem (show k<(FS l i).length by omega);have m2:=List.getElem_mem hk;rw[gB (by omega),gB hk] at e;have:=Rx (h i hi) (h2 _ m1) (h2 _ m2) e;have aH:=List.pairwise_iff_getElem.1 h1 k (k+1) (by omega) hk (by omega);rw[this] at aH;exact AR _ aH
theorem Zm:cG 0 1=0:=of_decide_eq_true (by kernel_rfl)
theorem Zn:cG 1 1=bJ 1 1:=of_decide_eq_true (by kernel_rfl)
theorem F0(l:List Sg)(hl:l.length<=900)(i:Nat):WG ((FS l i).map ph):=by
 have h2:=OG l i;have h3:=xg l i;have hlen:((FS l i).map ph).length=(FS l i).length:=List.length_map ..
 have hg:∀k,k<(FS l i).length->((FS l i).map ph).getD k default=ph ((FS l i).getD k default):=fun k hk=>by
  rw[List.getD_eq_getElem?_getD,List.getD_eq_getElem?_getD,List.getElem?_map,List.getElem?_eq_getElem hk];rfl
 have hs:((FS l i).map ph).Pairwise Vx:=JM (o0 l i).1;refine⟨by omega,by omega,fun k hk=>?_,fun k h0 hk=>?_,?_,?_⟩
 ·rw[hlen] at hk;obtain⟨n,d,hd,e⟩:=(o0 l i).2 _ (List.getElem_mem hk);rw[<-gB hk] at e;obtain⟨a,b,c,d'⟩:=lx n d hd;rw[hg k hk,e,Oi hd];exact⟨⟨c,a,b⟩,d'⟩
 ·have h:=List.pairwise_iff_getElem.1 hs (k-1) k (by omega) hk (by omega);unfold Vx at h;rw[<-ga,<-ga] at h;exact Nat.lt_asymm h
 ·rw[hg 0 (by omega),DP,Oi (by decide)];exact Zm
 ·rw[hlen,hg _ (by omega),OE,Oi (by decide)];exact Zn
/-- The nodes. -/
def dq(L:List Sg):List RS:=if h:∀r∈kH (FS L) L.length,dU r then kF (cw (fU (kH (FS L) L.length) h)) else []
theorem OH{F:Nat->List Cu}{n:Nat}{r:RS}:r∈kH F n↔∃i,i<n/\∃c,c∈F i/\jr c=r:=by
 unfold kH;simp only[List.mem_flatMap,List.mem_range,List.mem_map]
theorem qh{l:List Sg}(h:Be l):∀r∈kH (FS l) l.length,dU r:=fun r hr=>by
 obtain⟨i,hi,c,hc,rfl⟩:=OH.1 hr;exact(nb h hi hc).1
theorem mh{l:List Sg}(h:Be l):dq l=kF (cw (fU (kH (FS l) l.length) (qh h))):=dif_pos (qh h)
theorem yO{l:List Sg}(h:Be l){r:RS}:r∈dq l↔r∈kH (FS l) l.length:=by
 rw[mh h];unfold kF;rw[List.mem_map];have hp:=fun x=>(gw (fU (kH (FS l) l.length) (qh h)) [] List.Pairwise.nil).2 x;constructor
 ·rintro⟨x,hx,rfl⟩;rcases (hp x).1 hx with h0|h0
  ·cases h0
  ·unfold fU at h0;obtain⟨a,ha,e⟩:=List.mem_pmap.1 h0;rw[<-e];exact ha
 ·intro hr;exact⟨⟨r,qh h r hr⟩,(hp _).2 (.inr (List.mem_pmap.2 ⟨r,hr,rfl⟩)),rfl⟩
theorem yP{l:List Sg}(h:Be l):(dq l).Pairwise fun a b=>ee a b<0:=by
 rw[mh h];unfold kF;rw[List.pairwise_map];exact(gw _ [] List.Pairwise.nil).1
theorem o7{l:List Sg}(h:Be l):∀r∈dq l,dU r:=fun r hr=>qh h r ((yO h).1 hr)
theorem o8{l:List Sg}(h:Be l):((dq l).map A0).Nodup:=by rw[mh h];exact DI _ _
theorem xh{l:List Sg}(h:Be l):(dq l).length<=(2+2*l.length)*l.length:=by
 rw[mh h];exact yN _ _ (qe _ _ _ fun j _=>xg l j)
theorem oD{l:List Sg}(h:Be l){i:Nat}(hi:i<l.length){c:Cu}(hc:c∈FS l i):jr c∈dq l:=(yO h).2 (OH.2 ⟨i,hi,c,hc,rfl⟩)
/-- A cut's place among the nodes, in either way. -/
theorem H'{N:List RS}(hn:(N.map A0).Nodup){c:Cu}(hc:fJ (jr c)=FE c.1)(hm:jr c∈N):∃j,j<N.length/\N.getD j default=jr c/\ixN N c=(j:Int)/\Pd N (jr c)=(j:Int):=by
 obtain⟨j,hj,e⟩:=List.getElem_of_mem hm;refine⟨j,hj,by rw[ga hj,e],?_,?_⟩
 ·unfold ixN;rw[Om hc,<-e];have:=A3 hn (k:=j) (by simpa using hj);rw[List.getElem_map] at this;rw[this]
 ·refine rJ _ N j hj (by rw[ga hj,e];exact decide_eq_true rfl) fun k hk=>decide_eq_false fun q=>?_;rw[ga (by omega)] at q;have h2:=List.pairwise_iff_getElem.1 (List.nodup_iff_pairwise_ne.1 hn) k j (by rw[List.length_map];omega) (by rw[List.length_map];exact hj) hk;rw[List.getElem_map,List.getElem_map,q,e] at h2;exact h2 rfl
def Kd(S:List Sp):Prop:=∀s∈S,bQ s.s/\0<=s.w/\s.w<=2147483648
theorem A6{l:List Rd}(h:gx l=0):Kd (JI l):=by
 obtain⟨_,h2,_,_⟩:=AX h
 have key:∀k,k<=l.length->Kd (mg l k):=by
  intro k
  induction k with
  | zero=>intro _ s hs;cases hs
  | succ k ih =>
   intro hk s hs;unfold mg at hs;rcases List.mem_append.1 hs with hs|hs
   ·exact ih (by omega) s hs
   ·unfold FQ at hs;obtain⟨i,hi,rfl⟩:=List.mem_map.1 hs;rw[List.mem_range] at hi;obtain⟨⟨s1,s2,s3,s4,s5⟩,q1,q2,q3⟩:=s8 (h2 k (by omega));have q:=q3 i hi;unfold xb at q;refine⟨⟨q1 i (by omega),q1 (i+1) (by omega),fun e=>q2 ⟨i+1,by omega,by omega,?_⟩⟩,?_,?_⟩
    ·exact(Vw.1 e).symm
    ·show 0<=(l.getD k default).ws.getD i 0;omega
    ·show(l.getD k default).ws.getD i 0<=2147483648;omega
 exact key l.length (Nat.le_refl _)
abbrev ju(S:List Sp):List Sg:=S.map (·.s)
theorem DQ{S:List Sp}(h:Kd S){i:Nat}(hi:i<S.length):bQ (S.getD i default).s/\0<=(S.getD i default).w/\(S.getD i default).w<=2147483648:=by
 rw[ga hi];exact h _ (List.getElem_mem hi)
theorem OI{S:List Sp}{i:Nat}(hi:i<S.length):(ju S).getD i default=(S.getD i default).s:=by
 rw[List.getD_eq_getElem?_getD,List.getD_eq_getElem?_getD,List.getElem?_map,List.getElem?_eq_getElem hi];rfl
theorem lA{S:List Sp}(h:Kd S):Be (ju S):=fun i hi=>by
 rw[List.length_map] at hi;rw[OI hi];exact(DQ h hi).1
theorem VY{S:List Sp}(h:Kd S)(hn:S.length<=400):zq (ju S)=0:=by
 unfold zq;rw[if_neg (by rw[List.length_map];omega),if_pos (lA h)]
theorem OJ{w n d n' d':Int}(hd:1<=d)(gS:1<=d')(h:¬n'.toNat*d.toNat<n.toNat*d'.toNat):va w n d<=va w n' d':=by
 unfold va;have h:=Nat.le_of_not_lt h;refine Int.ofNat_le.2 ?_;rw[Nat.le_div_iff_mul_le (by omega)];refine Nat.le_of_mul_le_mul_right (c:=d.toNat) ?_ (by omega);have h1:=Nat.div_mul_le_self (w.toNat*n.toNat) d.toNat;have e1:w.toNat*n.toNat/d.toNat*d'.toNat*d.toNat=w.toNat*n.toNat/d.toNat*d.toNat*d'.toNat:=by rw[Nat.mul_right_comm]
 have e2:w.toNat*n.toNat*d'.toNat=w.toNat*(n.toNat*d'.toNat):=Nat.mul_assoc ..;have e3:w.toNat*n'.toNat*d.toNat=w.toNat*(n'.toNat*d.toNat):=Nat.mul_assoc ..;have k1:w.toNat*n.toNat/d.toNat*d.toNat*d'.toNat<=w.toNat*n.toNat*d'.toNat:=Nat.mul_le_mul h1 (Nat.le_refl _);have k2:w.toNat*(n.toNat*d'.toNat)<=w.toNat*(n'.toNat*d.toNat):=Nat.mul_le_mul (Nat.le_refl _) h;rw[e1,e3];exact Nat.le_trans k1 (by rw[e2];exact k2)
theorem VZ{w:Int}{L:List Qp}(hw:0<=w/\w<=2147483648)(hP:WG L){k:Nat}(hk:k<L.length-1):0<=(kG w L).getD k 0/\(kG w L).getD k 0<=2147483648:=by
 rw[Oe w L hk];have a:=hP.ok k (by omega);have b:=hP.ok (k+1) (by omega);have c:=hP.up (k+1) (by omega) (by omega);rw[Nat.add_sub_cancel] at c;have m:=OJ (w:=w) a.1.1 b.1.1 c;have x:=oB a.1 hw.1;have y:=oB b.1 hw.1;omega
def ta(S:List Sp)(i:Nat):List Rn:=Tc (S.getD i default) (FS (ju S) i) (dq (ju S))
theorem mq(S:List Sp)(i:Nat):(ta S i).length=(FS (ju S) i).length-1:=oY _ _ _ _
theorem Ia{S:List Sp}{i k:Nat}(hk:k<(ta S i).length):(ta S i).getD k default=WI (S.getD i default) (FS (ju S) i) (dq (ju S)) k:=by
 have iu:k<(FS (ju S) i).length-1:=by rw[<-mq];exact hk
 show(pC _ _ _ _).getD k default=_;unfold pC;rw[List.getD_eq_getElem?_getD,List.getElem?_map,List.getElem?_range iu];rfl
def DR(n:Nat)(r:Rn):Prop:=0<=r.a/\r.a<n/\0<=r.b/\r.b<n/\r.a≠r.b/\0<=r.w/\r.w<=2147483648
theorem A7{S:List Sp}(h:Kd S)(hn:S.length<=900){i:Nat}(hi:i<S.length):∀r∈ta S i,DR (dq (ju S)).length r:=by
 intro r hr;obtain⟨k,hk,rfl⟩:=List.getElem_of_mem hr;rw[<-ga hk,Ia hk];have hl:=mq S i;have hO:=lA h;have cx:i<(ju S).length:=by rw[List.length_map];exact hi
 have m1:=List.getElem_mem (show k<(FS (ju S) i).length by omega);have m2:=List.getElem_mem (show k+1<(FS (ju S) i).length by omega);rw[<-gB] at m1 m2;obtain⟨j1,a1,b1,c1,_⟩:=H' (o8 hO) (nb hO cx m1).2 (oD hO cx m1);obtain⟨j2,a2,b2,c2,_⟩:=H' (o8 hO) (nb hO cx m2).2 (oD hO cx m2);have hne:=Zl hO cx (show k+1<(FS (ju S) i).length by omega);have hw:=VZ (DQ h hi).2 (F0 (ju S) (by rw[List.length_map];exact hn) i) (k:=k) (by rw[List.length_map];omega);unfold WI DR;simp only[c1,c2];refine⟨by omega,by omega,by omega,by omega,fun e=>?_,hw⟩;have:j1=j2:=by omega
 subst this;exact hne (b1.symm.trans b2)
def xi(n:Nat)(e:Ed):Prop:=0<=e.a/\e.a<e.b/\e.b<n/\0<=e.w/\e.w<=2147483648/\(e.f=true\/e.k=true)
theorem RQ{n:Nat}{r:Rn}(h:DR n r):xi n (lz none r):=by
 obtain⟨h1,h2,h3,h4,h5,h6,h7⟩:=h;rw[DN r h5];split
 ·exact⟨h3,by assumption,h2,h6,h7,.inr rfl⟩
 ·exact⟨h1,by show r.a<r.b;omega,h4,h6,h7,.inl rfl⟩
theorem RR{n:Nat}{r:Rn}{e:Ed}(h:DR n r)(he:xi n e):xi n (lz (some e) r):=by
 obtain⟨h1,h2,h3,h4,h5,h6,h7⟩:=h;obtain⟨e1,e2,e3,e4,e5,e6⟩:=he;rw[DO];refine⟨e1,e2,e3,?_,?_,?_⟩
 ·show 0<=if r.w<e.w then r.w else e.w
  split<;>assumption
 ·show(if r.w<e.w then r.w else e.w)<=2147483648;split<;>assumption
 ·rcases e6 with q|q
  ·exact .inl (by simp[q])
  ·exact .inr (by simp[q])
theorem RT{n:Nat}{l:List Ed}{r:Rn}(h:∀e∈l,xi n e)(hr:DR n r):∀e∈xo l r,xi n e:=by
 unfold xo;split
 ·intro e he;rcases DL _ _ _ he with rfl|he
  ·exact RQ hr
  ·exact h e he
 ·rename_i i hi;obtain⟨h1,h2⟩:=rH hi;intro e he;rcases List.mem_or_eq_of_mem_set he with he|rfl
  ·exact h e he
  ·rw[rI h1];exact RR hr (h _ (List.getElem_mem h1))
theorem V'{n:Nat}:∀(rs:List Rn),(∀r∈rs,DR n r)->∀e∈ER rs,xi n e:=by
 have key:∀(rs:List Rn) (L:List Ed),(∀e∈L,xi n e)->(∀r∈rs,DR n r)->∀e∈rs.foldl xo L,xi n e:=fun rs=>by
  induction rs with
  | nil=>intro L h _;exact h
  | cons r rs ih =>
   intro L h hr;exact ih (xo L r) (RT h (hr r (by simp))) fun x hx=>hr x (by simp[hx])
 exact fun rs h=>key rs [] (fun e he=>by cases he) h
theorem DS{R:Nat->List Rn}{n:Nat}{r:Rn}:r∈cN R n↔∃i,i<n/\r∈R i:=by
 unfold cN;simp only[List.mem_flatMap,List.mem_range]
theorem DT(R:Nat->List Rn)(B:Nat):∀n,(∀j,j<n->(R j).length<=B)->(cN R n).length<=B*n
 | 0,_=>by simp[cN]
 | n+1,h=>by
  rw[oZ,List.length_append];have:=DT R B n fun j hj=>h j (by omega);have:=h n (by omega);rw[Nat.mul_succ];omega
def jI(S:List Sp):List Rn:=cN (ta S) S.length
def gb(S:List Sp):List Ed:=ER (jI S)
def kz(S:List Sp):List Pr:=(gb S).map fun e=>⟨e.a,e.b⟩
def rK(S:List Sp)(i:Nat):List Pc:=(ta S i).map (ql (kz S))
theorem OK{S:List Sp}(h:Kd S)(hn:S.length<=900):∀r∈jI S,DR (dq (ju S)).length r:=fun r hr=>by
 obtain⟨i,hi,hr⟩:=DS.1 hr;exact A7 h hn hi r hr
theorem yQ{S:List Sp}(h:Kd S)(hn:S.length<=900):∀e∈gb S,xi (dq (ju S)).length e:=V' _ (OK h hn)
theorem o9(S:List Sp):(kz S).Pairwise gX:=by
 have h:=(H5 (jI S)).1;unfold nr at h;unfold kz;rw[List.pairwise_map] at h ⊢;exact h.imp fun {a b} q=>by unfold qf Ed.key at q;unfold gX;exact q
theorem pd(S:List Sp)(a b:Int):(EM (jI S) (a,b)).isSome=true↔(⟨a,b⟩:Pr)∈kz S:=by
 obtain⟨h1,h2⟩:=H5 (jI S);rw[<-h2];unfold kz;rw[List.mem_map];constructor
 ·intro h;obtain⟨e,he⟩:=Option.isSome_iff_exists.1 h;obtain⟨m,k⟩:=(eL h1).1 he;unfold Ed.key at k;rw[Prod.mk.injEq] at k;exact⟨e,m,by rw[k.1,k.2]⟩
 ·rintro⟨e,m,k⟩;rw[Pr.mk.injEq] at k;rw[(eL h1).2 ⟨m,(show e.key=(a,b) by unfold Ed.key;rw[k.1,k.2])⟩];rfl
theorem F3(S:List Sp):((kz S).map fun k=>(EM (jI S) (k.i,k.k)).getD default)=gb S:=by
 obtain⟨h1,h2⟩:=H5 (jI S);unfold kz;rw[List.map_map];refine List.ext_getElem (by simp) fun j q1 q2=>?_;rw[List.getElem_map];have:FU (gb S) (gb S)[j].key=some (gb S)[j]:=(eL h1).2 ⟨List.getElem_mem q2,rfl⟩;unfold gb at this;rw[h2] at this;show(EM (jI S) (gb S)[j].key).getD default=_;unfold gb;rw[this];rfl
theorem xj{S:List Sp}{i:Nat}(hi:i<S.length){r:Rn}(hr:r∈ta S i):(EM (jI S) (r.lo,r.hi)).isSome=true:=by
 have key:∀(rs:List Rn) (M:JN),(∀k,(M k).isSome=true->((rs.foldl NetL.stM M) k).isSome=true)/\∀r∈rs,((rs.foldl NetL.stM M) (r.lo,r.hi)).isSome=true:=fun rs=>by
  induction rs with
  | nil=>exact fun M=>⟨fun k h=>h,fun r hr=>by cases hr⟩
  | cons x rs ih =>
   intro M;obtain⟨a,b⟩:=ih (NetL.stM M x)
   have hx:∀k,(M k).isSome=true->(NetL.stM M x k).isSome=true:=fun k h=>by
    unfold NetL.stM;split
    ·rfl
    ·exact h
   refine⟨fun k h=>a k (hx k h),fun r hr=>?_⟩;rcases List.mem_cons.1 hr with rfl|hr
   ·exact a _ (by unfold NetL.stM;rw[if_pos rfl];rfl)
   ·exact b r hr
 exact(key (jI S) _).2 r (DS.2 ⟨i,hi,hr⟩)
theorem tc(S:List Sp):(kz S).length=(gb S).length:=List.length_map ..
theorem OL(S:List Sp):((kz S).map kP).Nodup:=by
 rw[List.nodup_iff_pairwise_ne,List.pairwise_map];refine(o9 S).imp fun {a b} h e=>?_;unfold kP at e;simp only[List.cons.injEq,KC.int.injEq,and_true] at e;unfold gX at h;omega
end Go.Proofs.YtijddijloelacaaGreat
namespace Go.Proofs.YtijddijloelacaaGreat
open Go.Proofs.YtijddijloelacaaGreat.Am Go.Sort Go.Proofs Go.Lib Go.NetL
theorem DU(i j:Inhabited cF): @ox i = @ox j:=rfl
theorem OM(i j:Inhabited cF)(s t:Sg): @oy i s t = @oy j s t:=by
 unfold oy AN;rw[DU i j]
theorem JS(i j:Inhabited cF)(s:Sg): @fY i s = @fY j s:=by
 unfold fY;rw[DU i j]
theorem xk(i j:Inhabited cF)(s:Sg)(l:List Sg)(b:Int):∀k,@eJ i s l b k = @eJ j s l b k
 | 0=>by unfold eJ;exact JS i j s
 | k+1=>by unfold eJ;rw[xk i j s l b k,OM i j]
theorem RU(i j:Inhabited cF)(l:List Sg): @FS i l = @FS j l:=by
 funext k;unfold FS;exact xk i j _ _ _ _
variable [Inhabited cF]
variable {G:aK}
def JU(S:List Sp):A:=jQ (dq (ju S)) (gb S) S.length (rK S)
theorem kok2{k:List KC}(h:jv D9 k):∃a b:Int,k=[.int a,.int b]:=by
 rcases k with _|⟨k1,k⟩
 ·exact False.elim h
 ·cases k1 with
  | int a =>
   rcases k with _|⟨k2,k⟩
   ·exact False.elim h
   ·cases k2 with
    | int b =>
     rcases k with _|⟨k3,k⟩
     ·exact⟨a,b,rfl⟩
     ·exact False.elim h
    | bool b=>exact False.elim h
    | str b=>exact False.elim h
  | bool b=>exact False.elim h
  | str b=>exact False.elim h
theorem Wa(S:List Sp)(k:List KC)(hk:jv D9 k):eH (EM (jI S)) k=true↔∃x∈kz S,k=[.int x.i,.int x.k]:=by
 obtain⟨a,b,rfl⟩:=kok2 hk;show(EM (jI S) (a,b)).isSome=true↔_;rw[pd];constructor
 ·intro h;exact⟨_,h,rfl⟩
 ·rintro⟨x,hx,e⟩;simp only[List.cons.injEq,KC.int.injEq,and_true] at e;obtain⟨e1,e2⟩:=e;subst e1;subst e2;exact hx
theorem n50{n:Nat}(h:n<=50):(2+2*n)*n<=5100:=Nat.le_trans (Nat.mul_le_mul (show 2+2*n<=102 by omega) h) (by decide)
theorem eR(S:List Sp):(ju S).length=S.length:=List.length_map ..
theorem rL(S:List Sp)(hn:S.length<=50)(i:Nat):(FS (ju S) i).length<=102:=by
 have:=xg (ju S) i;rw[eR] at this;omega
theorem DX(S:List Sp)(hn:S.length<=50):∀i,i<=S.length->(cN (ta S) i).length<=102*i:=fun i _ =>
 DT _ _ _ fun j _=>by rw[mq];have:=rL S hn j;omega
theorem A8(S:List Sp)(hn:S.length<=50):(kz S).length<=5100:=by
 rw[tc];have h1:=(H7 (jI S)).2;have h2:=DX S hn S.length (Nat.le_refl _);unfold gb jI at *;omega
theorem ON(dS:(default:cF).ns)(l:List Rd)(hl:Lt l)(h:gx l=0)(hn:(JI l).length<=50):aa Tryz.prog G 15 [jC l] (.tup [JU (JI l),.int .i64 0]):=by
 have hS:=A6 h;have h1:=Oa (G:=G) l hl h;generalize JI l=S at *;have hO:=lA hS
 have hN:(dq (ju S)).length<=1000000:=by
  have:=xh hO;rw[eR] at this;exact Nat.le_trans this (Nat.le_trans (n50 hn) (by decide))
 have h2:=v7 (i:=J9) dS (@Vk J9 G (fun q=>q) (ju S) (VY hS (by omega)) (@FS J9 (ju S)) (@Zk J9 _));rw[RU J9 inferInstance] at h2;have h3:=Rz (G:=G) dS (ju S).length (FS (ju S)) (2+2*(ju S).length) (fun i _=>xg (ju S) i) (Nat.le_trans (n50 (by rw[eR];exact hn)) (by decide)) (by rw[eR];omega) (fun i hi c hc=>(nb hO hi hc).2) (qh hO);rw[<-mh hO] at h3;rw[eR] at h2 h3
 have h4:∀i,i<S.length->aa Tryz.prog G 47 [.agg (Vr (S.getD i default)),kv (FS (ju S) i),.mv true WH (uq (dq (ju S))) (A1 (dq (ju S)))] (xL (ta S i)):=fun i hi=>by
  have cx:i<(ju S).length:=by rw[eR];exact hi
  exact VC (S.getD i default) (FS (ju S) i) (dq (ju S)) (DQ hS hi).2 (F0 _ (by rw[eR];omega) i) (fun c hc=>decide_eq_true (by rw[Om (nb hO cx hc).2];exact List.mem_map.2 ⟨_,oD hO cx hc,rfl⟩)) hN
 have h5:=JO (G:=G) dS (eH (EM (jI S))) (eV (EM (jI S))) (kz S) (o9 S) (Wa S) (Nat.le_trans (A8 S hn) (by decide))
 have k:=Y9 (G:=G) l S hn (FS (ju S)) (dq (ju S)) (ta S) (kz S) h1 h2 h3 h4 (fun i _=>by rw[mq];have:=rL S hn i;omega) (Nat.le_trans (A8 S hn) (by decide))
  (fun k hk=>(pd S k.i k.k).2 hk) (OL S) (fun i hi r hr=>decide_eq_true (List.mem_map.2 ⟨⟨r.lo,r.hi⟩,(pd S _ _).1 (xj hi hr),rfl⟩)) h5
 rw[show((kz S).map fun k=>(EM (cN (ta S) S.length) (k.i,k.k)).getD default)=gb S from F3 S] at k;exact k
theorem RV(l:List Rd)(hl:Lt l)(h:gx l=0)(hn:(JI l).length<=50):aa Tryz.prog G 26 [jC l] (JU (JI l)):=by
 have hS:=A6 h;have h1:=JJ (G:=G) l hl h;generalize JI l=S at *;have hO:=lA hS
 have hN:(dq (ju S)).length<=1000000:=by
  have:=xh hO;rw[eR] at this;exact Nat.le_trans this (Nat.le_trans (n50 hn) (by decide))
 have h2:=RJ (G:=G) S hn (FS (ju S)) fun i hi=>by
  have k:=Rv (G:=G) (S.getD i default).s (ju S) (i:Int) (DQ hS hi).1 (by rw[eR];omega);rw[<-OI hi] at k ⊢;exact k
 have J6:(kH (FS (ju S)) (ju S).length).length<=10000:=Nat.le_trans (qe _ _ _ fun j _=>xg (ju S) j) (Nat.le_trans (n50 (by rw[eR];exact hn)) (by decide));have h3:=Rh (G:=G) (kH (FS (ju S)) (ju S).length) J6 (qh hO);rw[<-mh hO] at h3;rw[eR] at h3;have cx:∀ {i},i<S.length->i<(ju S).length:=fun {i} hi=>by rw[eR];exact hi
 have hlen:∀i,(ta S i).length+1=(FS (ju S) i).length:=fun i=>by
  have:=OG (ju S) i;rw[mq];omega
 exact VX (G:=G) l S hn (FS (ju S)) (dq (ju S)) (fun x hx=>Sm.rk (o7 hO x hx).1) hN (ta S)
  (fun i hi c hc=>Sm.rk (nb hO (cx hi) hc).1.1)
  (fun i hi=>⟨Nat.le_of_eq (hlen i),by rw[vb,List.length_map];have:=hlen i;omega⟩)
  (fun i hi k hk=>by
   have O2:=hlen i;have m1:=List.getElem_mem (show k<(FS (ju S) i).length by omega);have m2:=List.getElem_mem (show k+1<(FS (ju S) i).length by omega);rw[<-gB] at m1 m2;obtain⟨j1,_,_,c1,d1⟩:=H' (o8 hO) (nb hO (cx hi) m1).2 (oD hO (cx hi) m1);obtain⟨j2,_,_,c2,d2⟩:=H' (o8 hO) (nb hO (cx hi) m2).2 (oD hO (cx hi) m2);rw[Ia hk,d1,d2];unfold WI;rw[c1,c2])
  (fun i hi r hr=>(A7 hS (by omega) hi r hr).2.2.2.2.1)
  (fun i hi k=>by
   rw[List.length_append,List.length_take];have a:=DX S hn i (by omega);have b:=hlen i;have c:=rL S hn i;omega)
  h1 h2 102 (fun i _=>rL S hn i) (by omega) (fun i hi c hc=>(nb hO (cx hi) hc).2) h3
  fun i hi=>JL _ _ (DQ hS hi).2 (F0 _ (by rw[eR];omega) i)
end Go.Proofs.YtijddijloelacaaGreat
namespace Go.Proofs.YtijddijloelacaaGreat
open Go.Proofs.YtijddijloelacaaGreat.Am Go.Sort Go.Proofs Go.Lib Go.NetL
variable [Inhabited cF]
variable {G:aK}
theorem Wb{r s:RS}(hr:dU r)(hs:dU s):aa Tryz.prog G 111 [Pa r,Pa s] (.tup [.int .i64 (ee r s),.int .i64 0]):=by
 rw[ku hr,ku hs];exact Q3 _ _ _ _ _ _ (oo hr) (oo hs)
theorem OO{r s:RS}(hr:dU r)(hs:dU s):aa Tryz.prog G 74 [.agg (fJ r),.agg (fJ s)] (.int .i64 (ee r s)):=by
 have m:=Wb (G:=G) hr hs;rw[wV,wV] at m;generalize ee r s=z at *;unfold fJ dX at *;generalize wW r.x=X1 at *;generalize wW r.y=Y1 at *;generalize wW r.w=W1 at *;generalize wW s.x=X2 at *;generalize wW s.y=Y2 at *;generalize wW s.w=W2 at *;refine aa.af ak Tryz.func74 rfl rfl _ rfl ?_;(conv=>whnf);repeat' ((first|refine st ?_|(refine⟨fun h=>?_,fun h=>?_⟩<;>try simp only[ae] at h)|(refine .inl ?_;(conv=>whnf);refine⟨_,m,?_⟩)|refine wf ?_|refine ao ?_|refine nn ?_|fail)<;>conv=>whnf)
theorem F4{N:List RS}(hs:N.Pairwise fun a b=>ee a b<0){i j:Nat}(lB:i<j)(hj:j<N.length):ee (N.getD i default) (N.getD j default)<0:=by
 rw[ga (by omega),ga hj];exact List.pairwise_iff_getElem.1 hs i j (by omega) hj lB
theorem OP(N:List RS)(hs:N.Pairwise fun a b=>ee a b<0)(hm:∀r∈N,dU r)(hl:N.length<=1000000):aa Tryz.prog G 65 [dM N] (.sb true):=by
 refine aa.af ak Tryz.func65 rfl rfl _ rfl ?_;(conv=>whnf);repeat' ((first|refine st ?_|(refine⟨fun h=>?_,fun h=>?_⟩<;>try simp only[ae] at h)|refine wf ?_|refine ao ?_|refine nn ?_|fail)<;>conv=>whnf)
 refine ah (fun i:Nat=>i<=N.length) (fun i=>[(7,.int .i64 (i:Int)),(3,.aj),(4,.aj)]) (fun i=>[]) (fun i=>N.length-i) 0 (Nat.zero_le _) ?_ ?_
 ·exact ff
 ·intro i hi;have hi:i<=N.length:=hi;rcases Nat.lt_or_ge i N.length with bT|bT
  ·have h1:=FC (G:=G) (jP hm bT);rw[wV] at h1;rcases Nat.eq_zero_or_pos i with rfl|hp
   ·unfold fJ dX at *;(conv=>whnf);repeat' ((first|(exfalso;omega)|(exact Bool.noConfusion h)|refine st ?_|(refine⟨fun h=>?_,fun h=>?_⟩<;>try simp only[ae] at h)|(refine .inl ?_;(conv=>whnf);refine⟨_,h1,?_⟩)|refine wf ?_|refine ao ?_|refine nn ?_|fail)<;>conv=>whnf)
    refine⟨1,bT,(by show N.length-1<N.length-0;omega),?_⟩;exact ff
   ·have ei:((i:Int)-1).toNat=i-1:=by omega
    obtain⟨z,hz,h2⟩:∃z:Int,z<0/\aa Tryz.prog G 74 [.agg (fJ (N.getD ((i:Int)-1).toNat default)),.agg (fJ (N.getD i default))] (.int .i64 z) :=
     ⟨_,by rw[ei];exact F4 hs (show i-1<i by omega) bT,OO (by rw[ei];exact jP hm (by omega)) (jP hm bT)⟩
    unfold fJ dX at *;(conv=>whnf);repeat' ((first|(exfalso;omega)|(exact Bool.noConfusion h)|refine st ?_|(refine⟨fun h=>?_,fun h=>?_⟩<;>try simp only[ae] at h)|(refine .inl ?_;(conv=>whnf);(first|refine⟨_,h1,?_⟩|refine⟨_,h2,?_⟩))|refine wf ?_|refine ao ?_|refine nn ?_|fail)<;>conv=>whnf)
    refine⟨i+1,bT,(by show N.length-(i+1)<N.length-i;omega),?_⟩;exact ff
  ·(conv=>whnf);repeat' ((first|(exfalso;omega)|refine st ?_|(refine⟨fun h=>?_,fun h=>?_⟩<;>try simp only[ae] at h)|refine wf ?_|refine ao ?_|refine nn ?_|fail)<;>conv=>whnf)
theorem Ib{b:Bool}(h1:b=true)(h2:b=false):False:=Bool.noConfusion (h1.symm.trans h2)
theorem OQ(a b:Pr):pg a b<0↔gX a b:=by
 rw[<-uP];unfold ltOf;exact decide_eq_true_iff.symm
theorem DY(w:Int)(h:0<=w/\w<=2147483648):aa Tryz.prog G 66 [.int .i64 w] (.sb true):=by
 refine aa.af ak Tryz.func66 rfl rfl _ rfl ?_;(conv=>whnf);repeat' ((first|(exfalso;omega)|refine st ?_|(refine⟨fun h=>?_,fun h=>?_⟩<;>try simp only[ae] at h)|refine wf ?_|refine ao ?_|refine nn ?_|fail)<;>conv=>whnf)
 all_goals first|rfl|exact decide_eq_true (by omega)
theorem OR(e:Ed):aa Tryz.prog G 67 [.agg (fX e)] (.agg (UC ⟨e.a,e.b⟩)):=by
 refine aa.af ak Tryz.func67 rfl rfl _ rfl ?_;(conv=>whnf);repeat' ((first|refine st ?_|(refine⟨fun h=>?_,fun h=>?_⟩<;>try simp only[ae] at h)|refine wf ?_|refine ao ?_|refine nn ?_|fail)<;>conv=>whnf)
def JV(n:Nat)(p:Pc):Prop:=p.e<n/\0<=p.w/\p.w<=2147483648
abbrev JW(N:List RS)(E:List Ed)(n:Nat)(P:Nat->List Pc):A:=.bref [dM N,qg E,.sl n 1 fun i=>[jt (P i)]] 0
theorem RW(N:List RS)(E:List Ed)(n:Nat)(P:Nat->List Pc)(p:Pc)(h:JV E.length p)(hE:E.length<=1000000):aa Tryz.prog G 71 [.agg (Ou p),JW N E n P] (.sb false):=by
 obtain⟨h1,h2,h3⟩:=h;have hw:=DY (G:=G) p.w ⟨h2,h3⟩;refine aa.af ak Tryz.func71 rfl rfl _ rfl ?_;(conv=>whnf);repeat' ((first|(exfalso;omega)|refine st ?_|(refine⟨fun h=>?_,fun h=>?_⟩<;>try simp only[ae] at h)|(refine .inl ?_;(conv=>whnf);refine⟨_,hw,?_⟩)|refine wf ?_|refine ao ?_|refine nn ?_|fail)<;>conv=>whnf)
 all_goals rfl
theorem OS(N:List RS)(E:List Ed)(n:Nat)(P:Nat->List Pc)(l:List Pc)(h:∀p∈l,JV E.length p)(hE:E.length<=1000000)(hl:l.length<=1000000):aa Tryz.prog G 107 [jt l,.fn 71 [JW N E n P]] (.int .i64 (-1)):=by
 refine aa.af ak Tryz.func107 rfl rfl _ rfl ?_;(conv=>whnf);repeat' ((first|refine st ?_|(refine⟨fun h=>?_,fun h=>?_⟩<;>try simp only[ae] at h)|refine wf ?_|refine ao ?_|refine nn ?_|fail)<;>conv=>whnf)
 refine ah (fun i:Nat=>i<=l.length) (fun i=>[(8,.int .i64 (i:Int)),(5,.aj)]) (fun i=>[]) (fun i=>l.length-i) 0 (Nat.zero_le _) ?_ ?_
 ·exact ff
 ·intro i hi;have hi:i<=l.length:=hi;rcases Nat.lt_or_ge i l.length with bT|bT
  ·have h1:=RW (G:=G) N E n P (l.getD i default) (by rw[ga bT];exact h _ (List.getElem_mem bT)) hE;(conv=>whnf);repeat' ((first|(exfalso;omega)|(exact Bool.noConfusion h)|refine st ?_|(refine⟨fun h=>?_,fun h=>?_⟩<;>try simp only[ae] at h)|(refine .inl ?_;(conv=>whnf);refine⟨_,h1,?_⟩)|refine wf ?_|refine ao ?_|refine nn ?_|fail)<;>conv=>whnf)
   refine⟨i+1,bT,(by show l.length-(i+1)<l.length-i;omega),?_⟩;exact ff
  ·(conv=>whnf);repeat' ((first|(exfalso;omega)|refine st ?_|(refine⟨fun h=>?_,fun h=>?_⟩<;>try simp only[ae] at h)|refine wf ?_|refine ao ?_|refine nn ?_|fail)<;>conv=>whnf)
theorem RX(N:List RS)(E:List Ed)(n:Nat)(P:Nat->List Pc)(l:List Pc)(h:∀p∈l,JV E.length p)(hE:E.length<=1000000)(hl:l.length<=1000000):aa Tryz.prog G 69 [jt l,JW N E n P] (.sb false):=by
 have h1:=OS (G:=G) N E n P l h hE hl
 have h2:aa Tryz.prog G 70 [jt l,.fn 71 [JW N E n P]] (.sb false):=by
  refine aa.af ak Tryz.func70 rfl rfl _ rfl ?_;(conv=>whnf);repeat' ((first|refine st ?_|(refine⟨fun h=>?_,fun h=>?_⟩<;>try simp only[ae] at h)|(refine .inl ?_;(conv=>whnf);refine⟨_,h1,?_⟩)|refine wf ?_|refine ao ?_|refine nn ?_|fail)<;>conv=>whnf)
  all_goals rfl
 refine aa.af ak Tryz.func69 rfl rfl _ rfl ?_;(conv=>whnf);repeat' ((first|refine st ?_|(refine⟨fun h=>?_,fun h=>?_⟩<;>try simp only[ae] at h)|(refine .inl ?_;(conv=>whnf);refine⟨_,h2,?_⟩)|refine wf ?_|refine ao ?_|refine nn ?_|fail)<;>conv=>whnf)
theorem Wc(N:List RS)(E:List Ed)(n:Nat)(P:Nat->List Pc)(h:∀i,i<n->∀p∈P i,JV E.length p)(hE:E.length<=1000000)(hl:∀i,i<n->(P i).length<=1000000)(hn:n<=1000000):aa Tryz.prog G 68 [.sl n 1 fun i=>[jt (P i)],.fn 69 [JW N E n P]] (.sb false):=by
 have h0:aa Tryz.prog G 106 [.sl n 1 fun i=>[jt (P i)],.fn 69 [JW N E n P]] (.int .i64 (-1)):=by
  refine aa.af ak Tryz.func106 rfl rfl _ rfl ?_;(conv=>whnf);repeat' ((first|refine st ?_|(refine⟨fun h=>?_,fun h=>?_⟩<;>try simp only[ae] at h)|refine wf ?_|refine ao ?_|refine nn ?_|fail)<;>conv=>whnf)
  refine ah (fun i:Nat=>i<=n) (fun i=>[(8,.int .i64 (i:Int)),(5,.aj)]) (fun i=>[]) (fun i=>n-i) 0 (Nat.zero_le _) ?_ ?_
  ·exact ff
  ·intro i hi;have hi:i<=n:=hi;rcases Nat.lt_or_ge i n with bT|bT
   ·have h1:=RX (G:=G) N E n P (P i) (h i bT) hE (hl i bT);(conv=>whnf);repeat' ((first|(exfalso;omega)|(exact Bool.noConfusion h)|refine st ?_|(refine⟨fun h=>?_,fun h=>?_⟩<;>try simp only[ae] at h)|(refine .inl ?_;(conv=>whnf);refine⟨_,h1,?_⟩)|refine wf ?_|refine ao ?_|refine nn ?_|fail)<;>conv=>whnf)
    refine⟨i+1,bT,(by show n-(i+1)<n-i;omega),?_⟩;exact ff
   ·(conv=>whnf);repeat' ((first|(exfalso;omega)|refine st ?_|(refine⟨fun h=>?_,fun h=>?_⟩<;>try simp only[ae] at h)|refine wf ?_|refine ao ?_|refine nn ?_|fail)<;>conv=>whnf)
 refine aa.af ak Tryz.func68 rfl rfl _ rfl ?_;(conv=>whnf);repeat' ((first|refine st ?_|(refine⟨fun h=>?_,fun h=>?_⟩<;>try simp only[ae] at h)|(refine .inl ?_;(conv=>whnf);refine⟨_,h0,?_⟩)|refine wf ?_|refine ao ?_|refine nn ?_|fail)<;>conv=>whnf)
 all_goals rfl
theorem RY(N:List RS)(E:List Ed)(n:Nat)(P:Nat->List Pc)(hs:N.Pairwise fun a b=>ee a b<0)(hm:∀r∈N,dU r)(hN:N.length<=200000)(hE:E.length<=200000)(hn:n<=200000)
  (hk:(E.map fun e=>(⟨e.a,e.b⟩:Pr)).Pairwise gX) (ho:∀e∈E,xi N.length e) (hP:∀i,i<n->∀p∈P i,JV E.length p) (hl:∀i,i<n->(P i).length<=1000000) :
  aa Tryz.prog G 27 [jQ N E n P] (.sb true):=by
 have h1:=OP (G:=G) N hs hm (by omega);have h9:=Wc (G:=G) N E n P hP (by omega) hl (by omega);refine aa.af ak Tryz.func27 rfl rfl _ rfl ?_;(conv=>whnf);repeat' ((first|(exfalso;omega)|(exact Bool.noConfusion h)|refine st ?_|(refine⟨fun h=>?_,fun h=>?_⟩<;>try simp only[ae] at h)|(refine .inl ?_;(conv=>whnf);refine⟨_,h1,?_⟩)|refine wf ?_|refine ao ?_|refine nn ?_|fail)<;>conv=>whnf)
 refine ah (fun i:Nat=>i<=E.length) (fun i=>[(30,.int .i64 (i:Int)),(3,.aj),(4,.aj)]) (fun i=>[.box 39 [dM N,qg E,.sl n 1 fun i=>[jt (P i)]]]) (fun i=>E.length-i) 0 (Nat.zero_le _) ?_ ?_
 ·conv=>whnf
  repeat (first|exact fa|((first|refine fb ?_|(refine And.intro ?_ ?_;rotate_left));conv=>whnf))
 ·intro i hi;have hi:i<=E.length:=hi;rcases Nat.lt_or_ge i E.length with bT|bT
  ·obtain⟨o1,o2,o3,o4,o5,o6⟩:=ho _ (List.getElem_mem bT);rw[<-ga bT] at o1 o2 o3 o4 o5 o6;have o1:0<=(E.getD (i:Int).toNat default).a:=o1;have o2:(E.getD (i:Int).toNat default).a<(E.getD (i:Int).toNat default).b:=o2;have o3:(E.getD (i:Int).toNat default).b<N.length:=o3;have o6:(E.getD (i:Int).toNat default).f=true\/(E.getD (i:Int).toNat default).k=true:=o6;have hw:=DY (G:=G) (E.getD i default).w ⟨o4,o5⟩;rcases Nat.eq_zero_or_pos i with h0|hp
   ·(conv=>whnf);repeat' ((first|(exfalso;omega)|(exact Bool.noConfusion h)|((exfalso;rcases o6 with q|q<;>exact Ib q (by assumption)))|refine st ?_|(refine⟨fun h=>?_,fun h=>?_⟩<;>try simp only[ae] at h)|(refine .inl ?_;(conv=>whnf);refine⟨_,hw,?_⟩)|refine wf ?_|refine ao ?_|refine nn ?_|fail)<;>conv=>whnf)
    all_goals first
     | (refine ⟨i + 1, bT, (by show E.length - (i + 1) < E.length - i; omega), ?_⟩
        conv=>whnf
        repeat (first|exact fa|((first|refine fb ?_|(refine And.intro ?_ ?_;rotate_left));conv=>whnf)))
    
   ·have ei:((i:Int)-1).toNat=i-1:=by omega
    have aH:=List.pairwise_iff_getElem.1 hk (i-1) i (by rw[List.length_map];omega) (by rw[List.length_map];exact bT) (by omega);rw[List.getElem_map,List.getElem_map,<-ga bT,<-ga (show i-1<E.length by omega)] at aH
    obtain⟨z,hz,g3⟩:∃z:Int,z<0/\aa Tryz.prog G 51 [.agg (UC ⟨(E.getD ((i:Int)-1).toNat default).a,(E.getD ((i:Int)-1).toNat default).b⟩),.agg (UC ⟨(E.getD i default).a,(E.getD i default).b⟩)] (.int .i64 z) :=
     ⟨_,by rw[ei];exact(OQ _ _).2 aH,xe _ _⟩
    have g1:=OR (G:=G) (E.getD ((i:Int)-1).toNat default);have g2:=OR (G:=G) (E.getD i default);(conv=>whnf);repeat' ((first|(exfalso;omega)|(exact Bool.noConfusion h)|((exfalso;rcases o6 with q|q<;>exact Ib q (by assumption)))|refine st ?_|(refine⟨fun h=>?_,fun h=>?_⟩<;>try simp only[ae] at h)|(refine .inl ?_;(conv=>whnf);(first|refine⟨_,hw,?_⟩|refine⟨_,g1,?_⟩|refine⟨_,g2,?_⟩|refine⟨_,g3,?_⟩))|refine wf ?_|refine ao ?_|refine nn ?_|fail)<;>conv=>whnf)
    all_goals first
     | (refine ⟨i + 1, bT, (by show E.length - (i + 1) < E.length - i; omega), ?_⟩
        conv=>whnf
        repeat (first|exact fa|((first|refine fb ?_|(refine And.intro ?_ ?_;rotate_left));conv=>whnf)))
    
  ·(conv=>whnf);repeat' ((first|(exfalso;omega)|refine st ?_|(refine⟨fun h=>?_,fun h=>?_⟩<;>try simp only[ae] at h)|(refine .inl ?_;(conv=>whnf);refine⟨_,h9,?_⟩)|refine wf ?_|refine ao ?_|refine nn ?_|fail)<;>conv=>whnf)
   all_goals first|rfl
theorem Zo(lo hi:Nat):((lo:Int)+(hi:Int)).fdiv (2 ^ (min (Int.toNat 1) IntKind.u64.bits))=(((lo+hi)/2:Nat):Int):=by
 have e2:(2:Int) ^ (min (Int.toNat 1) IntKind.u64.bits)=2:=by decide
 rw[e2,Int.fdiv_eq_ediv_of_nonneg _ (by decide)];omega
theorem A9(r:RS):ee r r=0:=(AI r r).2 ⟨rfl,rfl⟩
theorem Zp(N:List RS)(hs:N.Pairwise fun a b=>ee a b<0)(hm:∀r∈N,dU r)(hl:N.length<=1000000)(t:Nat)(ht:t<N.length):
  aa Tryz.prog G 73 [dM N,.agg (fJ (N.getD t default)),.fn 74 []] (.tup [.int .i64 (t:Int),.sb true]):=by
 refine aa.af ak Tryz.func73 rfl rfl _ rfl ?_;(conv=>whnf);repeat' ((first|refine st ?_|(refine⟨fun h=>?_,fun h=>?_⟩<;>try simp only[ae] at h)|refine wf ?_|refine ao ?_|refine nn ?_|fail)<;>conv=>whnf)
 refine ah (fun x:Nat×Nat=>x.1<=t/\t<=x.2/\x.2<=N.length) (fun x=>match x with|(lo,hi)=>[(9,.int .i64 (lo:Int)),(10,.int .i64 (hi:Int)),(11,.aj)]) (fun _=>[.box 57 (fJ (N.getD t default))]) (fun x=>x.2-x.1) (0,N.length) ⟨Nat.zero_le _,Nat.le_of_lt ht,Nat.le_refl _⟩ ?_ ?_
 ·conv=>whnf
  repeat (first|exact fa|((first|refine fb ?_|(refine And.intro ?_ ?_;rotate_left));conv=>whnf))
 ·rintro⟨lo,hi⟩ ⟨h1,h2,h3⟩;have h1:lo<=t:=h1;have h2:t<=hi:=h2;have h3:hi<=N.length:=h3;have We:=Zo lo hi;have key:∀m,m<N.length->aa Tryz.prog G 74 [.agg (fJ (N.getD m default)),.agg (fJ (N.getD t default))] (.int .i64 (ee (N.getD m default) (N.getD t default))):=fun m Iw=>OO (jP hm Iw) (jP hm ht);rcases Nat.lt_or_ge lo hi with aH|Ir
  ·have k:=key ((lo+hi)/2) (by omega)
   have hz:ee (N.getD ((lo+hi)/2) default) (N.getD t default)<0↔(lo+hi)/2<t:=by
    rcases Nat.lt_trichotomy ((lo+hi)/2) t with q|q|q
    ·exact⟨fun _=>q,fun _=>F4 hs q ht⟩
    ·rw[q,A9];omega
    ·have a:=F4 hs q (by omega);refine⟨fun h=>?_,fun h=>by omega⟩;have p1:=(jP hm ht).2.1;have p2:=(jP hm (show(lo+hi)/2<N.length by omega)).2.1;have:=qd p1 p2 p1 a h;rw[A9] at this;omega
   generalize ee (N.getD ((lo+hi)/2) default) (N.getD t default)=z at *;unfold fJ dX at *;(conv=>whnf);repeat' ((first|(exfalso;omega)|((rw[We];(conv=>whnf)))|refine st ?_|(refine⟨fun h=>?_,fun h=>?_⟩<;>try simp only[ae] at h)|(refine .inl ?_;(conv=>whnf);refine⟨_,k,?_⟩)|refine wf ?_|refine ao ?_|refine nn ?_|fail)<;>conv=>whnf)
   all_goals first
    | (refine ⟨((lo + hi) / 2 + 1, hi), ⟨by show (lo + hi) / 2 + 1 ≤ t; omega, h2, h3⟩, (by show hi - ((lo + hi) / 2 + 1) < hi - lo; omega), ?_⟩
       conv=>whnf
       repeat (first|exact fa|((first|refine fb ?_|(refine And.intro ?_ ?_;rotate_left));conv=>whnf)))
    | (refine ⟨(lo, (lo + hi) / 2), ⟨h1, by show t ≤ (lo + hi) / 2; omega, by show (lo + hi) / 2 ≤ _; omega⟩, (by show (lo + hi) / 2 - lo < hi - lo; omega), ?_⟩
       conv=>whnf
       repeat (first|exact fa|((first|refine fb ?_|(refine And.intro ?_ ?_;rotate_left));conv=>whnf)))
   
  ·have e:lo=t:=by omega
   subst e;have k:=key lo ht;rw[A9] at k;unfold fJ dX at *;(conv=>whnf);repeat' ((first|(exfalso;omega)|refine st ?_|(refine⟨fun h=>?_,fun h=>?_⟩<;>try simp only[ae] at h)|(refine .inl ?_;(conv=>whnf);refine⟨_,k,?_⟩)|refine wf ?_|refine ao ?_|refine nn ?_|fail)<;>conv=>whnf)
   all_goals first|rfl
theorem Zq(e:Ed)(a b:Int):aa Tryz.prog G 76 [.agg (fX e),.agg [.int .i64 a,.int .i64 b]] (.int .i64 (pg ⟨e.a,e.b⟩ ⟨a,b⟩)):=by
 have g1:=OR (G:=G) e;have g2:=xe (G:=G) ⟨e.a,e.b⟩ ⟨a,b⟩;generalize pg ⟨e.a,e.b⟩ ⟨a,b⟩=z at *;refine aa.af ak Tryz.func76 rfl rfl _ rfl ?_;(conv=>whnf);repeat' ((first|refine st ?_|(refine⟨fun h=>?_,fun h=>?_⟩<;>try simp only[ae] at h)|(refine .inl ?_;(conv=>whnf);(first|refine⟨_,g1,?_⟩|refine⟨_,g2,?_⟩))|refine wf ?_|refine ao ?_|refine nn ?_|fail)<;>conv=>whnf)
theorem Zr(E:List Ed)(hk:(E.map fun e=>(⟨e.a,e.b⟩:Pr)).Pairwise gX)(hl:E.length<=1000000)(t:Nat)(ht:t<E.length):
  aa Tryz.prog G 75 [qg E,.agg [.int .i64 (E.getD t default).a,.int .i64 (E.getD t default).b],.fn 76 []] (.tup [.int .i64 (t:Int),.sb true]):=by
 have hp:∀i j,i<j->j<E.length->gX ⟨(E.getD i default).a,(E.getD i default).b⟩ ⟨(E.getD j default).a,(E.getD j default).b⟩:=fun i j lB hj=>by
  have:=List.pairwise_iff_getElem.1 hk i j (by rw[List.length_map];omega) (by rw[List.length_map];exact hj) lB;rw[List.getElem_map,List.getElem_map,<-ga hj,<-ga (show i<E.length by omega)] at this;exact this
 have hz:∀m,m<E.length->∃z:Int,(z<0↔m<t)/\(m=t->z=0)/\aa Tryz.prog G 76 [.agg (fX (E.getD m default)),.agg [.int .i64 (E.getD t default).a,.int .i64 (E.getD t default).b]] (.int .i64 z):=fun m hm=>by
  refine⟨_,?_,?_,Zq _ _ _⟩
  ·rw[OQ];rcases Nat.lt_trichotomy m t with q|q|q
   ·exact⟨fun _=>q,fun _=>hp m t q ht⟩
   ·subst q;refine⟨fun h=>?_,fun h=>by omega⟩;unfold gX at h;omega
   ·have a:=hp t m q hm;refine⟨fun h=>?_,fun h=>by omega⟩;unfold gX at a h;simp only at a h;omega
  ·rintro rfl;unfold pg;show(if _=(0:Int) then _ else _)=(0:Int);simp[cO,dm]
 refine aa.af ak Tryz.func75 rfl rfl _ rfl ?_;(conv=>whnf);repeat' ((first|refine st ?_|(refine⟨fun h=>?_,fun h=>?_⟩<;>try simp only[ae] at h)|refine wf ?_|refine ao ?_|refine nn ?_|fail)<;>conv=>whnf)
 refine ah (fun x:Nat×Nat=>x.1<=t/\t<=x.2/\x.2<=E.length) (fun x=>match x with|(lo,hi)=>[(9,.int .i64 (lo:Int)),(10,.int .i64 (hi:Int)),(11,.aj)]) (fun _=>[.box 105 [.int .i64 (E.getD t default).a,.int .i64 (E.getD t default).b]]) (fun x=>x.2-x.1) (0,E.length) ⟨Nat.zero_le _,Nat.le_of_lt ht,Nat.le_refl _⟩ ?_ ?_
 ·conv=>whnf
  repeat (first|exact fa|((first|refine fb ?_|(refine And.intro ?_ ?_;rotate_left));conv=>whnf))
 ·rintro⟨lo,hi⟩ ⟨h1,h2,h3⟩;have h1:lo<=t:=h1;have h2:t<=hi:=h2;have h3:hi<=E.length:=h3;have We:=Zo lo hi;rcases Nat.lt_or_ge lo hi with aH|Ir
  ·obtain⟨z,z1,z2,k⟩:=hz ((lo+hi)/2) (by omega);(conv=>whnf);repeat' ((first|(exfalso;omega)|((rw[We];(conv=>whnf)))|refine st ?_|(refine⟨fun h=>?_,fun h=>?_⟩<;>try simp only[ae] at h)|(refine .inl ?_;(conv=>whnf);refine⟨_,k,?_⟩)|refine wf ?_|refine ao ?_|refine nn ?_|fail)<;>conv=>whnf)
   all_goals first
    | (refine ⟨((lo + hi) / 2 + 1, hi), ⟨by show (lo + hi) / 2 + 1 ≤ t; omega, h2, h3⟩, (by show hi - ((lo + hi) / 2 + 1) < hi - lo; omega), ?_⟩
       conv=>whnf
       repeat (first|exact fa|((first|refine fb ?_|(refine And.intro ?_ ?_;rotate_left));conv=>whnf)))
    | (refine ⟨(lo, (lo + hi) / 2), ⟨h1, by show t ≤ (lo + hi) / 2; omega, by show (lo + hi) / 2 ≤ _; omega⟩, (by show (lo + hi) / 2 - lo < hi - lo; omega), ?_⟩
       conv=>whnf
       repeat (first|exact fa|((first|refine fb ?_|(refine And.intro ?_ ?_;rotate_left));conv=>whnf)))
   
  ·have e:lo=t:=by omega
   subst e;obtain⟨z,z1,z2,k⟩:=hz lo ht;have z2:=z2 rfl;subst z2;(conv=>whnf);repeat' ((first|(exfalso;omega)|refine st ?_|(refine⟨fun h=>?_,fun h=>?_⟩<;>try simp only[ae] at h)|(refine .inl ?_;(conv=>whnf);refine⟨_,k,?_⟩)|refine wf ?_|refine ao ?_|refine nn ?_|fail)<;>conv=>whnf)
   all_goals first|rfl
theorem Wf(N:List RS)(E:List Ed)(n:Nat)(P:Nat->List Pc)(Wg:aa Tryz.prog G 27 [jQ N E n P] (.sb true))(hs:N.Pairwise fun a b=>ee a b<0)(hm:∀r∈N,dU r)(hl:N.length<=1000000)(t:Nat)(ht:t<N.length):
  aa Tryz.prog G 28 [jQ N E n P,.agg (fJ (N.getD t default))] (.tup [.int .i64 (t:Int),.sb true]):=by
 have h1:=FC (G:=G) (jP hm ht);rw[wV] at h1;have h2:=Zp (G:=G) N hs hm hl t ht;unfold jQ at *;unfold fJ dX at *;refine aa.af ak Tryz.func28 rfl rfl _ rfl ?_;(conv=>whnf);repeat' ((first|(exfalso;omega)|(exact Bool.noConfusion h)|refine st ?_|(refine⟨fun h=>?_,fun h=>?_⟩<;>try simp only[ae] at h)|(refine .inl ?_;(conv=>whnf);(first|refine⟨_,Wg,?_⟩|refine⟨_,h1,?_⟩|refine⟨_,h2,?_⟩))|refine wf ?_|refine ao ?_|refine nn ?_|fail)<;>conv=>whnf)
theorem Wh(N:List RS)(E:List Ed)(n:Nat)(P:Nat->List Pc)(Wg:aa Tryz.prog G 27 [jQ N E n P] (.sb true))(hk:(E.map fun e=>(⟨e.a,e.b⟩:Pr)).Pairwise gX)(ho:∀e∈E,xi N.length e)(hl:E.length<=1000000)(t:Nat)(ht:t<E.length):
  aa Tryz.prog G 29 [jQ N E n P,.int .i64 (E.getD t default).b,.int .i64 (E.getD t default).a] (.tup [.int .i64 (t:Int),.sb true]):=by
 have h2:=Zr (G:=G) E hk hl t ht;have o:=(ho _ (List.getElem_mem ht)).2.1;rw[<-ga ht] at o;rw[show[A.int .i64 (E.getD t default).a,A.int .i64 (E.getD t default).b]=[A.int .i64 (if (E.getD t default).a<(E.getD t default).b then (E.getD t default).a else (E.getD t default).b),A.int .i64 (if (E.getD t default).b<(E.getD t default).a then (E.getD t default).a else (E.getD t default).b)] by rw[if_pos o,if_neg (by omega)]] at h2;unfold jQ at *;refine aa.af ak Tryz.func29 rfl rfl _ rfl ?_;(conv=>whnf);repeat' ((first|(exfalso;omega)|(exact Bool.noConfusion h)|refine st ?_|(refine⟨fun h=>?_,fun h=>?_⟩<;>try simp only[ae] at h)|(refine .inl ?_;(conv=>whnf);(first|refine⟨_,Wg,?_⟩|refine⟨_,h2,?_⟩))|refine wf ?_|refine ao ?_|refine nn ?_|fail)<;>conv=>whnf)
theorem RZ(l:List RS)(h1:∀r∈l,Rk r)(hl:l.length<=1000000):
  aa Tryz.prog G 59 [dM l,dM l] (.sb true):=by
 refine aa.af ak Tryz.func59 rfl rfl _ rfl ?_;(conv=>whnf);repeat' ((first|(exact absurd trivial h)|(exfalso;omega)|refine st ?_|(refine⟨fun h=>?_,fun h=>?_⟩<;>try simp only[ae] at h)|refine wf ?_|refine ao ?_|refine nn ?_|fail)<;>conv=>whnf)
 refine ah (fun i:Nat=>i<=l.length) (fun i=>[(5,.int .i64 (i:Int))]) (fun _=>[]) (fun i=>l.length-i) 0 (Nat.zero_le _) ?_ ?_
 ·conv=>whnf
  repeat (first|exact fa|((first|refine fb ?_|(refine And.intro ?_ ?_;rotate_left));conv=>whnf))
 ·rintro i hi;have hi:i<=l.length:=hi;have key:=Fx (FY h1 i) (FY h1 i);rw[decide_eq_true rfl] at key;unfold fJ dX at *;(conv=>whnf);repeat' ((first|((exfalso;exact Bool.noConfusion (key.symm.trans h)))|refine st ?_|(refine⟨fun h=>?_,fun h=>?_⟩<;>try simp only[ae] at h)|refine wf ?_|refine ao ?_|refine nn ?_|fail)<;>conv=>whnf)
  ·refine⟨i+1,by omega,(by show l.length-(i+1)<l.length-i;omega),?_⟩;exact ff
theorem JX(N:List RS)(E:List Ed)(n:Nat)(P:Nat->List Pc)(h1:∀r∈N,Rk r)(hN:N.length<=1000000)(hE:E.length<=1000000)(hn:n<=1000000)(hP:∀i,i<n->(P i).length<=1000000):
  aa Tryz.prog G 25 [jQ N E n P,jQ N E n P] (.sb true):=by
 have k1:=RZ (G:=G) N h1 hN;refine aa.af ak Tryz.func25 rfl rfl _ rfl ?_;(conv=>whnf);repeat' ((first|(exact absurd trivial h)|(exfalso;omega)|(exact Bool.noConfusion h)|refine st ?_|(refine⟨fun h=>?_,fun h=>?_⟩<;>try simp only[ae] at h)|(refine .inl ?_;(conv=>whnf);refine⟨_,k1,?_⟩)|refine wf ?_|refine ao ?_|refine nn ?_|fail)<;>conv=>whnf)
 refine ah (fun i:Nat=>i<=E.length) (fun i=>[(5,.int .i64 (i:Int))]) (fun _=>[.box 39 [dM N,qg E,.sl n 1 fun i=>[jt (P i)]],.box 39 [dM N,qg E,.sl n 1 fun i=>[jt (P i)]]]) (fun i=>E.length-i) 0 (Nat.zero_le _) ?_ ?_
 ·conv=>whnf
  repeat (first|exact fa|((first|refine fb ?_|(refine And.intro ?_ ?_;rotate_left));conv=>whnf))
 ·intro i hi;have hi:i<=E.length:=hi;rcases Nat.lt_or_ge i E.length with bT|bT
  ·(conv=>whnf);repeat' ((first|(exact absurd trivial h)|(exfalso;omega)|((exfalso;clear k1;simp at h;done))|refine st ?_|(refine⟨fun h=>?_,fun h=>?_⟩<;>try simp only[ae] at h)|refine wf ?_|refine ao ?_|refine nn ?_|fail)<;>conv=>whnf)
   refine⟨i+1,bT,(by show E.length-(i+1)<E.length-i;omega),?_⟩;exact ff
  ·(conv=>whnf);repeat' ((first|(exact absurd trivial h)|(exfalso;omega)|refine st ?_|(refine⟨fun h=>?_,fun h=>?_⟩<;>try simp only[ae] at h)|refine wf ?_|refine ao ?_|refine nn ?_|fail)<;>conv=>whnf)
   refine ah (fun i:Nat=>i<=n) (fun i=>[(6,.int .i64 (i:Int)),(7,.aj)]) (fun _=>[.box 39 [dM N,qg E,.sl n 1 fun i=>[jt (P i)]],.box 39 [dM N,qg E,.sl n 1 fun i=>[jt (P i)]]]) (fun i=>n-i) 0 (Nat.zero_le _) ?_ ?_
   ·conv=>whnf
    repeat (first|exact fa|((first|refine fb ?_|(refine And.intro ?_ ?_;rotate_left));conv=>whnf))
   ·intro i dH;have dH:i<=n:=dH;rcases Nat.lt_or_ge i n with pL|pL
    ·have e0:(i:Int).toNat=i:=Int.toNat_natCast i;have hPi:=hP i pL;(conv=>whnf);repeat' ((first|(exact absurd trivial h)|(exfalso;omega)|refine st ?_|(refine⟨fun h=>?_,fun h=>?_⟩<;>try simp only[ae] at h)|refine wf ?_|refine ao ?_|refine nn ?_|fail)<;>conv=>whnf)
     refine ah (fun k:Nat=>k<=(P i).length) (fun k=>[(7,.int .i64 (k:Int))]) (fun _=>[.box 39 [dM N,qg E,.sl n 1 fun i=>[jt (P i)]],.box 39 [dM N,qg E,.sl n 1 fun i=>[jt (P i)]]]) (fun k=>(P i).length-k) 0 (Nat.zero_le _) ?_ ?_
     ·conv=>whnf
      repeat (first|exact fa|((first|refine fb ?_|(refine And.intro ?_ ?_;rotate_left));conv=>whnf))
     ·intro k hk;have hk:k<=(P i).length:=hk;rcases Nat.lt_or_ge k (P i).length with gF|gF
      ·have s9:(k:Int)<(P (i:Int).toNat).length:=by rw[e0];omega
       (conv=>whnf);repeat' ((first|(exact absurd trivial h)|(exfalso;omega)|((exfalso;clear k1;simp at h;done))|refine st ?_|(refine⟨fun h=>?_,fun h=>?_⟩<;>try simp only[ae] at h)|refine wf ?_|refine ao ?_|refine nn ?_|fail)<;>conv=>whnf)
       refine⟨k+1,gF,(by show(P i).length-(k+1)<(P i).length-k;omega),?_⟩;exact ff
      ·have s9:¬(k:Int)<(P (i:Int).toNat).length:=by rw[e0];omega
       (conv=>whnf);repeat' ((first|(exact absurd trivial h)|(exfalso;omega)|refine st ?_|(refine⟨fun h=>?_,fun h=>?_⟩<;>try simp only[ae] at h)|refine wf ?_|refine ao ?_|refine nn ?_|fail)<;>conv=>whnf)
       refine⟨i+1,pL,(by show n-(i+1)<n-i;omega),?_⟩;exact ff
    ·(conv=>whnf);repeat' ((first|(exact absurd trivial h)|(exfalso;omega)|refine st ?_|(refine⟨fun h=>?_,fun h=>?_⟩<;>try simp only[ae] at h)|refine wf ?_|refine ao ?_|refine nn ?_|fail)<;>conv=>whnf)
theorem JY:aa Tryz.prog G 25 [.agg [.aC,.aC,.aC],.agg [.aC,.aC,.aC]] (.sb true):=by
 have k:aa Tryz.prog G 59 [.aC,.aC] (.sb true):=by
  refine aa.af ak Tryz.func59 rfl rfl _ rfl ?_;(conv=>whnf);repeat' ((first|(exact absurd trivial h)|(exact absurd h (by decide))|refine st ?_|(refine⟨fun h=>?_,fun h=>?_⟩<;>try simp only[ae] at h)|refine wf ?_|refine ao ?_|refine nn ?_|fail)<;>conv=>whnf)
  refine ah (fun i:Nat=>True) (fun i=>[(5,.int .i64 0)]) (fun _=>[]) (fun i=>0) 0 trivial ?_ ?_
  ·conv=>whnf
   repeat (first|exact fa|((first|refine fb ?_|(refine And.intro ?_ ?_;rotate_left));conv=>whnf))
  ·intro i _;(conv=>whnf);repeat' ((first|(exact absurd trivial h)|(exact absurd h (by decide))|refine st ?_|(refine⟨fun h=>?_,fun h=>?_⟩<;>try simp only[ae] at h)|refine wf ?_|refine ao ?_|refine nn ?_|fail)<;>conv=>whnf)
 refine aa.af ak Tryz.func25 rfl rfl _ rfl ?_;(conv=>whnf);repeat' ((first|(exact absurd trivial h)|(exact absurd h (by decide))|(exact Bool.noConfusion h)|refine st ?_|(refine⟨fun h=>?_,fun h=>?_⟩<;>try simp only[ae] at h)|(refine .inl ?_;(conv=>whnf);refine⟨_,k,?_⟩)|refine wf ?_|refine ao ?_|refine nn ?_|fail)<;>conv=>whnf)
 refine ah (fun i:Nat=>True) (fun i=>[(5,.int .i64 0)]) (fun _=>[.box 39 [.aC,.aC,.aC],.box 39 [.aC,.aC,.aC]]) (fun i=>0) 0 trivial ?_ ?_
 ·conv=>whnf
  repeat (first|exact fa|((first|refine fb ?_|(refine And.intro ?_ ?_;rotate_left));conv=>whnf))
 ·intro i _;(conv=>whnf);repeat' ((first|(exact absurd trivial h)|(exact absurd h (by decide))|refine st ?_|(refine⟨fun h=>?_,fun h=>?_⟩<;>try simp only[ae] at h)|refine wf ?_|refine ao ?_|refine nn ?_|fail)<;>conv=>whnf)
  refine ah (fun i:Nat=>True) (fun i=>[(6,.int .i64 0)]) (fun _=>[.box 39 [.aC,.aC,.aC],.box 39 [.aC,.aC,.aC]]) (fun i=>0) 0 trivial ?_ ?_
  ·conv=>whnf
   repeat (first|exact fa|((first|refine fb ?_|(refine And.intro ?_ ?_;rotate_left));conv=>whnf))
  ·intro i _;(conv=>whnf);repeat' ((first|(exact absurd trivial h)|(exact absurd h (by decide))|refine st ?_|(refine⟨fun h=>?_,fun h=>?_⟩<;>try simp only[ae] at h)|refine wf ?_|refine ao ?_|refine nn ?_|fail)<;>conv=>whnf)
end Go.Proofs.YtijddijloelacaaGreat
namespace Go.Proofs.YtijddijloelacaaGreat
open Go.Proofs.YtijddijloelacaaGreat.Am Go.Sort Go.Proofs
variable [Inhabited cF]
variable {G:aK}
def Zs(l:List Rd):Nat->Nat
 | 0=>0
 | k+1=>Zs l k+(l.getD k default).nj.length
def qi(l:List Rd):Prop:=l.length<=210/\(∀i,i<l.length->Ta (l.getD i default))/\Zs l l.length<=900
instance (r:Rd):Decidable (Ta r):=inferInstanceAs (Decidable (_/\_))
instance (l:List Rd):Decidable (qi l):=inferInstanceAs (Decidable (_/\(∀ i,i < l.length->Ta (l.getD i default))/\_))
theorem OT{l:List Rd}:∀k,(∀i,i<k->Ta (l.getD i default))->Zs l k<=110*k
 | 0,_=>Nat.le_refl _
 | k+1,h=>by
  have:=OT k (fun i hi=>h i (by omega));have:=(h k (by omega)).1;rw[Zs];omega
theorem DZ{l:List Rd}(h:qi l):Lt l:=⟨by have:=h.1;omega,h.2.1⟩
theorem Ic(l:List Rd):aa Tryz.prog G 56 [jC l] (.sb (decide (qi l))):=by
 refine aa.af ak Tryz.func56 rfl rfl _ rfl ?_;(conv=>whnf);repeat' ((first|refine st ?_|(refine⟨fun h=>?_,fun h=>?_⟩<;>try simp only[ae] at h)|refine wf ?_|refine ao ?_|refine nn ?_|fail)<;>conv=>whnf)
 refine ah (fun i:Nat=>i<=l.length/\i<=211/\∀k,k<i->Ta (l.getD k default)) (fun i=>[(4,.int .i64 (i:Int)),(3,.int .i64 (Zs l i:Nat))]) (fun _=>[]) (fun i=>l.length-i) 0 ⟨by omega,by omega,fun k hk=>by omega⟩ ?_ ?_
 ·exact ff
 ·rintro i ⟨hi,dH,he⟩;have hb:=OT i he;(conv=>whnf);repeat' ((first|refine st ?_|(refine⟨fun h=>?_,fun h=>?_⟩<;>try simp only[ae] at h)|refine wf ?_|refine ao ?_|refine nn ?_|fail)<;>conv=>whnf)
  all_goals (try simp only[T8] at *)
  ·exact(decide_eq_false fun hL=>by have:=(hL.2.1 i (by omega)).2;omega).symm
  ·refine⟨i+1,⟨by omega,by omega,fun k hk=>?_⟩,(by show l.length-(i+1)<l.length-i;omega),?_⟩
   ·rcases Nat.lt_or_ge k i with q|q
    ·exact he k q
    ·have:k=i:=by omega
     subst this;exact⟨by omega,by omega⟩
   ·exact ff
  ·exact(decide_eq_false fun hL=>by have:=(hL.2.1 i (by omega)).1;omega).symm
  ·exfalso;omega
  ·exact(decide_eq_false fun hL=>by have:=hL.1;omega).symm
  ·have cx:i=l.length:=by omega
   subst cx;refine decide_eq_decide.2 ⟨fun h=>⟨by omega,he,by omega⟩,fun h=>by have:=h.2.2;omega⟩
  ·exact(decide_eq_false fun hL=>by have:=hL.1;omega).symm
def OU(l:List Rd)(m:Int):Prop:=l.length<=20/\(HU l l.length:Int)<=m/\qi l
instance (l:List Rd) (m:Int):Decidable (OU l m):=inferInstanceAs (Decidable (_/\_/\_))
theorem Wj{l:List Rd}{m:Int}(h:¬qi l):decide (OU l m)=false:=decide_eq_false fun q=>h q.2.2
theorem OV(l:List Rd)(m:Int)(hL:¬qi l):aa Tryz.prog G 19 [jC l,.int .i64 m] (.sb false):=by
 have h1:=Ic (G:=G) l;rw[decide_eq_false hL] at h1;refine aa.af ak Tryz.func19 rfl rfl _ rfl ?_;(conv=>whnf);repeat' ((first|refine st ?_|(refine⟨fun h=>?_,fun h=>?_⟩<;>try simp only[ae] at h)|refine wf ?_|refine ao ?_|refine nn ?_|fail)<;>conv=>whnf)
 refine ah (fun x:Nat×Int=>x.1<=l.length/\x.1<=21) (fun x=>match x with|(i,n)=>[(6,.int .i64 (i:Int)),(5,.int .i64 n)]) (fun _=>[]) (fun x=>l.length-x.1) (0,0) ⟨Nat.zero_le _,by omega⟩ ?_ ?_
 ·exact ff
 ·rintro⟨i,n⟩ ⟨hi,dH⟩;have hi:i<=l.length:=hi;have dH:i<=21:=dH;(conv=>whnf);repeat' ((first|(exfalso;omega)|refine st ?_|(refine⟨fun h=>?_,fun h=>?_⟩<;>try simp only[ae] at h)|(refine .inl ?_;(conv=>whnf);refine⟨_,h1,?_⟩)|refine wf ?_|refine ao ?_|refine nn ?_|fail)<;>conv=>whnf)
  all_goals first
   | rfl
   | (refine ⟨(i + 1, IntKind.i64.wrap (n + (((l.getD i default).ws.length : Nat) : Int))), ⟨by show i + 1 ≤ l.length; omega, by show i + 1 ≤ 21; omega⟩, (by show l.length - (i + 1) < l.length - i; omega), ?_⟩
      conv=>whnf
      repeat (first|exact fa|((first|refine fb ?_|(refine And.intro ?_ ?_;rotate_left));conv=>whnf)))
  
theorem Zt(l:List Rd)(m:Int):aa Tryz.prog G 19 [jC l,.int .i64 m] (.sb (decide (OU l m))):=by
 by_cases hL:qi l
 ·have h1:=Ic (G:=G) l;rw[decide_eq_true hL] at h1;have aH:=DZ hL;refine aa.af ak Tryz.func19 rfl rfl _ rfl ?_;(conv=>whnf);repeat' ((first|refine st ?_|(refine⟨fun h=>?_,fun h=>?_⟩<;>try simp only[ae] at h)|refine wf ?_|refine ao ?_|refine nn ?_|fail)<;>conv=>whnf)
  refine ah (fun i:Nat=>i<=l.length/\i<=21) (fun i=>[(6,.int .i64 (i:Int)),(5,.int .i64 (HU l i:Nat))]) (fun _=>[]) (fun i=>l.length-i) 0 ⟨Nat.zero_le _,by omega⟩ ?_ ?_
  ·exact ff
  ·rintro i ⟨hi,dH⟩;have hb:=sZ aH i hi;have hc:i<l.length->(l.getD (i:Int).toNat default).ws.length<=110:=fun q=>(aH.2 i q).2;(conv=>whnf);repeat' ((first|(exfalso;omega)|refine st ?_|(refine⟨fun h=>?_,fun h=>?_⟩<;>try simp only[ae] at h)|(refine .inl ?_;(conv=>whnf);refine⟨_,h1,?_⟩)|refine wf ?_|refine ao ?_|refine nn ?_|fail)<;>conv=>whnf)
   all_goals first
    | (refine ⟨i + 1, ⟨by omega, by omega⟩, (by show l.length - (i + 1) < l.length - i; omega), ?_⟩
       conv=>whnf
       repeat (first|exact fa|((first|refine fb ?_|(refine And.intro ?_ ?_;rotate_left));conv=>whnf)))
    | (have hq : i = l.length := by omega
       subst hq;unfold OU
       first
         | exact(decide_eq_true ⟨by omega,by omega,hL⟩).symm
         | exact(decide_eq_false fun q=>by have:=q.2.1;omega).symm
         | (rw[decide_eq_decide];constructor<;>intro q<;>first|exact⟨by omega,by omega,hL⟩|exact q.2.1|exact⟨q.1,q.2.1⟩|omega))
    | exact(decide_eq_false fun q=>by have:=q.1;omega).symm
   
 ·rw[Wj hL];exact OV l m hL
end Go.Proofs.YtijddijloelacaaGreat
namespace Go.Proofs.YtijddijloelacaaGreat
open Go.Proofs.YtijddijloelacaaGreat.Am Go.Sort Go.Proofs Go.Lib Go.NetL
variable [Inhabited cF]
variable {G:aK}
theorem R0(l:List Rd)(hl:Lt l)(hne:gx l≠0):aa Tryz.prog G 15 [jC l] (.tup [.agg [.aC,.aC,.aC],.int .i64 (gx l)]):=by
 have h1:=FR (G:=G) l hl hne;generalize gx l=e at *;refine aa.af ak Tryz.func15 rfl rfl _ rfl ?_;(conv=>whnf);repeat' ((first|(exact absurd h hne)|refine st ?_|(refine⟨fun h=>?_,fun h=>?_⟩<;>try simp only[ae] at h)|(refine .inl ?_;(conv=>whnf);refine⟨_,h1,?_⟩)|refine wf ?_|refine ao ?_|refine nn ?_|fail)<;>conv=>whnf)
def rdE1:Rd:=⟨1,[⟨0,0⟩,⟨2,2⟩],[5],false⟩
def rdE2:Rd:=⟨2,[⟨0,2⟩,⟨2,0⟩],[8],true⟩
def F5:List Rd:=[rdE1,rdE2]
theorem OW:gx F5=0:=by decide
theorem Zu:Lt F5:=⟨by decide,by decide⟩
theorem ex_N:(dq (ju (JI F5))).length=5:=of_decide_eq_true (by kernel_rfl)
theorem ex_E:(gb (JI F5)).length=4:=of_decide_eq_true (by kernel_rfl)
theorem Wk:(JI F5).length=2:=of_decide_eq_true (by kernel_rfl)
/-- A region in three parts; in between rows of ours become values. -/
theorem F6{P:Program}{tt:TT}{s:List A}{m:List ar}{Q:Exit->List A->List ar->Prop}(aN:bM P tt){id:Nat}{l:List Oper}(n k:Nat)(bs bs':List Nat)
  (h:nM P G tt l (l.take n) s m fun s m=>oK bs s m fun s m=>nM P G tt l ((l.drop n).take k) s m fun s m=>oK bs' s m fun s m=>nM P G tt l ((l.drop n).drop k) s m (Q .normal)):WA P G (.region id l.toArray false) Q s m:=by
 unfold WA;intro c a w ids hG hs;refine wp_region_lit ?_
 have:=qR (Q:=fun e a w=>∃s m ids,Q e s m/\aJ c s m a w ids) aN hG (l.drop n) (fun s m a w ids hq hs=>by
  obtain⟨s',m',ab,h',bY⟩:=gl bs hs hq
  have t:=qR (Q:=fun e a w=>∃s m ids,Q e s m/\aJ c s m a w ids) aN hG ((l.drop n).drop k) (fun s m a w ids hq hs=>by
   obtain⟨s',m',ab,h',bY⟩:=gl bs' hs hq;exact mO aN hG (fun s m a w ids hq hs=>⟨s,m,ids,hq,hs⟩) ((l.drop n).drop k) s' m' a w ab bY h') ((l.drop n).take k) s' m' a w ab bY h'
  rwa [List.take_append_drop] at t) (l.take n) s m a w ids hs h
 rwa [List.take_append_drop] at this
theorem OX(N:List RS)(E:List Ed)(P:Nat->List Pc)(e1:N.length=5)(e2:E.length=4)
  (h1:aa Tryz.prog G 15 [jC F5] (.tup [jQ N E 2 P,.int .i64 0])) (h2:aa Tryz.prog G 27 [jQ N E 2 P] (.sb true)):aa Tryz.prog G 20 [] (.sb true):=by
 unfold jQ dM qg at h1 h2;rw[e1,e2] at h1 h2;refine aa.af ak Tryz.func20 rfl rfl _ rfl ?_;(conv=>whnf)
 iterate 3 (first|(refine st ?_;conv=>whnf))
 refine F6 ak 4 5 [0,1] [2,3] ?_;(conv=>whnf);refine Or.inr (Or.inr (Or.inl ?_));(conv=>whnf);refine⟨_,aa.fit h1 ?_,?_⟩
 ·(conv=>whnf);refine⟨rfl,?_⟩;(conv=>whnf);refine Or.inr fun i hi=>?_
  match i,hi with
  | 0,_ =>
   (conv=>whnf);refine⟨rfl,?_⟩;(conv=>whnf);refine⟨rfl,?_⟩;(conv=>whnf);refine⟨Or.inl fun i hi=>?_,?_⟩
   ·match i,hi with
    | 0,_=>rfl
    | 1,_=>rfl
   ·(conv=>whnf);refine⟨rfl,?_⟩;(conv=>whnf);refine⟨Or.inl fun i hi=>?_,?_⟩
    ·match i,hi with
     | 0,_=>rfl
    ·conv=>whnf
     first|done|rfl
  | 1,_ =>
   (conv=>whnf);refine⟨rfl,?_⟩;(conv=>whnf);refine⟨rfl,?_⟩;(conv=>whnf);refine⟨Or.inl fun i hi=>?_,?_⟩
   ·match i,hi with
    | 0,_=>rfl
    | 1,_=>rfl
   ·(conv=>whnf);refine⟨rfl,?_⟩;(conv=>whnf);refine⟨Or.inl fun i hi=>?_,?_⟩
    ·match i,hi with
     | 0,_=>rfl
    ·conv=>whnf
     first|done|rfl
 ·(conv=>whnf);repeat' ((first|(exact absurd trivial h)|(contradiction)|refine st ?_|(refine⟨fun h=>?_,fun h=>?_⟩<;>try simp only[ae] at h)|(refine .inl ?_;(conv=>whnf);refine⟨_,h2,?_⟩)|refine wf ?_|refine ao ?_|refine nn ?_|fail)<;>conv=>whnf)
  all_goals first|rfl
theorem Sa(l:List Rd)(N:List RS)(E:List Ed)(n:Nat)(P:Nat->List Pc)(hN:N.length<=1000000)(hE:E.length<=1000000)
  (WN:aa Tryz.prog G 20 [] (.sb true)) (F7:aa Tryz.prog G 19 [jC l,.int .i64 24] (.sb true))
  (OY:aa Tryz.prog G 12 [jC l] (.int .i64 0)) (hOf:aa Tryz.prog G 15 [jC l] (.tup [jQ N E n P,.int .i64 0]))
  (hRef:aa Tryz.prog G 26 [jC l] (jQ N E n P)) (Zv:aa Tryz.prog G 25 [jQ N E n P,jQ N E n P] (.sb true))
  (hMay:aa Tryz.prog G 27 [jQ N E n P] (.sb true))
  (Zw:∀t,t<N.length->aa Tryz.prog G 28 [jQ N E n P,.agg (fJ (N.getD t default))] (.tup [.int .i64 (t:Int),.sb true]))
  (Zx:∀t,t<E.length->aa Tryz.prog G 29 [jQ N E n P,.int .i64 (E.getD t default).b,.int .i64 (E.getD t default).a] (.tup [.int .i64 (t:Int),.sb true])) :
  aa Tryz.prog G 6 [jC l] (.sb true):=by
 unfold jQ dM qg fJ dX at *;refine aa.af ak Tryz.func6 rfl rfl _ rfl ?_;(conv=>whnf);repeat' ((first|(exact absurd trivial h)|(exfalso;omega)|(exact Bool.noConfusion h)|refine st ?_|(refine⟨fun h=>?_,fun h=>?_⟩<;>try simp only[ae] at h)|(refine .inl ?_;(conv=>whnf);(first|refine⟨_,F7,?_⟩|refine⟨_,hOf,?_⟩|refine⟨_,OY,?_⟩|refine⟨_,hRef,?_⟩|refine⟨_,Zv,?_⟩|refine⟨_,hMay,?_⟩))|refine wf ?_|refine ao ?_|refine nn ?_|fail)<;>conv=>whnf)
 refine' H8 (fun rest=>?main) ?prf
 case main =>
  refine ah (fun i:Nat=>i<=N.length) (fun i=>[(5,.int .i64 (i:Int)),(6,.aj),(7,.aj)]) (fun _=>[.box 39 [.sl N.length 26 fun i=>(fun r:RS=>[.sb r.p,.int .u64 ((wW r.x 0:Nat):Int),.int .u64 ((wW r.x 1:Nat):Int),.int .u64 ((wW r.x 2:Nat):Int),.int .u64 ((wW r.x 3:Nat):Int),.int .u64 ((wW r.x 4:Nat):Int),.int .u64 ((wW r.x 5:Nat):Int),.int .u64 ((wW r.x 6:Nat):Int),.int .u64 ((wW r.x 7:Nat):Int),.sb r.q,.int .u64 ((wW r.y 0:Nat):Int),.int .u64 ((wW r.y 1:Nat):Int),.int .u64 ((wW r.y 2:Nat):Int),.int .u64 ((wW r.y 3:Nat):Int),.int .u64 ((wW r.y 4:Nat):Int),.int .u64 ((wW r.y 5:Nat):Int),.int .u64 ((wW r.y 6:Nat):Int),.int .u64 ((wW r.y 7:Nat):Int),.int .u64 ((wW r.w 0:Nat):Int),.int .u64 ((wW r.w 1:Nat):Int),.int .u64 ((wW r.w 2:Nat):Int),.int .u64 ((wW r.w 3:Nat):Int),.int .u64 ((wW r.w 4:Nat):Int),.int .u64 ((wW r.w 5:Nat):Int),.int .u64 ((wW r.w 6:Nat):Int),.int .u64 ((wW r.w 7:Nat):Int)]) (N.getD i default),.sl E.length 5 fun i=>fX (E.getD i default),.sl n 1 fun i=>[jt (P i)]]]) (fun i=>N.length-i) 0 (Nat.zero_le _) ?_ ?_
  ·exact ff
  ·intro i hi;have hi:i<=N.length:=hi;rcases Nat.lt_or_ge i N.length with bT|bT
   ·have k:=Zw i bT;(conv=>whnf);repeat' (first|(exact absurd trivial h)|((exfalso;omega))|(exact Bool.noConfusion h)|((refine atR 14 ?_;refine zZ (id:=14) [(5,.aj),(6,.aj),(7,.aj),(49,.aj),(50,.aj),(51,.aj),(52,.aj),(53,.aj),(54,.aj),(55,.aj),(56,.aj),(57,.aj)] [.box 39 [.sl N.length 26 fun i=>(fun r:RS=>[.sb r.p,.int .u64 ((wW r.x 0:Nat):Int),.int .u64 ((wW r.x 1:Nat):Int),.int .u64 ((wW r.x 2:Nat):Int),.int .u64 ((wW r.x 3:Nat):Int),.int .u64 ((wW r.x 4:Nat):Int),.int .u64 ((wW r.x 5:Nat):Int),.int .u64 ((wW r.x 6:Nat):Int),.int .u64 ((wW r.x 7:Nat):Int),.sb r.q,.int .u64 ((wW r.y 0:Nat):Int),.int .u64 ((wW r.y 1:Nat):Int),.int .u64 ((wW r.y 2:Nat):Int),.int .u64 ((wW r.y 3:Nat):Int),.int .u64 ((wW r.y 4:Nat):Int),.int .u64 ((wW r.y 5:Nat):Int),.int .u64 ((wW r.y 6:Nat):Int),.int .u64 ((wW r.y 7:Nat):Int),.int .u64 ((wW r.w 0:Nat):Int),.int .u64 ((wW r.w 1:Nat):Int),.int .u64 ((wW r.w 2:Nat):Int),.int .u64 ((wW r.w 3:Nat):Int),.int .u64 ((wW r.w 4:Nat):Int),.int .u64 ((wW r.w 5:Nat):Int),.int .u64 ((wW r.w 6:Nat):Int),.int .u64 ((wW r.w 7:Nat):Int)]) (N.getD i default),.sl E.length 5 fun i=>fX (E.getD i default),.sl n 1 fun i=>[jt (P i)]]] ?_ ?_;rotate_left;(conv=>whnf);exact rest.out;(conv=>whnf);repeat (first|exact fa|((first|refine fb ?_|(refine And.intro ?_ ?_;rotate_left));conv=>whnf))))|(refine st ?_;conv=>whnf)|(refine⟨fun h=>?_,fun h=>?_⟩<;>(try simp only[ae] at h)<;>conv=>whnf)|(refine .inl ?_;(conv=>whnf);refine⟨_,k,?_⟩;conv=>whnf)|((first|refine wf ?_|refine ao ?_|refine nn ?_|fail);conv=>whnf))
    ·refine⟨i+1,bT,(by show N.length-(i+1)<N.length-i;omega),?_⟩;exact ff
   ·(conv=>whnf);repeat' (first|(exact absurd trivial h)|((exfalso;omega))|(exact Bool.noConfusion h)|((refine atR 14 ?_;refine zZ (id:=14) [(5,.aj),(6,.aj),(7,.aj),(49,.aj),(50,.aj),(51,.aj),(52,.aj),(53,.aj),(54,.aj),(55,.aj),(56,.aj),(57,.aj)] [.box 39 [.sl N.length 26 fun i=>(fun r:RS=>[.sb r.p,.int .u64 ((wW r.x 0:Nat):Int),.int .u64 ((wW r.x 1:Nat):Int),.int .u64 ((wW r.x 2:Nat):Int),.int .u64 ((wW r.x 3:Nat):Int),.int .u64 ((wW r.x 4:Nat):Int),.int .u64 ((wW r.x 5:Nat):Int),.int .u64 ((wW r.x 6:Nat):Int),.int .u64 ((wW r.x 7:Nat):Int),.sb r.q,.int .u64 ((wW r.y 0:Nat):Int),.int .u64 ((wW r.y 1:Nat):Int),.int .u64 ((wW r.y 2:Nat):Int),.int .u64 ((wW r.y 3:Nat):Int),.int .u64 ((wW r.y 4:Nat):Int),.int .u64 ((wW r.y 5:Nat):Int),.int .u64 ((wW r.y 6:Nat):Int),.int .u64 ((wW r.y 7:Nat):Int),.int .u64 ((wW r.w 0:Nat):Int),.int .u64 ((wW r.w 1:Nat):Int),.int .u64 ((wW r.w 2:Nat):Int),.int .u64 ((wW r.w 3:Nat):Int),.int .u64 ((wW r.w 4:Nat):Int),.int .u64 ((wW r.w 5:Nat):Int),.int .u64 ((wW r.w 6:Nat):Int),.int .u64 ((wW r.w 7:Nat):Int)]) (N.getD i default),.sl E.length 5 fun i=>fX (E.getD i default),.sl n 1 fun i=>[jt (P i)]]] ?_ ?_;rotate_left;(conv=>whnf);exact rest.out;(conv=>whnf);repeat (first|exact fa|((first|refine fb ?_|(refine And.intro ?_ ?_;rotate_left));conv=>whnf))))|(refine st ?_;conv=>whnf)|(refine⟨fun h=>?_,fun h=>?_⟩<;>(try simp only[ae] at h)<;>conv=>whnf)|((first|refine wf ?_|refine ao ?_|refine nn ?_|fail);conv=>whnf))
 case prf =>
  repeat' ((first|refine st ?_|(refine⟨fun h=>?_,fun h=>?_⟩<;>try simp only[ae] at h)|refine wf ?_|refine ao ?_|refine nn ?_|fail)<;>conv=>whnf)
  refine ah (fun i:Nat=>i<=E.length) (fun i=>[(8,.int .i64 (i:Int)),(9,.aj),(10,.aj)]) (fun _=>[.box 39 [.sl N.length 26 fun i=>(fun r:RS=>[.sb r.p,.int .u64 ((wW r.x 0:Nat):Int),.int .u64 ((wW r.x 1:Nat):Int),.int .u64 ((wW r.x 2:Nat):Int),.int .u64 ((wW r.x 3:Nat):Int),.int .u64 ((wW r.x 4:Nat):Int),.int .u64 ((wW r.x 5:Nat):Int),.int .u64 ((wW r.x 6:Nat):Int),.int .u64 ((wW r.x 7:Nat):Int),.sb r.q,.int .u64 ((wW r.y 0:Nat):Int),.int .u64 ((wW r.y 1:Nat):Int),.int .u64 ((wW r.y 2:Nat):Int),.int .u64 ((wW r.y 3:Nat):Int),.int .u64 ((wW r.y 4:Nat):Int),.int .u64 ((wW r.y 5:Nat):Int),.int .u64 ((wW r.y 6:Nat):Int),.int .u64 ((wW r.y 7:Nat):Int),.int .u64 ((wW r.w 0:Nat):Int),.int .u64 ((wW r.w 1:Nat):Int),.int .u64 ((wW r.w 2:Nat):Int),.int .u64 ((wW r.w 3:Nat):Int),.int .u64 ((wW r.w 4:Nat):Int),.int .u64 ((wW r.w 5:Nat):Int),.int .u64 ((wW r.w 6:Nat):Int),.int .u64 ((wW r.w 7:Nat):Int)]) (N.getD i default),.sl E.length 5 fun i=>fX (E.getD i default),.sl n 1 fun i=>[jt (P i)]]]) (fun i=>E.length-i) 0 (Nat.zero_le _) ?_ ?_
  ·exact ff
  ·intro i hi;have hi:i<=E.length:=hi;rcases Nat.lt_or_ge i E.length with bT|bT
   ·have k:=Zx i bT;(conv=>whnf);repeat' ((first|(exact absurd trivial h)|(exfalso;omega)|(exact Bool.noConfusion h)|refine st ?_|(refine⟨fun h=>?_,fun h=>?_⟩<;>try simp only[ae] at h)|(refine .inl ?_;(conv=>whnf);(first|refine⟨_,k,?_⟩|refine⟨_,WN,?_⟩))|refine wf ?_|refine ao ?_|refine nn ?_|fail)<;>conv=>whnf)
    ·refine⟨i+1,bT,(by show E.length-(i+1)<E.length-i;omega),?_⟩;exact ff
   ·(conv=>whnf);repeat' ((first|(exact absurd trivial h)|(exfalso;omega)|(exact Bool.noConfusion h)|refine st ?_|(refine⟨fun h=>?_,fun h=>?_⟩<;>try simp only[ae] at h)|(refine .inl ?_;(conv=>whnf);refine⟨_,WN,?_⟩)|refine wf ?_|refine ao ?_|refine nn ?_|fail)<;>conv=>whnf)
theorem JZ(S:List Sp):∀i,i<S.length->Kd S->S.length<=900->∀p∈rK S i,JV (gb S).length p:=by
 intro i hi h hn p hp;unfold rK at hp;obtain⟨r,hr,rfl⟩:=List.mem_map.1 hp;have hk:=(pd S r.lo r.hi).1 (xj hi hr);have ho:=A7 h hn hi r hr;refine⟨?_,ho.2.2.2.2.2.1,ho.2.2.2.2.2.2⟩;have:=List.idxOf_lt_length_of_mem (show[KC.int r.lo,.int r.hi]∈(kz S).map kP from List.mem_map.2 ⟨_,hk,rfl⟩);rw[List.length_map,tc] at this;exact this
theorem xl(S:List Sp)(hn:S.length<=50):(gb S).length<=5100:=by rw[<-tc];exact A8 S hn
theorem td{S:List Sp}(h:Kd S)(hn:S.length<=50):(dq (ju S)).length<=5100:=by
 have:=xh (lA h);rw[eR] at this;exact Nat.le_trans this (n50 hn)
theorem yR(S:List Sp)(hn:S.length<=50)(i:Nat):(rK S i).length<=102:=by
 unfold rK;rw[List.length_map,mq];have:=rL S hn i;omega
theorem rO(S:List Sp)(h:Kd S)(hn:S.length<=50):aa Tryz.prog G 27 [JU S] (.sb true) :=
 RY _ _ _ _ (yP (lA h)) (o7 (lA h)) (Nat.le_trans (td h hn) (by decide)) (Nat.le_trans (xl S hn) (by decide)) (by omega) (o9 S) (yQ h (by omega))
  (fun i hi=>JZ S i hi h (by omega)) (fun i _=>Nat.le_trans (yR S hn i) (by decide))
theorem J0(S:List Sp)(h:Kd S)(hn:S.length<=50):aa Tryz.prog G 25 [JU S,JU S] (.sb true) :=
 JX _ _ _ _ (fun r hr=>Sm.rk (o7 (lA h) r hr).1) (Nat.le_trans (td h hn) (by decide)) (Nat.le_trans (xl S hn) (by decide)) (by omega) (fun i _=>Nat.le_trans (yR S hn i) (by decide))
theorem OZ(dS:(default:cF).ns):aa Tryz.prog G 20 [] (.sb true):=by
 have h1:=ON (G:=G) dS F5 Zu OW (by rw[Wk];decide);have h2:=rO (G:=G) _ (A6 OW) (by rw[Wk];decide);unfold JU at h1 h2;rw[Wk] at h1 h2;exact OX _ _ _ ex_N ex_E h1 h2
theorem Qc(dS:(default:cF).ns)(l:List Rd):aa Tryz.prog G 6 [jC l] (.sb true):=by
 have WN:=OZ (G:=G) dS;have F7:=Zt (G:=G) l 24;by_cases hf:OU l 24
 ·rw[decide_eq_true hf] at F7;have aH:=DZ hf.2.2;have OY:=Vq (G:=G) l aH;by_cases h0:gx l=0
  ·rw[h0] at OY;have hn:(JI l).length<=50:=by rw[rG];have:=hf.2.1;omega
   have hS:=A6 h0;have hN:=Nat.le_trans (td hS hn) (by decide:5100<=1000000);have hE:=Nat.le_trans (xl _ hn) (by decide:5100<=1000000)
   exact Sa l _ _ _ _ hN hE WN F7 OY (ON dS l aH h0 hn) (RV l aH h0 hn) (J0 _ hS hn) (rO _ hS hn)
    (fun t ht=>Wf _ _ _ _ (rO _ hS hn) (yP (lA hS)) (o7 (lA hS)) hN t ht)
    (fun t ht=>Wh _ _ _ _ (rO _ hS hn) (o9 _) (yQ hS (by omega)) hE t ht)
  ·have hOf:=R0 (G:=G) l aH h0;have hS:=JY (G:=G);generalize gx l=e at *;refine aa.af ak Tryz.func6 rfl rfl _ rfl ?_;(conv=>whnf);repeat' ((first|(exact absurd trivial h)|(exact absurd h h0)|(exact Bool.noConfusion h)|refine st ?_|(refine⟨fun h=>?_,fun h=>?_⟩<;>try simp only[ae] at h)|(refine .inl ?_;(conv=>whnf);(first|refine⟨_,F7,?_⟩|refine⟨_,hOf,?_⟩|refine⟨_,OY,?_⟩|refine⟨_,hS,?_⟩|refine⟨_,WN,?_⟩))|refine wf ?_|refine ao ?_|refine nn ?_|fail)<;>conv=>whnf)
   all_goals first|rfl
 ·rw[decide_eq_false hf] at F7;refine aa.af ak Tryz.func6 rfl rfl _ rfl ?_;(conv=>whnf);repeat' ((first|(exact Bool.noConfusion h)|refine st ?_|(refine⟨fun h=>?_,fun h=>?_⟩<;>try simp only[ae] at h)|(refine .inl ?_;(conv=>whnf);(first|refine⟨_,F7,?_⟩|refine⟨_,WN,?_⟩))|refine wf ?_|refine ao ?_|refine nn ?_|fail)<;>conv=>whnf)
end Go.Proofs.YtijddijloelacaaGreat

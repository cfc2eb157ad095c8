/-
  The walks and plain laws, part 3.
-/
import Derived.Test.YtijddijloelacaaGreatNetOf2
import Derived.Test.YtijddijloelacaaGreatAm3
import Derived.Shelf.Spec.BitsCarry
import Derived.WalkKit
import Derived.Lib.Walk
import Derived.Shelf.SlLaysE
import Derived.Shelf.SlicesE.Kit
import Derived.Shelf.SlicesE.Equal
import Derived.Shelf.SlicesQ.Load
import Derived.Shelf.SlicesQ.Reverse
import Derived.Shelf.GgSortFunc.RowK
import Derived.Shelf.RegionOpenPlain
import Derived.Deep.LoopGhost
import Derived.Deep.Draws
import Derived.Sort.WalkB12
import Derived.Lib.SliceRun
import Derived.Lib.SlicesCompact
import Derived.Test.YtijddijloelacaaGreatAm1
set_option linter.unusedSimpArgs false
set_option linter.unusedSectionVars false
set_option linter.unusedVariables false
set_option maxRecDepth 1000000
set_option maxHeartbeats 8000000
namespace Go.Proofs.YtijddijloelacaaGreat
open Go.Proofs.YtijddijloelacaaGreat.Am
variable [Inhabited cF]
variable {G:aK}
def dN(F:Nat->Nat)(p v:Nat):Nat->Nat:=fun j=>if j=p then v else F j
theorem Mx(F:Nat->Nat)(p v:Nat):∀n,p<n->vf (dN F p v) n+F p*65536 ^ p=vf F n+v*65536 ^ p:=by
 intro n
 induction n with
 | zero=>intro h;omega
 | succ n ih =>
  intro h;rw[vf,vf];rcases Nat.eq_or_lt_of_le (Nat.le_of_lt_succ h) with e|e
  ·subst e;have:vf (dN F p v) p=vf F p:=gu fun i hi=>by unfold dN;rw[if_neg (by omega)]
   rw[this];have:dN F p v p=v:=by unfold dN;rw[if_pos rfl]
   rw[this];omega
  ·have:=ih e;have h2:dN F p v n=F n:=by unfold dN;rw[if_neg (by omega)]
   rw[h2];omega
theorem Hq{F:Nat->Nat}(h:∀j,F j<65536)(p:Nat){v:Nat}(hv:v<65536)(j:Nat):dN F p v j<65536:=by
 unfold dN;split
 ·exact hv
 ·exact h j
def rR(x:Nat)(g:Nat->Nat)(i:Nat)(F:Nat->Nat):Nat->Nat×(Nat->Nat)
 | 0=>(0,F)
 | k+1=>(((rR x g i F k).2 (i+k)+x*g k+(rR x g i F k).1)/65536,dN (rR x g i F k).2 (i+k) (((rR x g i F k).2 (i+k)+x*g k+(rR x g i F k).1)%65536))
def np(f g:Nat->Nat)(lb:Nat):Nat->Nat->Nat
 | 0=>fun _=>0
 | i+1=>if f i=0 then np f g lb i else dN (rR (f i) g i (np f g lb i) lb).2 (i+lb) ((rR (f i) g i (np f g lb i) lb).2 (i+lb)+(rR (f i) g i (np f g lb i) lb).1)
theorem My(x:Nat)(g:Nat->Nat)(i:Nat)(F:Nat->Nat)(k:Nat):rR x g i F (k+1)=(((rR x g i F k).2 (i+k)+x*g k+(rR x g i F k).1)/65536,dN (rR x g i F k).2 (i+k) (((rR x g i F k).2 (i+k)+x*g k+(rR x g i F k).1)%65536)):=rfl
theorem Je(f g:Nat->Nat)(lb i:Nat):np f g lb (i+1)=if f i=0 then np f g lb i else dN (rR (f i) g i (np f g lb i) lb).2 (i+lb) ((rR (f i) g i (np f g lb i) lb).2 (i+lb)+(rR (f i) g i (np f g lb i) lb).1):=rfl
theorem Hr{x y:Nat}(hx:x<65536)(hy:y<65536):x*y<=4294836225:=Nat.mul_le_mul (show x<=65535 by omega) (show y<=65535 by omega)
theorem Hs{x:Nat}{g:Nat->Nat}{F:Nat->Nat}(hx:x<65536)(hg:∀j,g j<65536)(hF:∀j,F j<65536)(i k:Nat):
  (rR x g i F k).1<65536/\(∀j,(rR x g i F k).2 j<65536)/\(∀j,i+k<=j->(rR x g i F k).2 j=F j) /\
   ∀n,i+k<=n->vf (rR x g i F k).2 n+(rR x g i F k).1*65536 ^ (i+k)=vf F n+x*vf g k*65536 ^ i:=by
 induction k with
 | zero=>exact⟨Nat.zero_lt_succ _,hF,fun _ _=>rfl,fun n _=>by simp[rR,vf]⟩
 | succ k ih =>
  obtain⟨h1,h2,h3,h4⟩:=ih;rw[rR];generalize rR x g i F k=q at *;obtain⟨c,F'⟩:=q;simp only at *;have b1:=h2 (i+k);have b2:=Hr hx (hg k);have hm:=Nat.div_add_mod (F' (i+k)+x*g k+c) 65536;have qv:=Nat.mod_lt (F' (i+k)+x*g k+c) (show 65536>0 by omega);refine⟨by omega,Hq h2 _ qv,fun j hj=>?_,fun n hn=>?_⟩
  ·unfold dN;rw[if_neg (by omega)];exact h3 j (by omega)
  ·have h5:=Mx F' (i+k) ((F' (i+k)+x*g k+c)%65536) n (by omega);have h6:=h4 n (by omega);generalize (F' (i+k)+x*g k+c)/65536=d at *;generalize (F' (i+k)+x*g k+c)%65536=r at *;generalize hP:65536 ^ (i+k)=P at *;have h7:65536 ^ (i+(k+1))=P*65536:=by rw[<-hP,<-Nat.pow_succ];rfl
   have h8:(65536*d+r)*P=(F' (i+k)+x*g k+c)*P:=by rw[hm]
   have h9:x*(vf g k+g k*65536 ^ k)*65536 ^ i=x*vf g k*65536 ^ i+x*g k*P:=by
    rw[<-hP,Nat.pow_add,Nat.mul_add,Nat.add_mul]
    congr 1
    rw[<-Nat.mul_assoc,Nat.mul_assoc (x*g k),Nat.mul_comm (65536 ^ k)]
   rw[vf,h7,h9];simp only[Nat.add_mul] at h8;have h10:d*(P*65536)=65536*d*P:=by rw[Nat.mul_comm P,<-Nat.mul_assoc,Nat.mul_comm d]
   rw[h10];omega
theorem wN{f g:Nat->Nat}(hf:∀j,f j<65536)(hg:∀j,g j<65536)(lb:Nat)(i:Nat):
  (∀j,np f g lb i j<65536)/\(∀j,i+lb<=j->np f g lb i j=0)/\∀n,i+lb<=n->vf (np f g lb i) n=vf f i*vf g lb:=by
 induction i with
 | zero=>exact⟨fun _=>Nat.zero_lt_succ _,fun _ _=>rfl,fun n _=>by
   rw[vf,Nat.zero_mul]
   induction n with
   | zero=>rfl
   | succ n ih=>rw[vf];show _+0*_=0;rw[Nat.zero_mul,Nat.add_zero];exact Au (n:=0) n (fun _ _ _=>rfl) (Nat.zero_le _)⟩
 | succ i ih =>
  obtain⟨h1,h2,h3⟩:=ih;rw[np];split
  ·rename_i e;refine⟨h1,fun j hj=>h2 j (by omega),fun n hn=>?_⟩;rw[h3 n (by omega),vf,e,Nat.zero_mul,Nat.add_zero]
  ·obtain⟨q1,q2,q3,q4⟩:=Hs (hf i) hg h1 i lb;generalize rR (f i) g i (np f g lb i) lb=q at *;obtain⟨c,F⟩:=q;simp only at *;have e:F (i+lb)=0:=by rw[q3 _ (Nat.le_refl _)];exact h2 _ (Nat.le_refl _)
   rw[e,Nat.zero_add];refine⟨Hq q2 _ q1,fun j hj=>?_,fun n hn=>?_⟩
   ·unfold dN;rw[if_neg (by omega),q3 j (by omega)];exact h2 j (by omega)
   ·have h5:=Mx F (i+lb) c n (by omega);have h6:=q4 n (by omega);rw[e,Nat.zero_mul,Nat.add_zero] at h5;rw[h5,h6,h3 n (by omega),vf,Nat.add_mul,Nat.mul_assoc (f i),Nat.mul_comm (vf g lb),<-Nat.mul_assoc]
def fI(a b:List Nat):List Nat:=(List.range (a.length+b.length)).map (np (fun i=>a.getD i 0) (fun i=>b.getD i 0) b.length a.length)
theorem iQ(a b:List Nat):(fI a b).length=a.length+b.length:=by unfold fI;simp
theorem wO(a b:List Nat){i:Nat}(h:i<a.length+b.length):(fI a b).getD i 0=np (fun i=>a.getD i 0) (fun i=>b.getD i 0) b.length a.length i:=by
 unfold fI;rw[List.getD_eq_getElem?_getD,List.getElem?_map,List.getElem?_range h];rfl
theorem oS{a b:List Nat}(ha:cr a)(hb:cr b):cr (fI a b):=by
 intro x hx;unfold fI at hx;simp only[List.mem_map] at hx;obtain⟨i,_,rfl⟩:=hx;exact(wN (f:=fun i=>a.getD i 0) (g:=fun i=>b.getD i 0) (fun i=>ha.get i) (fun i=>hb.get i) _ _).1 i
theorem mW{a b:List Nat}(ha:cr a)(hb:cr b):val (fI a b)=val a*val b:=by
 rw[val,iQ,gu fun i hi=>wO a b hi];exact(wN (f:=fun i=>a.getD i 0) (g:=fun i=>b.getD i 0) (fun i=>ha.get i) (fun i=>hb.get i) _ _).2.2 _ (Nat.le_refl _)
theorem uR(a b:List Nat)(ha:cr a)(hb:cr b)(la:a.length<=1000000)(lb:b.length<=1000000):aa Tryz.prog G 129 [fS a,fS b] (fS (fI a b)):=by
 have gT:=@wO _ a b;have hlen:=iQ a b;have hinv:=wN (f:=fun i=>a.getD i 0) (g:=fun i=>b.getD i 0) (fun i=>ha.get i) (fun i=>hb.get i) b.length;have hs:=Je (fun i=>a.getD i 0) (fun i=>b.getD i 0) b.length;generalize fI a b=L at *;refine aa.af ak Tryz.func129 rfl rfl _ rfl ?_;(conv=>whnf);repeat' ((first|refine st ?_|(refine⟨fun h=>?_,fun h=>?_⟩<;>try simp only[ae] at h)|refine wf ?_|refine ao ?_|refine nn ?_|fail)<;>conv=>whnf)
 all_goals first|contradiction|(exfalso;omega)|skip
 refine ah (fun x:Nat×(Nat->Nat)=>x.1<=a.length/\x.2=np (fun i=>a.getD i 0) (fun i=>b.getD i 0) b.length x.1) (fun x=>match x with|(i,_)=>[(6,.int .i64 (i:Int)),(5,.own 0)]) (fun x=>match x with|(_,F)=>[.row 51 1 (a.length+b.length) (fun j=>[.int .u64 ((F j:Nat):Int)])]) (fun x=>a.length-x.1) (0,fun _=>0) ⟨Nat.zero_le _,rfl⟩ ?_ ?_
 ·conv=>whnf
  repeat (first|exact fa|((first|refine fb ?_|(refine And.intro ?_ ?_;rotate_left));conv=>whnf))
 ·rintro⟨i,F⟩ ⟨hi,hF⟩;have hi:i<=a.length:=hi;have hF:F=np (fun i=>a.getD i 0) (fun i=>b.getD i 0) b.length i:=hF;have hs:=hs i;obtain⟨f1,f2,_⟩:=hinv i;rw[<-hF] at hs f1 f2;(conv=>whnf)
  repeat (first|(refine st ?_;conv=>whnf))
  refine⟨fun h=>?_,fun h=>?_⟩
  ·have h:=of_decide_eq_true h;have e1:a.getD (i:Int).toNat 0=a.getD i 0:=rfl;have b1:=ha.get i;by_cases hx:a.getD i 0=0
   ·rw[if_pos hx] at hs;(conv=>whnf);repeat' ((first|refine st ?_|(refine⟨fun h=>?_,fun h=>?_⟩<;>try simp only[ae] at h)|refine wf ?_|refine ao ?_|refine nn ?_|fail)<;>conv=>whnf)
    all_goals first|contradiction|(exfalso;omega)|skip
    refine⟨(i+1,F),⟨(by show i+1<=a.length;omega),hs.symm⟩,(by show a.length-(i+1)<a.length-i;omega),?_⟩;(conv=>whnf)
    repeat (first|exact fa|((first|refine fb ?_|(refine And.intro ?_ ?_;rotate_left));conv=>whnf))
   ·rw[if_neg hx] at hs;have ht:=Hs (g:=fun i=>b.getD i 0) b1 (fun j=>hb.get j) f1 i;have J8:=My (a.getD i 0) (fun i=>b.getD i 0) i F;(conv=>whnf);repeat' ((first|refine st ?_|(refine⟨fun h=>?_,fun h=>?_⟩<;>try simp only[ae] at h)|refine wf ?_|refine ao ?_|refine nn ?_|fail)<;>conv=>whnf)
    all_goals first|contradiction|(exfalso;omega)|skip
    refine ah (fun x:Nat×Nat×(Nat->Nat)=>x.1<=b.length/\x.2=rR (a.getD i 0) (fun i=>b.getD i 0) i F x.1) (fun x=>match x with|(k,c,_)=>[(8,.int .i64 (k:Int)),(7,.int .u64 (c:Int)),(5,.own 0)]) (fun x=>match x with|(_,_,F')=>[.row 51 1 (a.length+b.length) (fun j=>[.int .u64 ((F' j:Nat):Int)])]) (fun x=>b.length-x.1) (0,0,F) ⟨Nat.zero_le _,rfl⟩ ?_ ?_
    ·conv=>whnf
     repeat (first|exact fa|((first|refine fb ?_|(refine And.intro ?_ ?_;rotate_left));conv=>whnf))
    ·rintro⟨k,c,F'⟩ ⟨hk,hT⟩;have hk:k<=b.length:=hk;have hT:(c,F')=rR (a.getD i 0) (fun i=>b.getD i 0) i F k:=hT;have ht:=ht k;have J8:=J8 k;rw[<-hT] at ht J8;obtain⟨t1,t2,t3,_⟩:=ht;have t1:c<65536:=t1;have t2:∀j,F' j<65536:=t2;have b2:=hb.get k;have e2:b.getD (k:Int).toNat 0=b.getD k 0:=rfl;have e3:((i:Int)+(k:Int)).toNat=i+k:=by omega
     have e4:F' ((i:Int)+(k:Int)).toNat=F' (i+k):=by rw[e3]
     have t4:=t2 (i+k);have hm:=Hr b1 b2;have e5:((a.getD (i:Int).toNat 0:Nat):Int)*((b.getD (k:Int).toNat 0:Nat):Int)=((a.getD i 0*b.getD k 0:Nat):Int):=rfl;by_cases gF:k<b.length
     ·(conv=>whnf);repeat' ((first|refine st ?_|(refine⟨fun h=>?_,fun h=>?_⟩<;>try simp only[ae] at h)|refine wf ?_|refine ao ?_|refine nn ?_|fail)<;>conv=>whnf)
      all_goals first|contradiction|(exfalso;omega)|skip
      refine⟨(k+1,(F' (i+k)+a.getD i 0*b.getD k 0+c)/65536,dN F' (i+k) ((F' (i+k)+a.getD i 0*b.getD k 0+c)%65536)),⟨(by show k+1<=b.length;omega),J8.symm⟩,(by show b.length-(k+1)<b.length-k;omega),?_⟩;have e6:((F' ((i:Int)+(k:Int)).toNat:Nat):Int)+((a.getD (i:Int).toNat 0:Nat):Int)*((b.getD (k:Int).toNat 0:Nat):Int)+(c:Int)=((F' (i+k)+a.getD i 0*b.getD k 0+c:Nat):Int):=by rw[e4];rfl
      generalize F' (i+k)+a.getD i 0*b.getD k 0+c=n at *;have e7:(n:Int).tmod 65536=((n%65536:Nat):Int):=Ho n 65536
      have e8:IntKind.u64.wrap ((n:Int).tdiv 65536)=((n/65536:Nat):Int):=by
       rw[show(65536:Int)=((65536:Nat):Int) from rfl,<-Int.ofNat_tdiv];exact aV (by omega)
      conv=>whnf
      repeat (first|exact fa|((first|refine fb ?_|(refine And.intro ?_ ?_;rotate_left));conv=>whnf))
      all_goals first
       | (rw[e6];exact e8)
       | (refine Or.inl fun j hj => ?_
          show bZ _ _ _ j=[A.int .u64 ((dN F' (i+k) (n%65536) j:Nat):Int)];unfold bZ dN;rw[e6,e7,e3];split<;>rfl)
      
     ·(conv=>whnf);repeat' ((first|refine st ?_|(refine⟨fun h=>?_,fun h=>?_⟩<;>try simp only[ae] at h)|refine wf ?_|refine ao ?_|refine nn ?_|fail)<;>conv=>whnf)
      all_goals first|contradiction|(exfalso;omega)|skip
      have e:k=b.length:=by omega
      subst e;rw[<-hT] at hs;refine⟨(i+1,dN F' (i+b.length) (F' (i+b.length)+c)),⟨(by show i+1<=a.length;omega),hs.symm⟩,(by show a.length-(i+1)<a.length-i;omega),?_⟩
      have e9:IntKind.u64.wrap (((F' ((i:Int)+((b.length:Nat):Int)).toNat:Nat):Int)+(c:Int))=((F' (i+b.length)+c:Nat):Int):=by
       rw[e4,aV (by omega)];rfl
      conv=>whnf
      repeat (first|exact fa|((first|refine fb ?_|(refine And.intro ?_ ?_;rotate_left));conv=>whnf))
      all_goals first
       | (refine Or.inl fun j hj => ?_
          show bZ _ _ _ j=[A.int .u64 ((dN F' (i+b.length) (F' (i+b.length)+c) j:Nat):Int)];unfold bZ dN;rw[e9,e3];split<;>rfl)
      
  ·have h:=of_decide_eq_false h;have e:i=a.length:=by omega
   subst e;(conv=>whnf);repeat' ((first|refine st ?_|(refine⟨fun h=>?_,fun h=>?_⟩<;>try simp only[ae] at h)|refine wf ?_|refine ao ?_|refine nn ?_|fail)<;>conv=>whnf)
   all_goals
    refine Or.inl fun j hj=>?_;show[A.int .u64 ((F j:Nat):Int)]=[A.int .u64 ((L.getD j 0:Nat):Int)];rw[gT hj,hF]
/-- Digits from the top: so many of n. -/
def vt(f:Nat->Nat)(n:Nat):Nat->Nat
 | 0=>0
 | k+1=>vt f n k*65536+f (n-1-k)
theorem Mz{f g:Nat->Nat}{n k:Nat}(h:∀j,n-k<=j->j<n->f j=g j)(hk:k<=n):vt f n k=vt g n k:=by
 induction k with
 | zero=>rfl
 | succ k ih=>rw[vt,vt,ih (fun j h1 h2=>h j (by omega) h2) (by omega),h _ (by omega) (by omega)]
theorem Yw(f:Nat->Nat)(n k:Nat)(hk:k<=n):vf f n=vt f n k*65536 ^ (n-k)+vf f (n-k):=by
 induction k with
 | zero=>rw[vt,Nat.zero_mul,Nat.zero_add];rfl
 | succ k ih =>
  rw[ih (by omega),vt];obtain⟨m,hm⟩:∃m,n-k=m+1:=⟨n-k-1,by omega⟩;have h1:n-(k+1)=m:=by omega
  have h2:n-1-k=m:=by omega
  rw[hm,h1,h2,vf,Nat.pow_succ,Nat.add_mul];have:vt f n k*(65536 ^ m*65536)=vt f n k*65536*65536 ^ m:=by rw[Nat.mul_comm (65536 ^ m),<-Nat.mul_assoc]
  omega
theorem MA(f:Nat->Nat)(n:Nat):vt f n n=vf f n:=by
 have:=Yw f n n (Nat.le_refl _);rw[Nat.sub_self] at this;rw[this,Nat.pow_zero,Nat.mul_one];rfl
def jF(R:List Nat)(x bit:Nat):List Nat:=if x/2 ^ bit%2=1 then dF (dF R R) [1] else dF R R
def eN(b:List Nat)(x i bit:Nat)(s:List Nat×(Nat->Nat)):List Nat×(Nat->Nat) :=
 if val (jF s.1 x bit)<val b then (jF s.1 x bit,s.2) else (df (cv (jF s.1 x bit) b),dN s.2 i (s.2 i+2 ^ bit))
def kp(b:List Nat)(x i:Nat)(s:List Nat×(Nat->Nat)):Nat->List Nat×(Nat->Nat)
 | 0=>s
 | k+1=>eN b x i (15-k) (kp b x i s k)
def n0(a b:List Nat):Nat->List Nat×(Nat->Nat)
 | 0=>([],fun _=>0)
 | k+1=>if a.getD (a.length-1-k) 0=0/\(n0 a b k).1.length=0 then n0 a b k else kp b (a.getD (a.length-1-k) 0) (a.length-1-k) (n0 a b k) 16
theorem Av:cr [1]:=by intro x hx;simp only[List.mem_cons,List.mem_nil_iff,or_false] at hx;omega
theorem QN:val [1]=1:=rfl
theorem Aw{R:List Nat}{x bit:Nat}:cr (jF R x bit):=by
 unfold jF;split
 ·exact kj _ _
 ·exact kj _ _
theorem MB{R:List Nat}(h:cr R)(x bit:Nat):val (jF R x bit)=2*val R+x/2 ^ bit%2:=by
 unfold jF;have h2:=Nat.mod_lt (x/2 ^ bit) (show 2>0 by omega);split
 ·rename_i e;rw[oO (kj _ _) Av,oO h h,QN,e];omega
 ·rw[oO h h];omega
theorem n9{a b:List Nat}(ha:cr a)(hb:cr b):(dF a b).length<=max a.length b.length+1:=by
 rw[sP];unfold jl;have:=Fc (f:=fun i=>a.getD i 0) (g:=fun i=>b.getD i 0) (fun i=>ha.get i) (fun i=>hb.get i) (max a.length b.length);omega
theorem wP{R:List Nat}(h:cr R)(x bit:Nat):(jF R x bit).length<=R.length+2:=by
 have h1:=n9 h h;have h2:=n9 (kj R R) Av;have h3:([1]:List Nat).length=1:=rfl;unfold jF;split<;>omega
structure BitI (b:List Nat) (x i:Nat) (s t:List Nat×(Nat->Nat)) (k:Nat):Prop where
 ok:cr t.1
 len:t.1.length<=s.1.length+2*k
 lt:val t.1<val b
 off:∀j,j≠i->t.2 j=s.2 j
 fit:t.2 i+2 ^ (16-k)<=65536
 eq:∃q,t.2 i=q*2 ^ (16-k)/\val s.1*2 ^ k+x/2 ^ (16-k)=q*val b+val t.1
theorem yz{b:List Nat}(hb:cr b){x i:Nat}(hx:x<65536){s:List Nat×(Nat->Nat)}(hs:cr s.1)(aH:val s.1<val b)(h0:s.2 i=0)(k:Nat)(hk:k<=16):BitI b x i s (kp b x i s k) k:=by
 induction k with
 | zero =>
  refine⟨hs,by show s.1.length<=_;omega,aH,fun _ _=>rfl,?_,0,?_,?_⟩
  ·show s.2 i+2 ^ 16<=65536;rw[h0];decide
  ·show s.2 i=_;rw[h0,Nat.zero_mul]
  ·show val s.1*1+x/65536=0*val b+val s.1;rw[Nat.div_eq_of_lt hx];omega
 | succ k ih =>
  obtain⟨g1,g2,g3,g4,g5,q,g6,g7⟩:=ih (by omega);rw[kp];generalize kp b x i s k=t at *;obtain⟨m,hm⟩:∃m,15-k=m:=⟨_,rfl⟩;have e1:16-k=m+1:=by omega
  have e2:16-(k+1)=m:=by omega
  rw[e1] at g5 g6 g7;have hv:=MB g1 x m;have hl:=wP g1 x m;have ho:=Aw (R:=t.1) (x:=x) (bit:=m)
  have hd:x/2 ^ m=2*(x/2 ^ (m+1))+x/2 ^ m%2:=by
   rw[Nat.pow_succ,<-Nat.div_div_eq_div_mul];omega
  have hmul:val s.1*2 ^ (k+1)=2*(val s.1*2 ^ k):=by rw[Nat.pow_succ,<-Nat.mul_assoc,Nat.mul_comm]
  have hp:2 ^ (m+1)=2*2 ^ m:=by rw[Nat.pow_succ,Nat.mul_comm]
  have BB:q*2 ^ (m+1)=2*q*2 ^ m:=by rw[hp,<-Nat.mul_assoc,Nat.mul_comm q]
  have Ug:0<2 ^ m:=Nat.pow_pos (by omega);have h2b:x/2 ^ m%2<2:=Nat.mod_lt _ (by omega);unfold eN;rw[hm];split
  ·rename_i hc;refine⟨ho,by show(jF t.1 x m).length<=_;omega,hc,g4,?_,2*q,?_,?_⟩
   ·show t.2 i+2 ^ (16-(k+1))<=65536;rw[e2];omega
   ·show t.2 i=_;rw[e2,g6,BB]
   ·show _=2*q*val b+val (jF t.1 x m);rw[e2,hmul,hv,Nat.mul_assoc];omega
  ·rename_i hc;have hle:val b<=val (jF t.1 x m):=by omega
   have hmv:=qa ho hb hle;have htv:=jX (cv (jF t.1 x m) b);have htl:=CT (cv (jF t.1 x m) b);rw[dJ] at htl;refine⟨nZ (oP _ _),by show(df (cv (jF t.1 x m) b)).length<=_;omega,by show val (df (cv (jF t.1 x m) b))<_;omega,fun j hj=>?_,?_,2*q+1,?_,?_⟩
   ·show dN t.2 i _ j=_;unfold dN;rw[if_neg hj];exact g4 j hj
   ·show dN t.2 i (t.2 i+2 ^ m) i+2 ^ (16-(k+1))<=65536;unfold dN;rw[if_pos rfl,e2];omega
   ·show dN t.2 i (t.2 i+2 ^ m) i=_;unfold dN;rw[if_pos rfl,e2,g6,BB,Nat.add_mul,Nat.one_mul]
   ·show _=(2*q+1)*val b+val (df (cv (jF t.1 x m) b));rw[e2,hmul,htv,hmv,hv,Nat.add_mul,Nat.one_mul,Nat.mul_assoc];omega
structure DigI (a b:List Nat) (t:List Nat×(Nat->Nat)) (k:Nat):Prop where
 ok:cr t.1
 len:t.1.length<=32*k
 lt:val t.1<val b
 dig:∀j,t.2 j<65536
 low:∀j,j<a.length-k->t.2 j=0
 eq:vt (fun j=>a.getD j 0) a.length k=vt t.2 a.length k*val b+val t.1
theorem CU{a b:List Nat}(ha:cr a)(hb:cr b)(h0:0<val b)(k:Nat)(hk:k<=a.length):DigI a b (n0 a b k) k:=by
 induction k with
 | zero=>exact⟨fun _ h=>absurd h (by simp[n0]),Nat.zero_le _,h0,fun _=>Nat.zero_lt_succ _,fun _ _=>rfl,by
   show 0=0*val b+0;rw[Nat.zero_mul]⟩
 | succ k ih =>
  obtain⟨g1,g2,g3,g4,g5,g6⟩:=ih (by omega);rw[n0];generalize n0 a b k=t at *;have hx:=ha.get (a.length-1-k);obtain⟨i,hi⟩:∃i,a.length-1-k=i:=⟨_,rfl⟩;rw[hi] at hx ⊢;have hz:t.2 i=0:=g5 i (by omega);have Z5:∀f:Nat->Nat,vt f a.length (k+1)=vt f a.length k*65536+f i:=fun f=>by rw[vt,hi]
  split
  ·rename_i hc;obtain⟨c1,c2⟩:=hc;have hv:val t.1=0:=by rw[val,c2];rfl
   refine⟨g1,by omega,g3,g4,fun j hj=>g5 j (by omega),?_⟩;rw[Z5,Z5,g6,hz,c1,hv,Nat.add_zero,Nat.add_zero,Nat.add_zero,Nat.add_zero,Nat.mul_assoc,Nat.mul_assoc,Nat.mul_comm (val b)]
  ·obtain⟨b1,b2,b3,b4,b5,q,b6,b7⟩:=yz hb hx (i:=i) g1 g3 hz 16 (Nat.le_refl _);generalize kp b (a.getD i 0) i t 16=u at *;rw[Nat.sub_self,Nat.pow_zero,Nat.mul_one] at b6;rw[Nat.sub_self,Nat.pow_zero,Nat.div_one] at b7;rw[Nat.sub_self,Nat.pow_zero] at b5;refine⟨b1,by omega,b3,fun j=>?_,fun j hj=>?_,?_⟩
   ·by_cases e:j=i
    ·subst e;omega
    ·rw[b4 j e];exact g4 j
   ·rw[b4 j (by omega)];exact g5 j (by omega)
   ·have hc:vt u.2 a.length k=vt t.2 a.length k:=Mz (fun j h1 _=>b4 j (by omega)) (by omega);rw[Z5,Z5,hc,g6,b6,Nat.add_mul,Nat.add_mul];have e1:vt t.2 a.length k*val b*65536=vt t.2 a.length k*65536*val b:=by rw[Nat.mul_assoc,Nat.mul_comm (val b),<-Nat.mul_assoc]
    have e2:(65536:Nat)=2 ^ 16:=rfl;rw[e1];show _+val t.1*65536+a.getD i 0=_;have b7:val t.1*65536+a.getD i 0=q*val b+val u.1:=b7;omega
def kY(a b:List Nat):List Nat:=(List.range a.length).map (n0 a b a.length).2
def oa(a b:List Nat):List Nat:=(n0 a b a.length).1
theorem oU(a b:List Nat):(kY a b).length=a.length:=by unfold kY;simp
theorem yA(a b:List Nat){i:Nat}(h:i<a.length):(kY a b).getD i 0=(n0 a b a.length).2 i:=by
 unfold kY;rw[List.getD_eq_getElem?_getD,List.getElem?_map,List.getElem?_range h];rfl
theorem wQ{a b:List Nat}(ha:cr a)(hb:cr b)(h0:0<val b):
  cr (kY a b)/\cr (oa a b)/\(oa a b).length<=32*a.length/\val (kY a b)=val a/val b/\val (oa a b)=val a%val b:=by
 obtain⟨g1,g2,g3,g4,_,g6⟩:=CU ha hb h0 a.length (Nat.le_refl _);have hq:val (kY a b)=vf (n0 a b a.length).2 a.length:=by rw[val,oU,gu fun i hi=>yA a b hi]
 rw[MA,MA,<-hq] at g6;have g6:val a=val (kY a b)*val b+val (oa a b):=g6;have g3:val (oa a b)<val b:=g3;refine⟨fun x hx=>?_,g1,g2,?_,?_⟩
 ·unfold kY at hx;simp only[List.mem_map] at hx;obtain⟨i,_,rfl⟩:=hx;exact g4 i
 ·rw[g6,Nat.mul_comm,Nat.mul_add_div h0,Nat.div_eq_of_lt g3];omega
 ·rw[g6,Nat.mul_comm,Nat.mul_add_mod,Nat.mod_eq_of_lt g3]
theorem uS{l:List Nat}:eI (iI.jA 6 0 [fS l,.sl 1 1 fun i=>il 1 (List.drop (i*1) [A.int .u64 1])] [fS l,fS [1]]):=by
 conv=>whnf
 repeat (first|exact rfl|exact trivial|exact Or.inl (fun _ _=>rfl)|exact(fun _=>rfl)|exact(fun _ _=>rfl)|exact Or.inl (fun _ hi=>absurd hi (Nat.not_lt_zero _))|((first|refine And.intro rfl ?_|refine And.intro (Or.inl (fun _ _=>rfl)) ?_|refine And.intro (fun _=>rfl) ?_|refine And.intro (fun _ _=>rfl) ?_|(refine And.intro ?_ ?_;rotate_left));conv=>whnf))
 all_goals (refine Or.inl fun i hi=>?_;rcases i with _|_|_|_|i<;>first|rfl|omega)
theorem MC(p q:Nat)(hq:q=p)(h:2 ^ p<=65536):IntKind.u64.wrap (1*2 ^ q)=((2 ^ p:Nat):Int):=by
 subst hq;have e:(2:Int) ^ q=((2 ^ q:Nat):Int):=by rw[Int.natCast_pow];rfl
 have h2:∀n:Nat,n<=65536->IntKind.u64.wrap (n:Int)=n:=fun n hn=>aV (by omega);rw[e,Int.one_mul];exact h2 _ h
theorem MD(x p:Nat)(y q:Nat)(hy:y=x)(hq:q=p):(((y:Nat):Int).fdiv (2 ^ q)).tmod 2=((x/2 ^ p%2:Nat):Int):=by
 subst hy hq;have e:(2:Int) ^ q=((2 ^ q:Nat):Int):=by rw[Int.natCast_pow];rfl
 rw[e,Int.fdiv_eq_ediv_of_nonneg _ (Int.natCast_nonneg _),<-Int.natCast_ediv];exact Ho (y/2 ^ q) 2
theorem Ht(a b:List Nat)(ha:cr a)(hb:cr b)(h0:0<val b)(la:a.length<=1000)(lb:b.length<=1000000):aa Tryz.prog G 159 [fS a,fS b] (.tup [fS (kY a (df b)),fS (oa a (df b))]):=by
 have htr:=wM (G:=G) b lb;have fN:=nZ hb;have gk:=CT b;have Xu:0<val (df b):=by rw[jX];exact h0
 generalize df b=B at *;have hinv:=CU ha fN Xu;have Wq:=@yA _ a B;have hql:=oU a B;have GO:oa a B=(n0 a B a.length).1:=rfl;generalize kY a B=QL at *;generalize oa a B=RL at *;refine aa.af ak Tryz.func159 rfl rfl _ rfl ?_;(conv=>whnf);repeat' (first|refine bo ?_|refine aG ?_|((first|refine aB ak ?_|refine aS ak mixed ?_|refine aR ?_|refine aP ?_|refine aQ ?_|refine bp ?_);conv=>whnf)|(refine And.intro (fun h=>?_) (fun h=>?_)<;>(try simp only[ae] at h)<;>conv=>whnf)|(refine Or.inl ?_;(conv=>whnf);refine⟨_,htr,?_⟩;conv=>whnf)|(refine Or.inr (Or.inr (Or.inl ?_));(conv=>whnf);refine⟨_,htr,?_⟩;conv=>whnf)|(refine Exists.intro _ (And.intro (htr) ?_);conv=>whnf)|(refine bB ?_ ?_;(focus (first|exact bC (by omega)|exact aV (by omega)|exact cy (by omega)|exact bG (by omega)|exact bH (by omega)));conv=>whnf)|((first|refine aY ?_|(refine And.intro (a:=bf _ _=true) ?_ ?_;(focus kernel_rfl))|refine And.intro rfl ?_|(refine And.intro ?_ ?_;(focus (first|omega|decide|(dsimp only;omega)|(simp at *;omega)))));conv=>whnf))
 all_goals first|contradiction|(exfalso;omega)|skip
 refine gL 1 ?_;(conv=>whnf);refine ah (fun x:Nat×List Nat×(Nat->Nat)=>x.1<=a.length/\x.2=n0 a B (a.length-x.1)) (fun x=>match x with|(m,R,_)=>[(8,.int .i64 ((m:Int)-1)),(7,fS R),(6,.own 0)]) (fun x=>match x with|(_,_,Q)=>[.row 51 1 a.length (fun j=>[.int .u64 ((Q j:Nat):Int)])]) (fun x=>x.1) (a.length,[],fun _=>0) ⟨Nat.le_refl _,by show _=n0 a B (a.length-a.length);rw[Nat.sub_self];rfl⟩ ?_ ?_
 ·conv=>whnf
  repeat (first|exact rfl|exact trivial|exact Or.inl (fun _ _=>rfl)|exact(fun _=>rfl)|exact(fun _ _=>rfl)|exact Or.inl (fun _ hi=>absurd hi (Nat.not_lt_zero _))|((first|refine And.intro rfl ?_|refine And.intro (Or.inl (fun _ _=>rfl)) ?_|refine And.intro (fun _=>rfl) ?_|refine And.intro (fun _ _=>rfl) ?_|(refine And.intro ?_ ?_;rotate_left));conv=>whnf))
 ·rintro⟨m,R,Q⟩ ⟨hm,hS⟩;have hm:m<=a.length:=hm;have hS:(R,Q)=n0 a B (a.length-m):=hS;have hI:=hinv (a.length-m) (by omega);rw[<-hS] at hI;obtain⟨i1,i2,i3,i4,i5,_⟩:=hI;have i2:R.length<=32*(a.length-m):=i2;rcases Nat.eq_zero_or_pos m with e|e
  ·subst e;rw[Nat.sub_zero] at hS;rw[<-hS] at GO Wq;subst GO;(conv=>whnf);repeat' (first|refine bo ?_|refine aG ?_|((first|refine aB ak ?_|refine aS ak mixed ?_|refine aR ?_|refine aP ?_|refine aQ ?_|refine bp ?_);conv=>whnf)|(refine And.intro (fun h=>?_) (fun h=>?_)<;>(try simp only[ae] at h)<;>conv=>whnf)|(refine bB ?_ ?_;(focus (first|exact bC (by omega)|exact aV (by omega)|exact cy (by omega)|exact bG (by omega)|exact bH (by omega)));conv=>whnf)|((first|refine aY ?_|(refine And.intro (a:=bf _ _=true) ?_ ?_;(focus kernel_rfl))|refine And.intro rfl ?_|(refine And.intro ?_ ?_;(focus (first|omega|decide|(dsimp only;omega)|(simp at *;omega)))));conv=>whnf))
   all_goals first|contradiction|(exfalso;omega)|skip
   refine⟨.inl fun j hj=>?_,rfl,.inl fun _ _=>rfl⟩;show[A.int .u64 ((Q j:Nat):Int)]=[A.int .u64 ((QL.getD j 0:Nat):Int)];rw[Wq hj]
  ·obtain⟨i,rfl⟩:∃i,m=i+1:=⟨m-1,by omega⟩;have e1:(((i+1:Nat):Int)-1).toNat=i:=by omega
   have e2:a.getD (((i+1:Nat):Int)-1).toNat 0=a.getD i 0:=by rw[e1]
   have hx:=ha.get i
   have pw:n0 a B (a.length-i)=if a.getD i 0=0/\R.length=0 then (R,Q) else kp B (a.getD i 0) i (R,Q) 16:=by
    rw[show a.length-i=a.length-(i+1)+1 by omega,n0,<-hS,show a.length-1-(a.length-(i+1))=i by omega]
   have hz:Q i=0:=i5 i (by omega);by_cases TW:a.getD i 0=0/\R.length=0
   ·rw[if_pos TW] at pw;obtain⟨k1,k2⟩:=TW;(conv=>whnf);repeat' (first|refine bo ?_|refine aG ?_|((first|refine aB ak ?_|refine aS ak mixed ?_|refine aR ?_|refine aP ?_|refine aQ ?_|refine bp ?_);conv=>whnf)|(refine And.intro (fun h=>?_) (fun h=>?_)<;>(try simp only[ae] at h)<;>conv=>whnf)|(refine bB ?_ ?_;(focus (first|exact bC (by omega)|exact aV (by omega)|exact cy (by omega)|exact bG (by omega)|exact bH (by omega)));conv=>whnf)|((first|refine aY ?_|(refine And.intro (a:=bf _ _=true) ?_ ?_;(focus kernel_rfl))|refine And.intro rfl ?_|(refine And.intro ?_ ?_;(focus (first|omega|decide|(dsimp only;omega)|(simp at *;omega)))));conv=>whnf))
    all_goals first|contradiction|(exfalso;omega)|skip
    refine⟨(i,R,Q),⟨(by show i<=a.length;omega),pw.symm⟩,(by show i<i+1;omega),?_⟩;(conv=>whnf)
    repeat (first|exact rfl|exact trivial|exact Or.inl (fun _ _=>rfl)|exact(fun _=>rfl)|exact(fun _ _=>rfl)|exact Or.inl (fun _ hi=>absurd hi (Nat.not_lt_zero _))|((first|refine And.intro rfl ?_|refine And.intro (Or.inl (fun _ _=>rfl)) ?_|refine And.intro (fun _=>rfl) ?_|refine And.intro (fun _ _=>rfl) ?_|(refine And.intro ?_ ?_;rotate_left));conv=>whnf))
    all_goals first|omega
   ·rw[if_neg TW] at pw;have fg:=yz fN hx (s:=(R,Q)) i1 i3 hz;have Ya:∀k,kp B (a.getD i 0) i (R,Q) (k+1)=eN B (a.getD i 0) i (15-k) (kp B (a.getD i 0) i (R,Q) k):=fun k=>rfl;by_cases hx0:a.getD i 0=0
    ·(conv=>whnf);repeat' (first|refine bo ?_|refine aG ?_|((first|refine aB ak ?_|refine aS ak mixed ?_|refine aR ?_|refine aP ?_|refine aQ ?_|refine bp ?_);conv=>whnf)|(refine And.intro (fun h=>?_) (fun h=>?_)<;>(try simp only[ae] at h)<;>conv=>whnf)|(refine bB ?_ ?_;(focus (first|exact bC (by omega)|exact aV (by omega)|exact cy (by omega)|exact bG (by omega)|exact bH (by omega)));conv=>whnf)|((first|refine aY ?_|(refine And.intro (a:=bf _ _=true) ?_ ?_;(focus kernel_rfl))|refine And.intro rfl ?_|(refine And.intro ?_ ?_;(focus (first|omega|decide|(dsimp only;omega)|(simp at *;omega)))));conv=>whnf))
     all_goals first|contradiction|(exfalso;omega)|skip
     refine ah (fun x:Nat×List Nat×(Nat->Nat)=>x.1<=16/\x.2=kp B (a.getD i 0) i (R,Q) (16-x.1)) (fun x=>match x with|(n,R',_)=>[(9,.int .i64 ((n:Int)-1)),(7,fS R'),(6,.own 0)]) (fun x=>match x with|(_,_,Q')=>[.row 51 1 a.length (fun j=>[.int .u64 ((Q' j:Nat):Int)])]) (fun x=>x.1) (16,R,Q) ⟨Nat.le_refl _,rfl⟩ ?_ ?_
     ·conv=>whnf
      repeat (first|exact rfl|exact trivial|exact Or.inl (fun _ _=>rfl)|exact(fun _=>rfl)|exact(fun _ _=>rfl)|exact Or.inl (fun _ hi=>absurd hi (Nat.not_lt_zero _))|((first|refine And.intro rfl ?_|refine And.intro (Or.inl (fun _ _=>rfl)) ?_|refine And.intro (fun _=>rfl) ?_|refine And.intro (fun _ _=>rfl) ?_|(refine And.intro ?_ ?_;rotate_left));conv=>whnf))
     ·rintro⟨n,R',Q'⟩ ⟨hn,hT⟩;have hn:n<=16:=hn;have hT:(R',Q')=kp B (a.getD i 0) i (R,Q) (16-n):=hT;have hJ:=fg (16-n) (by omega);rw[<-hT] at hJ;obtain⟨j1,j2,j3,j4,j5,_⟩:=hJ;have j2:R'.length<=R.length+2*(16-n):=j2;have j5:Q' i+2 ^ (16-(16-n))<=65536:=j5;have j1:cr R':=j1;have j3:val R'<val B:=j3;rcases Nat.eq_zero_or_pos n with e|e
      ·subst e;rw[Nat.sub_zero] at hT;rw[<-hT] at pw;(conv=>whnf);repeat' (first|refine bo ?_|refine aG ?_|((first|refine aB ak ?_|refine aS ak mixed ?_|refine aR ?_|refine aP ?_|refine aQ ?_|refine bp ?_);conv=>whnf)|(refine And.intro (fun h=>?_) (fun h=>?_)<;>(try simp only[ae] at h)<;>conv=>whnf)|(refine bB ?_ ?_;(focus (first|exact bC (by omega)|exact aV (by omega)|exact cy (by omega)|exact bG (by omega)|exact bH (by omega)));conv=>whnf)|((first|refine aY ?_|(refine And.intro (a:=bf _ _=true) ?_ ?_;(focus kernel_rfl))|refine And.intro rfl ?_|(refine And.intro ?_ ?_;(focus (first|omega|decide|(dsimp only;omega)|(simp at *;omega)))));conv=>whnf))
       all_goals first|contradiction|(exfalso;omega)|skip
       refine⟨(i,R',Q'),⟨(by show i<=a.length;omega),pw.symm⟩,(by show i<i+1;omega),?_⟩;(conv=>whnf)
       repeat (first|exact rfl|exact trivial|exact Or.inl (fun _ _=>rfl)|exact(fun _=>rfl)|exact(fun _ _=>rfl)|exact Or.inl (fun _ hi=>absurd hi (Nat.not_lt_zero _))|((first|refine And.intro rfl ?_|refine And.intro (Or.inl (fun _ _=>rfl)) ?_|refine And.intro (fun _=>rfl) ?_|refine And.intro (fun _ _=>rfl) ?_|(refine And.intro ?_ ?_;rotate_left));conv=>whnf))
       all_goals first|omega
      ·obtain⟨p,rfl⟩:∃p,n=p+1:=⟨n-1,by omega⟩;have q1:=Ya (16-(p+1));rw[<-hT,show 16-(p+1)+1=16-p by omega,show 15-(16-(p+1))=p by omega,eN] at q1;rw[show 16-(16-(p+1))=p+1 by omega,Nat.pow_succ] at j5;have c1:=wI (G:=G) R' R' j1 j1 (by omega) (by omega);have l1:=n9 j1 j1;have c2:=wI (G:=G) (dF R' R') [1] (kj _ _) Av (by omega) (by show 1<=1000000;omega);have oT:=Aw (R:=R') (x:=a.getD i 0) (bit:=p);have lT:=wP j1 (a.getD i 0) p;have QO:jF R' (a.getD i 0) p=if a.getD i 0/2 ^ p%2=1 then dF (dF R' R') [1] else dF R' R':=rfl
       have q1:kp B (a.getD i 0) i (R,Q) (16-p)=if val (jF R' (a.getD i 0) p)<val B then (jF R' (a.getD i 0) p,Q') else (df (cv (jF R' (a.getD i 0) p) B),dN Q' i (Q' i+2 ^ p)):=q1
       have s1:=MD (a.getD i 0) p _ (min (((p+1:Nat):Int)-1).toNat IntKind.u64.bits) e2 (by have:IntKind.u64.bits=64:=rfl;omega);have s3:=MC p (min (((p+1:Nat):Int)-1).toNat IntKind.u64.bits) (by have:IntKind.u64.bits=64:=rfl;omega) (by omega);have s4:IntKind.u64.wrap (((Q' i:Nat):Int)+((2 ^ p:Nat):Int))=((Q' i+2 ^ p:Nat):Int):=aV (by omega);have s2:(((p+1:Nat):Int)-1).toNat=p:=by omega
       by_cases ET:a.getD i 0/2 ^ p%2=1
       ·rw[if_pos ET] at QO;rw[QO] at q1 oT lT;generalize dF (dF R' R') [1]=T at *;have c3:=sQ (G:=G) T B oT fN (by omega) (by omega);have c4:=oQ (G:=G) T B oT fN (by omega);have c5:=wM (G:=G) (cv T B) (by rw[dJ];omega);(conv=>whnf);repeat' (first|refine bo ?_|refine aG ?_|((first|refine aB ak ?_|refine aS ak mixed ?_|refine aR ?_|refine aP ?_|refine aQ ?_|refine bp ?_);conv=>whnf)|(refine And.intro (fun h=>?_) (fun h=>?_)<;>(try simp only[ae] at h)<;>conv=>whnf)|(refine Or.inl ?_;(conv=>whnf);refine⟨_,c1,?_⟩;conv=>whnf)|(refine Or.inr (Or.inr (Or.inl ?_));(conv=>whnf);refine⟨_,c1,?_⟩;conv=>whnf)|(refine Exists.intro _ (And.intro (c1) ?_);conv=>whnf)|(refine Or.inr (Or.inr (Or.inl ?_));(conv=>whnf);refine⟨_,c2.fit uS,?_⟩;conv=>whnf)|(refine Exists.intro _ (And.intro (c2.fit uS) ?_);conv=>whnf)|(refine Or.inl ?_;(conv=>whnf);refine⟨_,c3,?_⟩;conv=>whnf)|(refine Or.inr (Or.inr (Or.inl ?_));(conv=>whnf);refine⟨_,c3,?_⟩;conv=>whnf)|(refine Exists.intro _ (And.intro (c3) ?_);conv=>whnf)|(refine Or.inl ?_;(conv=>whnf);refine⟨_,c4,?_⟩;conv=>whnf)|(refine Or.inr (Or.inr (Or.inl ?_));(conv=>whnf);refine⟨_,c4,?_⟩;conv=>whnf)|(refine Exists.intro _ (And.intro (c4) ?_);conv=>whnf)|(refine Or.inl ?_;(conv=>whnf);refine⟨_,c5,?_⟩;conv=>whnf)|(refine Or.inr (Or.inr (Or.inl ?_));(conv=>whnf);refine⟨_,c5,?_⟩;conv=>whnf)|(refine Exists.intro _ (And.intro (c5) ?_);conv=>whnf)|(refine bB ?_ ?_;(focus (first|exact bC (by omega)|exact aV (by omega)|exact cy (by omega)|exact bG (by omega)|exact bH (by omega)));conv=>whnf)|((first|refine aY ?_|(refine And.intro (a:=bf _ _=true) ?_ ?_;(focus kernel_rfl))|refine And.intro rfl ?_|(refine And.intro ?_ ?_;(focus (first|omega|decide|(dsimp only;omega)|(simp at *;omega)))));conv=>whnf))
        all_goals first|contradiction|(exfalso;omega)|skip
        ·rw[if_neg (by assumption)] at q1;refine⟨(p,df (cv T B),dN Q' i (Q' i+2 ^ p)),⟨(by show p<=16;omega),q1.symm⟩,(by show p<p+1;omega),?_⟩;(conv=>whnf)
         repeat (first|exact rfl|exact trivial|exact Or.inl (fun _ _=>rfl)|exact(fun _=>rfl)|exact(fun _ _=>rfl)|exact Or.inl (fun _ hi=>absurd hi (Nat.not_lt_zero _))|((first|refine And.intro rfl ?_|refine And.intro (Or.inl (fun _ _=>rfl)) ?_|refine And.intro (fun _=>rfl) ?_|refine And.intro (fun _ _=>rfl) ?_|(refine And.intro ?_ ?_;rotate_left));conv=>whnf))
         all_goals first
          | omega
          | (refine Or.inl fun j hj => ?_
             show bZ _ _ _ j=[A.int .u64 ((dN Q' i (Q' i+2 ^ p) j:Nat):Int)];unfold bZ dN;rw[s3,e1,s4];split<;>rfl)
         
        ·rw[if_pos (by assumption)] at q1;refine⟨(p,T,Q'),⟨(by show p<=16;omega),q1.symm⟩,(by show p<p+1;omega),?_⟩;(conv=>whnf)
         repeat (first|exact rfl|exact trivial|exact Or.inl (fun _ _=>rfl)|exact(fun _=>rfl)|exact(fun _ _=>rfl)|exact Or.inl (fun _ hi=>absurd hi (Nat.not_lt_zero _))|((first|refine And.intro rfl ?_|refine And.intro (Or.inl (fun _ _=>rfl)) ?_|refine And.intro (fun _=>rfl) ?_|refine And.intro (fun _ _=>rfl) ?_|(refine And.intro ?_ ?_;rotate_left));conv=>whnf))
         all_goals first|omega
       ·rw[if_neg ET] at QO;rw[QO] at q1 oT lT;generalize dF R' R'=T at *;have c3:=sQ (G:=G) T B oT fN (by omega) (by omega);have c4:=oQ (G:=G) T B oT fN (by omega);have c5:=wM (G:=G) (cv T B) (by rw[dJ];omega);(conv=>whnf);repeat' (first|refine bo ?_|refine aG ?_|((first|refine aB ak ?_|refine aS ak mixed ?_|refine aR ?_|refine aP ?_|refine aQ ?_|refine bp ?_);conv=>whnf)|(refine And.intro (fun h=>?_) (fun h=>?_)<;>(try simp only[ae] at h)<;>conv=>whnf)|(refine Or.inl ?_;(conv=>whnf);refine⟨_,c1,?_⟩;conv=>whnf)|(refine Or.inr (Or.inr (Or.inl ?_));(conv=>whnf);refine⟨_,c1,?_⟩;conv=>whnf)|(refine Exists.intro _ (And.intro (c1) ?_);conv=>whnf)|(refine Or.inl ?_;(conv=>whnf);refine⟨_,c3,?_⟩;conv=>whnf)|(refine Or.inr (Or.inr (Or.inl ?_));(conv=>whnf);refine⟨_,c3,?_⟩;conv=>whnf)|(refine Exists.intro _ (And.intro (c3) ?_);conv=>whnf)|(refine Or.inl ?_;(conv=>whnf);refine⟨_,c4,?_⟩;conv=>whnf)|(refine Or.inr (Or.inr (Or.inl ?_));(conv=>whnf);refine⟨_,c4,?_⟩;conv=>whnf)|(refine Exists.intro _ (And.intro (c4) ?_);conv=>whnf)|(refine Or.inl ?_;(conv=>whnf);refine⟨_,c5,?_⟩;conv=>whnf)|(refine Or.inr (Or.inr (Or.inl ?_));(conv=>whnf);refine⟨_,c5,?_⟩;conv=>whnf)|(refine Exists.intro _ (And.intro (c5) ?_);conv=>whnf)|(refine bB ?_ ?_;(focus (first|exact bC (by omega)|exact aV (by omega)|exact cy (by omega)|exact bG (by omega)|exact bH (by omega)));conv=>whnf)|((first|refine aY ?_|(refine And.intro (a:=bf _ _=true) ?_ ?_;(focus kernel_rfl))|refine And.intro rfl ?_|(refine And.intro ?_ ?_;(focus (first|omega|decide|(dsimp only;omega)|(simp at *;omega)))));conv=>whnf))
        all_goals first|contradiction|(exfalso;omega)|skip
        ·rw[if_neg (by assumption)] at q1;refine⟨(p,df (cv T B),dN Q' i (Q' i+2 ^ p)),⟨(by show p<=16;omega),q1.symm⟩,(by show p<p+1;omega),?_⟩;(conv=>whnf)
         repeat (first|exact rfl|exact trivial|exact Or.inl (fun _ _=>rfl)|exact(fun _=>rfl)|exact(fun _ _=>rfl)|exact Or.inl (fun _ hi=>absurd hi (Nat.not_lt_zero _))|((first|refine And.intro rfl ?_|refine And.intro (Or.inl (fun _ _=>rfl)) ?_|refine And.intro (fun _=>rfl) ?_|refine And.intro (fun _ _=>rfl) ?_|(refine And.intro ?_ ?_;rotate_left));conv=>whnf))
         all_goals first
          | omega
          | (refine Or.inl fun j hj => ?_
             show bZ _ _ _ j=[A.int .u64 ((dN Q' i (Q' i+2 ^ p) j:Nat):Int)];unfold bZ dN;rw[s3,e1,s4];split<;>rfl)
         
        ·rw[if_pos (by assumption)] at q1;refine⟨(p,T,Q'),⟨(by show p<=16;omega),q1.symm⟩,(by show p<p+1;omega),?_⟩;(conv=>whnf)
         repeat (first|exact rfl|exact trivial|exact Or.inl (fun _ _=>rfl)|exact(fun _=>rfl)|exact(fun _ _=>rfl)|exact Or.inl (fun _ hi=>absurd hi (Nat.not_lt_zero _))|((first|refine And.intro rfl ?_|refine And.intro (Or.inl (fun _ _=>rfl)) ?_|refine And.intro (fun _=>rfl) ?_|refine And.intro (fun _ _=>rfl) ?_|(refine And.intro ?_ ?_;rotate_left));conv=>whnf))
         all_goals first|omega
    ·(conv=>whnf);repeat' (first|refine bo ?_|refine aG ?_|((first|refine aB ak ?_|refine aS ak mixed ?_|refine aR ?_|refine aP ?_|refine aQ ?_|refine bp ?_);conv=>whnf)|(refine And.intro (fun h=>?_) (fun h=>?_)<;>(try simp only[ae] at h)<;>conv=>whnf)|(refine bB ?_ ?_;(focus (first|exact bC (by omega)|exact aV (by omega)|exact cy (by omega)|exact bG (by omega)|exact bH (by omega)));conv=>whnf)|((first|refine aY ?_|(refine And.intro (a:=bf _ _=true) ?_ ?_;(focus kernel_rfl))|refine And.intro rfl ?_|(refine And.intro ?_ ?_;(focus (first|omega|decide|(dsimp only;omega)|(simp at *;omega)))));conv=>whnf))
     all_goals first|contradiction|(exfalso;omega)|skip
     refine ah (fun x:Nat×List Nat×(Nat->Nat)=>x.1<=16/\x.2=kp B (a.getD i 0) i (R,Q) (16-x.1)) (fun x=>match x with|(n,R',_)=>[(9,.int .i64 ((n:Int)-1)),(7,fS R'),(6,.own 0)]) (fun x=>match x with|(_,_,Q')=>[.row 51 1 a.length (fun j=>[.int .u64 ((Q' j:Nat):Int)])]) (fun x=>x.1) (16,R,Q) ⟨Nat.le_refl _,rfl⟩ ?_ ?_
     ·conv=>whnf
      repeat (first|exact rfl|exact trivial|exact Or.inl (fun _ _=>rfl)|exact(fun _=>rfl)|exact(fun _ _=>rfl)|exact Or.inl (fun _ hi=>absurd hi (Nat.not_lt_zero _))|((first|refine And.intro rfl ?_|refine And.intro (Or.inl (fun _ _=>rfl)) ?_|refine And.intro (fun _=>rfl) ?_|refine And.intro (fun _ _=>rfl) ?_|(refine And.intro ?_ ?_;rotate_left));conv=>whnf))
     ·rintro⟨n,R',Q'⟩ ⟨hn,hT⟩;have hn:n<=16:=hn;have hT:(R',Q')=kp B (a.getD i 0) i (R,Q) (16-n):=hT;have hJ:=fg (16-n) (by omega);rw[<-hT] at hJ;obtain⟨j1,j2,j3,j4,j5,_⟩:=hJ;have j2:R'.length<=R.length+2*(16-n):=j2;have j5:Q' i+2 ^ (16-(16-n))<=65536:=j5;have j1:cr R':=j1;have j3:val R'<val B:=j3;rcases Nat.eq_zero_or_pos n with e|e
      ·subst e;rw[Nat.sub_zero] at hT;rw[<-hT] at pw;(conv=>whnf);repeat' (first|refine bo ?_|refine aG ?_|((first|refine aB ak ?_|refine aS ak mixed ?_|refine aR ?_|refine aP ?_|refine aQ ?_|refine bp ?_);conv=>whnf)|(refine And.intro (fun h=>?_) (fun h=>?_)<;>(try simp only[ae] at h)<;>conv=>whnf)|(refine bB ?_ ?_;(focus (first|exact bC (by omega)|exact aV (by omega)|exact cy (by omega)|exact bG (by omega)|exact bH (by omega)));conv=>whnf)|((first|refine aY ?_|(refine And.intro (a:=bf _ _=true) ?_ ?_;(focus kernel_rfl))|refine And.intro rfl ?_|(refine And.intro ?_ ?_;(focus (first|omega|decide|(dsimp only;omega)|(simp at *;omega)))));conv=>whnf))
       all_goals first|contradiction|(exfalso;omega)|skip
       refine⟨(i,R',Q'),⟨(by show i<=a.length;omega),pw.symm⟩,(by show i<i+1;omega),?_⟩;(conv=>whnf)
       repeat (first|exact rfl|exact trivial|exact Or.inl (fun _ _=>rfl)|exact(fun _=>rfl)|exact(fun _ _=>rfl)|exact Or.inl (fun _ hi=>absurd hi (Nat.not_lt_zero _))|((first|refine And.intro rfl ?_|refine And.intro (Or.inl (fun _ _=>rfl)) ?_|refine And.intro (fun _=>rfl) ?_|refine And.intro (fun _ _=>rfl) ?_|(refine And.intro ?_ ?_;rotate_left));conv=>whnf))
       all_goals first|omega
      ·obtain⟨p,rfl⟩:∃p,n=p+1:=⟨n-1,by omega⟩;have q1:=Ya (16-(p+1));rw[<-hT,show 16-(p+1)+1=16-p by omega,show 15-(16-(p+1))=p by omega,eN] at q1;rw[show 16-(16-(p+1))=p+1 by omega,Nat.pow_succ] at j5;have c1:=wI (G:=G) R' R' j1 j1 (by omega) (by omega);have l1:=n9 j1 j1;have c2:=wI (G:=G) (dF R' R') [1] (kj _ _) Av (by omega) (by show 1<=1000000;omega);have oT:=Aw (R:=R') (x:=a.getD i 0) (bit:=p);have lT:=wP j1 (a.getD i 0) p;have QO:jF R' (a.getD i 0) p=if a.getD i 0/2 ^ p%2=1 then dF (dF R' R') [1] else dF R' R':=rfl
       have q1:kp B (a.getD i 0) i (R,Q) (16-p)=if val (jF R' (a.getD i 0) p)<val B then (jF R' (a.getD i 0) p,Q') else (df (cv (jF R' (a.getD i 0) p) B),dN Q' i (Q' i+2 ^ p)):=q1
       have s1:=MD (a.getD i 0) p _ (min (((p+1:Nat):Int)-1).toNat IntKind.u64.bits) e2 (by have:IntKind.u64.bits=64:=rfl;omega);have s3:=MC p (min (((p+1:Nat):Int)-1).toNat IntKind.u64.bits) (by have:IntKind.u64.bits=64:=rfl;omega) (by omega);have s4:IntKind.u64.wrap (((Q' i:Nat):Int)+((2 ^ p:Nat):Int))=((Q' i+2 ^ p:Nat):Int):=aV (by omega);have s2:(((p+1:Nat):Int)-1).toNat=p:=by omega
       by_cases ET:a.getD i 0/2 ^ p%2=1
       ·rw[if_pos ET] at QO;rw[QO] at q1 oT lT;generalize dF (dF R' R') [1]=T at *;have c3:=sQ (G:=G) T B oT fN (by omega) (by omega);have c4:=oQ (G:=G) T B oT fN (by omega);have c5:=wM (G:=G) (cv T B) (by rw[dJ];omega);(conv=>whnf);repeat' (first|refine bo ?_|refine aG ?_|((first|refine aB ak ?_|refine aS ak mixed ?_|refine aR ?_|refine aP ?_|refine aQ ?_|refine bp ?_);conv=>whnf)|(refine And.intro (fun h=>?_) (fun h=>?_)<;>(try simp only[ae] at h)<;>conv=>whnf)|(refine Or.inl ?_;(conv=>whnf);refine⟨_,c1,?_⟩;conv=>whnf)|(refine Or.inr (Or.inr (Or.inl ?_));(conv=>whnf);refine⟨_,c1,?_⟩;conv=>whnf)|(refine Exists.intro _ (And.intro (c1) ?_);conv=>whnf)|(refine Or.inr (Or.inr (Or.inl ?_));(conv=>whnf);refine⟨_,c2.fit uS,?_⟩;conv=>whnf)|(refine Exists.intro _ (And.intro (c2.fit uS) ?_);conv=>whnf)|(refine Or.inl ?_;(conv=>whnf);refine⟨_,c3,?_⟩;conv=>whnf)|(refine Or.inr (Or.inr (Or.inl ?_));(conv=>whnf);refine⟨_,c3,?_⟩;conv=>whnf)|(refine Exists.intro _ (And.intro (c3) ?_);conv=>whnf)|(refine Or.inl ?_;(conv=>whnf);refine⟨_,c4,?_⟩;conv=>whnf)|(refine Or.inr (Or.inr (Or.inl ?_));(conv=>whnf);refine⟨_,c4,?_⟩;conv=>whnf)|(refine Exists.intro _ (And.intro (c4) ?_);conv=>whnf)|(refine Or.inl ?_;(conv=>whnf);refine⟨_,c5,?_⟩;conv=>whnf)|(refine Or.inr (Or.inr (Or.inl ?_));(conv=>whnf);refine⟨_,c5,?_⟩;conv=>whnf)|(refine Exists.intro _ (And.intro (c5) ?_);conv=>whnf)|(refine bB ?_ ?_;(focus (first|exact bC (by omega)|exact aV (by omega)|exact cy (by omega)|exact bG (by omega)|exact bH (by omega)));conv=>whnf)|((first|refine aY ?_|(refine And.intro (a:=bf _ _=true) ?_ ?_;(focus kernel_rfl))|refine And.intro rfl ?_|(refine And.intro ?_ ?_;(focus (first|omega|decide|(dsimp only;omega)|(simp at *;omega)))));conv=>whnf))
        all_goals first|contradiction|(exfalso;omega)|skip
        ·rw[if_neg (by assumption)] at q1;refine⟨(p,df (cv T B),dN Q' i (Q' i+2 ^ p)),⟨(by show p<=16;omega),q1.symm⟩,(by show p<p+1;omega),?_⟩;(conv=>whnf)
         repeat (first|exact rfl|exact trivial|exact Or.inl (fun _ _=>rfl)|exact(fun _=>rfl)|exact(fun _ _=>rfl)|exact Or.inl (fun _ hi=>absurd hi (Nat.not_lt_zero _))|((first|refine And.intro rfl ?_|refine And.intro (Or.inl (fun _ _=>rfl)) ?_|refine And.intro (fun _=>rfl) ?_|refine And.intro (fun _ _=>rfl) ?_|(refine And.intro ?_ ?_;rotate_left));conv=>whnf))
         all_goals first
          | omega
          | (refine Or.inl fun j hj => ?_
             show bZ _ _ _ j=[A.int .u64 ((dN Q' i (Q' i+2 ^ p) j:Nat):Int)];unfold bZ dN;rw[s3,e1,s4];split<;>rfl)
         
        ·rw[if_pos (by assumption)] at q1;refine⟨(p,T,Q'),⟨(by show p<=16;omega),q1.symm⟩,(by show p<p+1;omega),?_⟩;(conv=>whnf)
         repeat (first|exact rfl|exact trivial|exact Or.inl (fun _ _=>rfl)|exact(fun _=>rfl)|exact(fun _ _=>rfl)|exact Or.inl (fun _ hi=>absurd hi (Nat.not_lt_zero _))|((first|refine And.intro rfl ?_|refine And.intro (Or.inl (fun _ _=>rfl)) ?_|refine And.intro (fun _=>rfl) ?_|refine And.intro (fun _ _=>rfl) ?_|(refine And.intro ?_ ?_;rotate_left));conv=>whnf))
         all_goals first|omega
       ·rw[if_neg ET] at QO;rw[QO] at q1 oT lT;generalize dF R' R'=T at *;have c3:=sQ (G:=G) T B oT fN (by omega) (by omega);have c4:=oQ (G:=G) T B oT fN (by omega);have c5:=wM (G:=G) (cv T B) (by rw[dJ];omega);(conv=>whnf);repeat' (first|refine bo ?_|refine aG ?_|((first|refine aB ak ?_|refine aS ak mixed ?_|refine aR ?_|refine aP ?_|refine aQ ?_|refine bp ?_);conv=>whnf)|(refine And.intro (fun h=>?_) (fun h=>?_)<;>(try simp only[ae] at h)<;>conv=>whnf)|(refine Or.inl ?_;(conv=>whnf);refine⟨_,c1,?_⟩;conv=>whnf)|(refine Or.inr (Or.inr (Or.inl ?_));(conv=>whnf);refine⟨_,c1,?_⟩;conv=>whnf)|(refine Exists.intro _ (And.intro (c1) ?_);conv=>whnf)|(refine Or.inl ?_;(conv=>whnf);refine⟨_,c3,?_⟩;conv=>whnf)|(refine Or.inr (Or.inr (Or.inl ?_));(conv=>whnf);refine⟨_,c3,?_⟩;conv=>whnf)|(refine Exists.intro _ (And.intro (c3) ?_);conv=>whnf)|(refine Or.inl ?_;(conv=>whnf);refine⟨_,c4,?_⟩;conv=>whnf)|(refine Or.inr (Or.inr (Or.inl ?_));(conv=>whnf);refine⟨_,c4,?_⟩;conv=>whnf)|(refine Exists.intro _ (And.intro (c4) ?_);conv=>whnf)|(refine Or.inl ?_;(conv=>whnf);refine⟨_,c5,?_⟩;conv=>whnf)|(refine Or.inr (Or.inr (Or.inl ?_));(conv=>whnf);refine⟨_,c5,?_⟩;conv=>whnf)|(refine Exists.intro _ (And.intro (c5) ?_);conv=>whnf)|(refine bB ?_ ?_;(focus (first|exact bC (by omega)|exact aV (by omega)|exact cy (by omega)|exact bG (by omega)|exact bH (by omega)));conv=>whnf)|((first|refine aY ?_|(refine And.intro (a:=bf _ _=true) ?_ ?_;(focus kernel_rfl))|refine And.intro rfl ?_|(refine And.intro ?_ ?_;(focus (first|omega|decide|(dsimp only;omega)|(simp at *;omega)))));conv=>whnf))
        all_goals first|contradiction|(exfalso;omega)|skip
        ·rw[if_neg (by assumption)] at q1;refine⟨(p,df (cv T B),dN Q' i (Q' i+2 ^ p)),⟨(by show p<=16;omega),q1.symm⟩,(by show p<p+1;omega),?_⟩;(conv=>whnf)
         repeat (first|exact rfl|exact trivial|exact Or.inl (fun _ _=>rfl)|exact(fun _=>rfl)|exact(fun _ _=>rfl)|exact Or.inl (fun _ hi=>absurd hi (Nat.not_lt_zero _))|((first|refine And.intro rfl ?_|refine And.intro (Or.inl (fun _ _=>rfl)) ?_|refine And.intro (fun _=>rfl) ?_|refine And.intro (fun _ _=>rfl) ?_|(refine And.intro ?_ ?_;rotate_left));conv=>whnf))
         all_goals first
          | omega
          | (refine Or.inl fun j hj => ?_
             show bZ _ _ _ j=[A.int .u64 ((dN Q' i (Q' i+2 ^ p) j:Nat):Int)];unfold bZ dN;rw[s3,e1,s4];split<;>rfl)
         
        ·rw[if_pos (by assumption)] at q1;refine⟨(p,T,Q'),⟨(by show p<=16;omega),q1.symm⟩,(by show p<p+1;omega),?_⟩;(conv=>whnf)
         repeat (first|exact rfl|exact trivial|exact Or.inl (fun _ _=>rfl)|exact(fun _=>rfl)|exact(fun _ _=>rfl)|exact Or.inl (fun _ hi=>absurd hi (Nat.not_lt_zero _))|((first|refine And.intro rfl ?_|refine And.intro (Or.inl (fun _ _=>rfl)) ?_|refine And.intro (fun _=>rfl) ?_|refine And.intro (fun _ _=>rfl) ?_|(refine And.intro ?_ ?_;rotate_left));conv=>whnf))
         all_goals first|omega
def aF(w:Nat->Nat):A:=.agg [.int .u64 (w 0:Nat),.int .u64 (w 1:Nat),.int .u64 (w 2:Nat),.int .u64 (w 3:Nat),.int .u64 (w 4:Nat),.int .u64 (w 5:Nat),.int .u64 (w 6:Nat),.int .u64 (w 7:Nat)]
def dW(w:Nat->Nat):List Nat:=ck (w 0)++(ck (w 1)++(ck (w 2)++(ck (w 3)++(ck (w 4)++(ck (w 5)++(ck (w 6)++ck (w 7)))))))
theorem lq(w:Nat->Nat):(dW w).length=32:=rfl
def cK(w:Nat->Nat):Prop:=∀i,w i<18446744073709551616
theorem pz{w:Nat->Nat}(h:cK w):cr (dW w):=by
 intro x hx;unfold dW at hx;simp only[List.mem_append] at hx;rcases hx with h'|h'|h'|h'|h'|h'|h'|h';all_goals exact kX (h _) x h'
theorem kZ(L:List Nat)(n m:Nat)(r:Nat->List A)(hr:∀t,t<m->r t=[.int .u64 ((L.getD (n+t) 0:Nat):Int)])(j:Nat)(hj:j<n+m):aO n (fun j=>[.int .u64 ((L.getD j 0:Nat):Int)]) r j=[A.int IntKind.u64 ((L.getD j 0:Nat):Int)]:=by
 unfold aO;split
 ·rfl
 ·rename_i q;have q:¬j<n:=fun h'=>by rw[show Nat.blt j n=true from Nat.ble_eq_true_of_le h'] at q;cases q
  rw[hr _ (by omega),show n+(j-n)=j by omega]
theorem iS(w:Nat->Nat)(hw:cK w):aa Tryz.prog G 125 [aF w] (fS (dW w)):=by
 have hd:=fun i=>ji (G:=G) (w i) (hw i);refine aa.af ak Tryz.func125 rfl rfl _ rfl ?_;(conv=>whnf)
 repeat (first|(refine st ?_;conv=>whnf))
 refine ah (fun i:Nat=>i<=8) (fun i=>[(4,.int .i64 (i:Int)),(3,.own 1),(5,.aj)]) (fun i=>[.box 53 [.int .u64 (w 0:Nat),.int .u64 (w 1:Nat),.int .u64 (w 2:Nat),.int .u64 (w 3:Nat),.int .u64 (w 4:Nat),.int .u64 (w 5:Nat),.int .u64 (w 6:Nat),.int .u64 (w 7:Nat)],.row 51 1 (4*i) (fun j=>[.int .u64 (((dW w).getD j 0:Nat):Int)])]) (fun i=>8-i) 0 (by omega) ?_ ?_
 ·conv=>whnf
  repeat (first|exact fa|((first|refine fb ?_|(refine And.intro ?_ ?_;rotate_left));conv=>whnf))
 ·intro i hi;have e:i=0\/i=1\/i=2\/i=3\/i=4\/i=5\/i=6\/i=7\/i=8:=by omega
  rcases e with rfl|rfl|rfl|rfl|rfl|rfl|rfl|rfl|rfl
  ·have hd:=hd 0;have hl:(ck (w 0)).length=4:=rfl;(conv=>whnf);repeat' ((first|refine st ?_|(refine⟨fun h=>?_,fun h=>?_⟩<;>try simp only[ae] at h)|(refine .inl ?_;(conv=>whnf);refine⟨_,hd,?_⟩)|refine wf ?_|refine ao ?_|refine nn ?_|fail)<;>conv=>whnf)
   all_goals first|contradiction|(exfalso;omega)|skip
   refine⟨1,(by show 1<=8;omega),(by show 8-1<8-0;omega),?_⟩;(conv=>whnf)
   repeat (first|exact fa|((first|refine fb ?_|(refine And.intro ?_ ?_;rotate_left));conv=>whnf))
   all_goals first
    | exact Or.inl (kZ (dW w) (4*0) 4 _ (fun t ht=>by
      match t,ht with
      | 0,_=>rfl
      | 1,_=>rfl
      | 2,_=>rfl
      | 3,_=>rfl))
   
  ·have hd:=hd 1;have hl:(ck (w 1)).length=4:=rfl;(conv=>whnf);repeat' ((first|refine st ?_|(refine⟨fun h=>?_,fun h=>?_⟩<;>try simp only[ae] at h)|(refine .inl ?_;(conv=>whnf);refine⟨_,hd,?_⟩)|refine wf ?_|refine ao ?_|refine nn ?_|fail)<;>conv=>whnf)
   all_goals first|contradiction|(exfalso;omega)|skip
   refine⟨2,(by show 2<=8;omega),(by show 8-2<8-1;omega),?_⟩;(conv=>whnf)
   repeat (first|exact fa|((first|refine fb ?_|(refine And.intro ?_ ?_;rotate_left));conv=>whnf))
   all_goals first
    | exact Or.inl (kZ (dW w) (4*1) 4 _ (fun t ht=>by
      match t,ht with
      | 0,_=>rfl
      | 1,_=>rfl
      | 2,_=>rfl
      | 3,_=>rfl))
   
  ·have hd:=hd 2;have hl:(ck (w 2)).length=4:=rfl;(conv=>whnf);repeat' ((first|refine st ?_|(refine⟨fun h=>?_,fun h=>?_⟩<;>try simp only[ae] at h)|(refine .inl ?_;(conv=>whnf);refine⟨_,hd,?_⟩)|refine wf ?_|refine ao ?_|refine nn ?_|fail)<;>conv=>whnf)
   all_goals first|contradiction|(exfalso;omega)|skip
   refine⟨3,(by show 3<=8;omega),(by show 8-3<8-2;omega),?_⟩;(conv=>whnf)
   repeat (first|exact fa|((first|refine fb ?_|(refine And.intro ?_ ?_;rotate_left));conv=>whnf))
   all_goals first
    | exact Or.inl (kZ (dW w) (4*2) 4 _ (fun t ht=>by
      match t,ht with
      | 0,_=>rfl
      | 1,_=>rfl
      | 2,_=>rfl
      | 3,_=>rfl))
   
  ·have hd:=hd 3;have hl:(ck (w 3)).length=4:=rfl;(conv=>whnf);repeat' ((first|refine st ?_|(refine⟨fun h=>?_,fun h=>?_⟩<;>try simp only[ae] at h)|(refine .inl ?_;(conv=>whnf);refine⟨_,hd,?_⟩)|refine wf ?_|refine ao ?_|refine nn ?_|fail)<;>conv=>whnf)
   all_goals first|contradiction|(exfalso;omega)|skip
   refine⟨4,(by show 4<=8;omega),(by show 8-4<8-3;omega),?_⟩;(conv=>whnf)
   repeat (first|exact fa|((first|refine fb ?_|(refine And.intro ?_ ?_;rotate_left));conv=>whnf))
   all_goals first
    | exact Or.inl (kZ (dW w) (4*3) 4 _ (fun t ht=>by
      match t,ht with
      | 0,_=>rfl
      | 1,_=>rfl
      | 2,_=>rfl
      | 3,_=>rfl))
   
  ·have hd:=hd 4;have hl:(ck (w 4)).length=4:=rfl;(conv=>whnf);repeat' ((first|refine st ?_|(refine⟨fun h=>?_,fun h=>?_⟩<;>try simp only[ae] at h)|(refine .inl ?_;(conv=>whnf);refine⟨_,hd,?_⟩)|refine wf ?_|refine ao ?_|refine nn ?_|fail)<;>conv=>whnf)
   all_goals first|contradiction|(exfalso;omega)|skip
   refine⟨5,(by show 5<=8;omega),(by show 8-5<8-4;omega),?_⟩;(conv=>whnf)
   repeat (first|exact fa|((first|refine fb ?_|(refine And.intro ?_ ?_;rotate_left));conv=>whnf))
   all_goals first
    | exact Or.inl (kZ (dW w) (4*4) 4 _ (fun t ht=>by
      match t,ht with
      | 0,_=>rfl
      | 1,_=>rfl
      | 2,_=>rfl
      | 3,_=>rfl))
   
  ·have hd:=hd 5;have hl:(ck (w 5)).length=4:=rfl;(conv=>whnf);repeat' ((first|refine st ?_|(refine⟨fun h=>?_,fun h=>?_⟩<;>try simp only[ae] at h)|(refine .inl ?_;(conv=>whnf);refine⟨_,hd,?_⟩)|refine wf ?_|refine ao ?_|refine nn ?_|fail)<;>conv=>whnf)
   all_goals first|contradiction|(exfalso;omega)|skip
   refine⟨6,(by show 6<=8;omega),(by show 8-6<8-5;omega),?_⟩;(conv=>whnf)
   repeat (first|exact fa|((first|refine fb ?_|(refine And.intro ?_ ?_;rotate_left));conv=>whnf))
   all_goals first
    | exact Or.inl (kZ (dW w) (4*5) 4 _ (fun t ht=>by
      match t,ht with
      | 0,_=>rfl
      | 1,_=>rfl
      | 2,_=>rfl
      | 3,_=>rfl))
   
  ·have hd:=hd 6;have hl:(ck (w 6)).length=4:=rfl;(conv=>whnf);repeat' ((first|refine st ?_|(refine⟨fun h=>?_,fun h=>?_⟩<;>try simp only[ae] at h)|(refine .inl ?_;(conv=>whnf);refine⟨_,hd,?_⟩)|refine wf ?_|refine ao ?_|refine nn ?_|fail)<;>conv=>whnf)
   all_goals first|contradiction|(exfalso;omega)|skip
   refine⟨7,(by show 7<=8;omega),(by show 8-7<8-6;omega),?_⟩;(conv=>whnf)
   repeat (first|exact fa|((first|refine fb ?_|(refine And.intro ?_ ?_;rotate_left));conv=>whnf))
   all_goals first
    | exact Or.inl (kZ (dW w) (4*6) 4 _ (fun t ht=>by
      match t,ht with
      | 0,_=>rfl
      | 1,_=>rfl
      | 2,_=>rfl
      | 3,_=>rfl))
   
  ·have hd:=hd 7;have hl:(ck (w 7)).length=4:=rfl;(conv=>whnf);repeat' ((first|refine st ?_|(refine⟨fun h=>?_,fun h=>?_⟩<;>try simp only[ae] at h)|(refine .inl ?_;(conv=>whnf);refine⟨_,hd,?_⟩)|refine wf ?_|refine ao ?_|refine nn ?_|fail)<;>conv=>whnf)
   all_goals first|contradiction|(exfalso;omega)|skip
   refine⟨8,(by show 8<=8;omega),(by show 8-8<8-7;omega),?_⟩;(conv=>whnf)
   repeat (first|exact fa|((first|refine fb ?_|(refine And.intro ?_ ?_;rotate_left));conv=>whnf))
   all_goals first
    | exact Or.inl (kZ (dW w) (4*7) 4 _ (fun t ht=>by
      match t,ht with
      | 0,_=>rfl
      | 1,_=>rfl
      | 2,_=>rfl
      | 3,_=>rfl))
   
  ·(conv=>whnf);repeat' ((first|refine st ?_|(refine⟨fun h=>?_,fun h=>?_⟩<;>try simp only[ae] at h)|refine wf ?_|refine ao ?_|refine nn ?_|fail)<;>conv=>whnf)
   all_goals first|contradiction|(exfalso;omega)|skip
   all_goals first|exact Or.inl fun _ _=>rfl
def cW(d:List Nat)(i j:Nat):Nat:=if j<i then kW d (4*j) else 0
def ZP(d:List Nat)(i:Nat):Prop:=∀j,j<i->32<=j->d.getD j 0=0
instance (d:List Nat) (i:Nat):Decidable (ZP d i):=inferInstanceAs (Decidable (∀ j,j < i->32<=j->d.getD j 0=0))
def Yx(d:List Nat)(i:Nat):ar:=.box 53 [.int .u64 (cW d i 0:Nat),.int .u64 (cW d i 1:Nat),.int .u64 (cW d i 2:Nat),.int .u64 (cW d i 3:Nat),.int .u64 (cW d i 4:Nat),.int .u64 (cW d i 5:Nat),.int .u64 (cW d i 6:Nat),.int .u64 (cW d i 7:Nat)]
def Yy:ar:=.box 53 [.int .u64 0,.int .u64 0,.int .u64 0,.int .u64 0,.int .u64 0,.int .u64 0,.int .u64 0,.int .u64 0]
theorem wR(d:List Nat)(hd:cr d)(ld:d.length<=1000000):aa Tryz.prog G 174 [fS d] (.tup [aF (fun j=>kW d (4*j)),.sb (decide (ZP d d.length))]):=by
 have hw:=fun p=>Ms (G:=G) d hd p;refine aa.af ak Tryz.func174 rfl rfl _ rfl ?_;(conv=>whnf)
 repeat (first|(refine st ?_;conv=>whnf))
 refine ah (fun i:Nat=>i<=8) (fun i=>[(5,.int .i64 (i:Int))]) (fun i=>[Yy,Yx d i]) (fun i=>8-i) 0 (by omega) ?_ ?_
 ·conv=>whnf
  repeat (first|exact fa|((first|refine fb ?_|(refine And.intro ?_ ?_;rotate_left));conv=>whnf))
 ·intro i hi;have e:i=0\/i=1\/i=2\/i=3\/i=4\/i=5\/i=6\/i=7\/i=8:=by omega
  rcases e with rfl|rfl|rfl|rfl|rfl|rfl|rfl|rfl|rfl
  ·have hw:=hw 0 (by omega) ld;(conv=>whnf);repeat' ((first|refine st ?_|(refine⟨fun h=>?_,fun h=>?_⟩<;>try simp only[ae] at h)|(refine .inl ?_;(conv=>whnf);refine⟨_,hw,?_⟩)|refine wf ?_|refine ao ?_|refine nn ?_|fail)<;>conv=>whnf)
   all_goals first|contradiction|(exfalso;omega)|skip
   refine⟨1,(by show 1<=8;omega),(by show 8-1<8-0;omega),?_⟩;(conv=>whnf)
   repeat (first|exact fa|((first|refine fb ?_|(refine And.intro ?_ ?_;rotate_left));conv=>whnf))
  ·have hw:=hw 4 (by omega) ld;(conv=>whnf);repeat' ((first|refine st ?_|(refine⟨fun h=>?_,fun h=>?_⟩<;>try simp only[ae] at h)|(refine .inl ?_;(conv=>whnf);refine⟨_,hw,?_⟩)|refine wf ?_|refine ao ?_|refine nn ?_|fail)<;>conv=>whnf)
   all_goals first|contradiction|(exfalso;omega)|skip
   refine⟨2,(by show 2<=8;omega),(by show 8-2<8-1;omega),?_⟩;(conv=>whnf)
   repeat (first|exact fa|((first|refine fb ?_|(refine And.intro ?_ ?_;rotate_left));conv=>whnf))
  ·have hw:=hw 8 (by omega) ld;(conv=>whnf);repeat' ((first|refine st ?_|(refine⟨fun h=>?_,fun h=>?_⟩<;>try simp only[ae] at h)|(refine .inl ?_;(conv=>whnf);refine⟨_,hw,?_⟩)|refine wf ?_|refine ao ?_|refine nn ?_|fail)<;>conv=>whnf)
   all_goals first|contradiction|(exfalso;omega)|skip
   refine⟨3,(by show 3<=8;omega),(by show 8-3<8-2;omega),?_⟩;(conv=>whnf)
   repeat (first|exact fa|((first|refine fb ?_|(refine And.intro ?_ ?_;rotate_left));conv=>whnf))
  ·have hw:=hw 12 (by omega) ld;(conv=>whnf);repeat' ((first|refine st ?_|(refine⟨fun h=>?_,fun h=>?_⟩<;>try simp only[ae] at h)|(refine .inl ?_;(conv=>whnf);refine⟨_,hw,?_⟩)|refine wf ?_|refine ao ?_|refine nn ?_|fail)<;>conv=>whnf)
   all_goals first|contradiction|(exfalso;omega)|skip
   refine⟨4,(by show 4<=8;omega),(by show 8-4<8-3;omega),?_⟩;(conv=>whnf)
   repeat (first|exact fa|((first|refine fb ?_|(refine And.intro ?_ ?_;rotate_left));conv=>whnf))
  ·have hw:=hw 16 (by omega) ld;(conv=>whnf);repeat' ((first|refine st ?_|(refine⟨fun h=>?_,fun h=>?_⟩<;>try simp only[ae] at h)|(refine .inl ?_;(conv=>whnf);refine⟨_,hw,?_⟩)|refine wf ?_|refine ao ?_|refine nn ?_|fail)<;>conv=>whnf)
   all_goals first|contradiction|(exfalso;omega)|skip
   refine⟨5,(by show 5<=8;omega),(by show 8-5<8-4;omega),?_⟩;(conv=>whnf)
   repeat (first|exact fa|((first|refine fb ?_|(refine And.intro ?_ ?_;rotate_left));conv=>whnf))
  ·have hw:=hw 20 (by omega) ld;(conv=>whnf);repeat' ((first|refine st ?_|(refine⟨fun h=>?_,fun h=>?_⟩<;>try simp only[ae] at h)|(refine .inl ?_;(conv=>whnf);refine⟨_,hw,?_⟩)|refine wf ?_|refine ao ?_|refine nn ?_|fail)<;>conv=>whnf)
   all_goals first|contradiction|(exfalso;omega)|skip
   refine⟨6,(by show 6<=8;omega),(by show 8-6<8-5;omega),?_⟩;(conv=>whnf)
   repeat (first|exact fa|((first|refine fb ?_|(refine And.intro ?_ ?_;rotate_left));conv=>whnf))
  ·have hw:=hw 24 (by omega) ld;(conv=>whnf);repeat' ((first|refine st ?_|(refine⟨fun h=>?_,fun h=>?_⟩<;>try simp only[ae] at h)|(refine .inl ?_;(conv=>whnf);refine⟨_,hw,?_⟩)|refine wf ?_|refine ao ?_|refine nn ?_|fail)<;>conv=>whnf)
   all_goals first|contradiction|(exfalso;omega)|skip
   refine⟨7,(by show 7<=8;omega),(by show 8-7<8-6;omega),?_⟩;(conv=>whnf)
   repeat (first|exact fa|((first|refine fb ?_|(refine And.intro ?_ ?_;rotate_left));conv=>whnf))
  ·have hw:=hw 28 (by omega) ld;(conv=>whnf);repeat' ((first|refine st ?_|(refine⟨fun h=>?_,fun h=>?_⟩<;>try simp only[ae] at h)|(refine .inl ?_;(conv=>whnf);refine⟨_,hw,?_⟩)|refine wf ?_|refine ao ?_|refine nn ?_|fail)<;>conv=>whnf)
   all_goals first|contradiction|(exfalso;omega)|skip
   refine⟨8,(by show 8<=8;omega),(by show 8-8<8-7;omega),?_⟩;(conv=>whnf)
   repeat (first|exact fa|((first|refine fb ?_|(refine And.intro ?_ ?_;rotate_left));conv=>whnf))
  ·(conv=>whnf);repeat' ((first|refine st ?_|(refine⟨fun h=>?_,fun h=>?_⟩<;>try simp only[ae] at h)|refine wf ?_|refine ao ?_|refine nn ?_|fail)<;>conv=>whnf)
   all_goals first|contradiction|(exfalso;omega)|skip
   refine ah (fun i:Nat=>32<=i/\(i<=d.length\/i=32)) (fun i=>[(7,.int .i64 (i:Int)),(6,.sb (decide (ZP d i)))]) (fun _=>[Yy,Yx d 8]) (fun i=>d.length-i) 32 ⟨by omega,.inr rfl⟩ ?_ ?_
   ·conv=>whnf
    repeat (first|exact fa|((first|refine fb ?_|(refine And.intro ?_ ?_;rotate_left));conv=>whnf))
    all_goals first|(exact(decide_eq_true (fun j h1 h2=>by omega)).symm)
   ·rintro i ⟨h32,hi⟩;have e1:d.getD (i:Int).toNat 0=d.getD i 0:=rfl
    have hz:ZP d (i+1)↔ZP d i/\d.getD i 0=0:=⟨fun h=>⟨fun j h1 h2=>h j (by omega) h2,h i (by omega) h32⟩,fun⟨h1,h2⟩ j h3 h4=>by
     rcases Nat.eq_or_lt_of_le (Nat.le_of_lt_succ h3) with e|e
     ·rw[e];exact h2
     ·exact h1 j e h4⟩
    rcases Nat.lt_or_ge i d.length with q|q
    ·(conv=>whnf);repeat' ((first|refine st ?_|(refine⟨fun h=>?_,fun h=>?_⟩<;>try simp only[ae] at h)|refine wf ?_|refine ao ?_|refine nn ?_|fail)<;>conv=>whnf)
     all_goals first|contradiction|(exfalso;omega)|skip
     all_goals
      refine⟨i+1,⟨(by show 32<=i+1;omega),.inl (by show i+1<=d.length;omega)⟩,(by show d.length-(i+1)<d.length-i;omega),?_⟩;(conv=>whnf)
      repeat (first|exact fa|((first|refine fb ?_|(refine And.intro ?_ ?_;rotate_left));conv=>whnf))
      all_goals first
       | exact(decide_eq_false (fun q=>‹¬ZP d i› (hz.1 q).1)).symm
       | (rw [Bool.eq_iff_iff]
          simp only[beq_iff_eq,decide_eq_true_eq];rw[hz];exact⟨fun h=>⟨‹ZP d i›,by omega⟩,fun h=>by have:=h.2;omega⟩)
      
    ·have hze:ZP d i↔ZP d d.length:=⟨fun h j h1 h2=>h j (by omega) h2,fun h j h1 h2=>by
      rcases Nat.lt_or_ge j d.length with r|r
      ·exact h j r h2
      ·exact fT r⟩
     (conv=>whnf);repeat' ((first|refine st ?_|(refine⟨fun h=>?_,fun h=>?_⟩<;>try simp only[ae] at h)|refine wf ?_|refine ao ?_|refine nn ?_|fail)<;>conv=>whnf)
     all_goals first|contradiction|(exfalso;omega)|skip
     all_goals first|exact decide_eq_decide.2 hze
theorem ME(f:Nat->Nat)(n m:Nat):vf f (n+m)=vf f n+vf (fun i=>f (n+i)) m*65536 ^ n:=by
 induction m with
 | zero=>show vf f n=_;rw[vf,Nat.zero_mul,Nat.add_zero]
 | succ m ih =>
  show vf f (n+m+1)=_;rw[vf,vf,ih,Nat.add_mul,Nat.pow_add,Nat.mul_assoc,Nat.mul_comm (65536 ^ m),Nat.add_assoc]
theorem UO{d:List Nat}(hd:cr d):ZP d d.length↔val d<65536 ^ 32:=by
 constructor
 ·intro h
  rw[gA d (d.length+32) (by omega),Au (n:=32) (d.length+32) (fun i h1 h2=>by
   rcases Nat.lt_or_ge i d.length with r|r
   ·exact h i r h1
   ·exact fT r) (by omega)]
  exact Mu fun i _=>hd.get i
 ·intro h j h1 h2;rw[gA d (d.length+32) (by omega)] at h;have e:=wJ (f:=fun i=>d.getD i 0) 32 (d.length+32) (by omega) h;rw[show d.length+32=32+d.length by omega,ME] at e
  have e0:vf (fun i=>d.getD (32+i) 0) d.length=0:=by
   rcases Nat.eq_zero_or_pos (vf (fun i=>d.getD (32+i) 0) d.length) with z|z
   ·exact z
   ·have:=Nat.mul_le_mul_right (65536 ^ 32) z;omega
  have key:∀(f:Nat->Nat) n,vf f n=0->∀i,i<n->f i=0:=by
   intro f n
   induction n with
   | zero=>intro _ i hi;omega
   | succ n ih =>
    intro h i hi;rw[vf] at h;have hp:0<65536 ^ n:=Nat.pow_pos (by omega);have h0:f n*65536 ^ n=0:=by omega
    rcases Nat.eq_or_lt_of_le (Nat.le_of_lt_succ hi) with e|e
    ·rw[e];rcases Nat.mul_eq_zero.1 h0 with z|z
     ·exact z
     ·omega
    ·exact ih (by omega) i e
  have:=key _ _ e0 (j-32) (by omega);rw[show 32+(j-32)=j by omega] at this;exact this
def wv(w:Nat->Nat):Nat:=val (dW w)
theorem Jf{d:List Nat}(h:cr d)(p:Nat):ck (kW d p)=[d.getD p 0,d.getD (p+1) 0,d.getD (p+2) 0,d.getD (p+3) 0]:=by
 have e:kW d p=((d.getD (p+3) 0*65536+d.getD (p+2) 0)*65536+d.getD (p+1) 0)*65536+d.getD p 0:=by
  show(((0*65536+d.getD (p+3-0) 0)*65536+d.getD (p+3-1) 0)*65536+d.getD (p+3-2) 0)*65536+d.getD (p+3-3) 0=_;rw[show p+3-0=p+3 by omega,show p+3-1=p+2 by omega,show p+3-2=p+1 by omega,show p+3-3=p by omega,Nat.zero_mul,Nat.zero_add]
 have h0:=h.get p;have h1:=h.get (p+1);have h2:=h.get (p+2);have h3:=h.get (p+3);unfold ck;rw[e];generalize d.getD p 0=x0 at *;generalize d.getD (p+1) 0=x1 at *;generalize d.getD (p+2) 0=x2 at *;generalize d.getD (p+3) 0=x3 at *
 congr 1
 ·omega
 ·congr 1
  ·omega
  ·congr 1
   ·omega
   ·congr 1
    omega
/-- The words of digits, taken apart again. -/
theorem uT{d:List Nat}(h:cr d)(hv:val d<65536 ^ 32):wv (fun j=>kW d (4*j))=val d:=by
 have e:dW (fun j=>kW d (4*j))=(List.range 32).map fun i=>d.getD i 0:=by
  unfold dW;simp only[Jf h];rfl
 have h1:val d=vf (fun i=>d.getD i 0) 32:=by
  rw[gA d (32+d.length) (by omega)];rw[gA d (32+d.length) (by omega)] at hv;exact wJ 32 _ (by omega) hv
 rw[wv,e,h1,val];have hl:((List.range 32).map fun i=>d.getD i 0).length=32:=by simp
 rw[hl];refine gu fun i hi=>?_;rw[List.getD_eq_getElem?_getD,List.getElem?_map,List.getElem?_range hi];rfl
theorem Ax{d:List Nat}(h:cr d):cK (fun j=>kW d (4*j)):=fun _=>wH h _
def qW(a b:Nat->Nat):Nat->Nat:=fun j=>kW (kY (dW a) (df (dW b))) (4*j)
def rW(a b:Nat->Nat):Nat->Nat:=fun j=>kW (oa (dW a) (df (dW b))) (4*j)
theorem Fg{a b:Nat->Nat}(ha:cK a)(hb:cK b)(h0:0<wv b):cK (qW a b)/\cK (rW a b)/\wv (qW a b)=wv a/wv b/\wv (rW a b)=wv a%wv b:=by
 have da:=pz ha;have db:=nZ (pz hb);have hv:val (df (dW b))=wv b:=jX _;obtain⟨h1,h2,_,h4,h5⟩:=wQ da db (by rw[hv];exact h0);have aH:wv a<65536 ^ 32:=da.lt;rw[hv] at h4 h5;have h4:val (kY (dW a) (df (dW b)))=wv a/wv b:=h4;have h5:val (oa (dW a) (df (dW b)))=wv a%wv b:=h5;have hq:wv a/wv b<=wv a:=Nat.div_le_self _ _;have hr:wv a%wv b<=wv a:=Nat.mod_le _ _;refine⟨Ax h1,Ax h2,?_,?_⟩
 ·exact(uT h1 (by omega)).trans h4
 ·exact(uT h2 (by omega)).trans h5
theorem MF(a b:Nat->Nat)(ha:cK a)(hb:cK b)(h0:0<wv b):aa Tryz.prog G 127 [aF a,aF b] (.tup [aF (qW a b),aF (rW a b)]):=by
 have c1:=iS (G:=G) a ha;have c2:=iS (G:=G) b hb;have c3:=Ht (G:=G) (dW a) (dW b) (pz ha) (pz hb) h0 (by rw[lq];omega) (by rw[lq];omega);obtain⟨h1,h2,h3,_,_⟩:=wQ (pz ha) (nZ (pz hb)) (by rw[jX];exact h0);rw[lq] at h3;have c4:=wR (G:=G) _ h1 (by rw[oU,lq];omega);have c5:=wR (G:=G) _ h2 (by omega);unfold qW rW;refine aa.af ak Tryz.func127 rfl rfl _ rfl ?_;(conv=>whnf);repeat' ((first|refine st ?_|(refine⟨fun h=>?_,fun h=>?_⟩<;>try simp only[ae] at h)|(refine .inl ?_;(conv=>whnf);(first|refine⟨_,c1,?_⟩|refine⟨_,c2,?_⟩|refine⟨_,c3,?_⟩|refine⟨_,c4,?_⟩|refine⟨_,c5,?_⟩))|refine wf ?_|refine ao ?_|refine nn ?_|fail)<;>conv=>whnf)
 all_goals first|contradiction|(exfalso;omega)|skip
theorem Fh(a b:List Nat):val (a++b)=val a+val b*65536 ^ a.length:=by
 rw[val,List.length_append,ME]
 congr 1
 ·refine gu fun i hi=>?_;rw[List.getD_eq_getElem?_getD,List.getD_eq_getElem?_getD,List.getElem?_append_left hi]
 ·congr 1
  refine gu fun i hi=>?_;rw[List.getD_eq_getElem?_getD,List.getD_eq_getElem?_getD,List.getElem?_append_right (by omega),Nat.add_sub_cancel_left]
theorem gv{a:Nat}(_:a<18446744073709551616):val (ck a)=a:=by
 simp[val,vf,ck];omega
theorem cT(a:Nat)(l:List Nat)(h:a<18446744073709551616):val (ck a++l)=a+18446744073709551616*val l:=by
 have hl:(ck a).length=4:=rfl;have hp:(65536:Nat) ^ 4=18446744073709551616:=by decide
 rw[Fh,gv h,hl,Nat.mul_comm,hp]
theorem cP{w:Nat->Nat}(h:cK w):wv w=w 0+18446744073709551616*(w 1+18446744073709551616*(w 2+18446744073709551616*(w 3+18446744073709551616*(w 4+18446744073709551616*(w 5+18446744073709551616*(w 6+18446744073709551616*w 7)))))):=by
 unfold wv dW;rw[cT _ _ (h 0),cT _ _ (h 1),cT _ _ (h 2),cT _ _ (h 3),cT _ _ (h 4),cT _ _ (h 5),cT _ _ (h 6),gv (h 7)]
def wW(v:Nat):Nat->Nat:=fun j=>v/18446744073709551616 ^ j%18446744073709551616
theorem bS(v:Nat):cK (wW v):=fun _=>Nat.mod_lt _ (by omega)
theorem jm(v j:Nat):v/18446744073709551616 ^ (j+1)=v/18446744073709551616 ^ j/18446744073709551616:=by
 rw[Nat.pow_succ,Nat.div_div_eq_div_mul]
theorem mX{v x t:Nat}(h:v=x+18446744073709551616*t)(hx:x<18446744073709551616):v%18446744073709551616=x/\v/18446744073709551616=t:=by omega
theorem Yz{w:Nat->Nat}(h:cK w):∀j,j<8->wW (wv w) j=w j:=by
 have e:=cP h;generalize wv w=v at *;have d0:v/18446744073709551616 ^ 0=v:=by rw[Nat.pow_zero,Nat.div_one]
 have s0:=mX (d0.trans e) (h 0);have d1:=(jm v 0).trans s0.2;have s1:=mX d1 (h 1);have d2:=(jm v 1).trans s1.2;have s2:=mX d2 (h 2);have d3:=(jm v 2).trans s2.2;have s3:=mX d3 (h 3);have d4:=(jm v 3).trans s3.2;have s4:=mX d4 (h 4);have d5:=(jm v 4).trans s4.2;have s5:=mX d5 (h 5);have d6:=(jm v 5).trans s5.2;have s6:=mX d6 (h 6);have d7:=(jm v 6).trans s6.2;intro j hj
 match j,hj with
 | 0,_=>exact s0.1
 | 1,_=>exact s1.1
 | 2,_=>exact s2.1
 | 3,_=>exact s3.1
 | 4,_=>exact s4.1
 | 5,_=>exact s5.1
 | 6,_=>exact s6.1
 | 7,_ =>
  show v/18446744073709551616 ^ 7%18446744073709551616=w 7;rw[d7];exact Nat.mod_eq_of_lt (h 7)
theorem mY{w:Nat->Nat}(h:cK w):aF w=aF (wW (wv w)):=by
 have e:=Yz h;unfold aF;rw[e 0 (by omega),e 1 (by omega),e 2 (by omega),e 3 (by omega),e 4 (by omega),e 5 (by omega),e 6 (by omega),e 7 (by omega)]
theorem dh{v:Nat}(h:v<65536 ^ 32):wv (wW v)=v:=by
 rw[cP (bS v)]
 have key:∀j,v/18446744073709551616 ^ j=wW v j+18446744073709551616*(v/18446744073709551616 ^ (j+1)):=by
  intro j;rw[jm];have:=Nat.div_add_mod (v/18446744073709551616 ^ j) 18446744073709551616;show _=v/18446744073709551616 ^ j%18446744073709551616+_;omega
 have h8:v/18446744073709551616 ^ 8=0:=Nat.div_eq_of_lt h;have k7:=key 7;rw[h8,Nat.mul_zero,Nat.add_zero] at k7;rw[<-k7,<-key 6,<-key 5,<-key 4,<-key 3,<-key 2,<-key 1,<-key 0,Nat.pow_zero,Nat.div_one]
/-- A number as eight words. -/
def az(v:Nat):A:=aF (wW v)
theorem uU(x y:Nat)(hx:x<65536 ^ 32)(hy:y<65536 ^ 32)(h0:0<y):aa Tryz.prog G 127 [az x,az y] (.tup [az (x/y),az (x%y)]):=by
 have h:=MF (G:=G) (wW x) (wW y) (bS x) (bS y) (by rw[dh hy];exact h0);obtain⟨h1,h2,h3,h4⟩:=Fg (bS x) (bS y) (by rw[dh hy];exact h0);rw[dh hx,dh hy] at h3 h4;rw[mY h1,mY h2,h3,h4] at h;exact h
def UP(v:Nat):ar:=.box 53 [.int .u64 (wW v 0:Nat),.int .u64 (wW v 1:Nat),.int .u64 (wW v 2:Nat),.int .u64 (wW v 3:Nat),.int .u64 (wW v 4:Nat),.int .u64 (wW v 5:Nat),.int .u64 (wW v 6:Nat),.int .u64 (wW v 7:Nat)]
theorem Ay{b:Nat}(h:b<65536 ^ 32)(h0:wW b 0=0)(h1:wW b 1=0)(h2:wW b 2=0)(h3:wW b 3=0)(h4:wW b 4=0)(h5:wW b 5=0)(h6:wW b 6=0)(h7:wW b 7=0):b=0:=by
 have e:=cP (bS b);rw[dh h,h0,h1,h2,h3,h4,h5,h6,h7] at e;exact e
theorem Jg{m t:Nat}(h:2 ^ m<2 ^ t):m<t:=(Nat.pow_lt_pow_iff_right (by omega)).1 h
theorem MG{a b m:Nat}(h:b<a)(hb:0<b){T:Nat}(hT:a*b*2 ^ m<T):b*(a%b)*2 ^ (m+1)<T:=by
 have h1:a%b<b:=Nat.mod_lt _ hb;have h2:b*(a/b)+a%b=a:=Nat.div_add_mod a b;have h3:1<=a/b:=(Nat.le_div_iff_mul_le hb).2 (by omega);have h4:b*1<=b*(a/b):=Nat.mul_le_mul_left _ h3;have h5:b*(2*(a%b))<=b*a:=Nat.mul_le_mul_left _ (by omega)
 have h6:b*(a%b)*2 ^ (m+1)=b*(2*(a%b))*2 ^ m:=by
  rw[Nat.pow_succ,Nat.mul_comm (2 ^ m) 2,<-Nat.mul_assoc,Nat.mul_assoc b,Nat.mul_comm (a%b) 2]
 rw[h6];refine Nat.lt_of_le_of_lt (Nat.mul_le_mul_right _ h5) ?_;rw[Nat.mul_comm b a];exact hT
def UQ(T x y n a b:Nat):Prop:=n<=1000/\a<65536 ^ 32/\b<65536 ^ 32/\Nat.gcd a b=Nat.gcd x y/\(n=0/\b=y\/∃m,n=m+1/\b<a/\a*b*2 ^ m<T)
theorem SP(x y:Nat)(hx:x<65536 ^ 32)(hy:y<65536 ^ 32)(hyy:y*y<2 ^ 990):aa Tryz.prog G 126 [az x,az y] (az (Nat.gcd x y)):=by
 have ho:=fun a b=>uU (G:=G) a b
 have hmax:∀m a b:Nat,0<b->b<a->a*b*2 ^ m<2 ^ 990->m<990:=fun m a b h1 h2 h3=>by
  refine Jg (Nat.lt_of_le_of_lt ?_ h3);have:1<=a*b:=Nat.mul_pos (by omega) h1;have:=Nat.mul_le_mul_right (2 ^ m) this;omega
 generalize hT:2 ^ 990=T at *;refine aa.af ak Tryz.func126 rfl rfl _ rfl ?_;(conv=>whnf)
 repeat (first|(refine st ?_;conv=>whnf))
 refine ah (fun s:Nat×Nat×Nat=>UQ T x y s.1 s.2.1 s.2.2) (fun s=>match s with|(n,_,_)=>[(5,.int .i64 (n:Int))]) (fun s=>match s with|(_,a,b)=>[UP a,UP b,UP 0]) (fun s=>1000-s.1) (0,x,y) ⟨Nat.zero_le _,hx,hy,rfl,.inl ⟨rfl,rfl⟩⟩ ?_ ?_
 ·conv=>whnf
  repeat (first|exact fa|((first|refine fb ?_|(refine And.intro ?_ ?_;rotate_left));conv=>whnf))
 ·rintro⟨n,a,b⟩ hI;have hI:UQ T x y n a b:=hI;obtain⟨hn,ha,hb,hg,hc⟩:=hI;have ho:=ho a b ha hb;by_cases h0:b=0
  ·subst h0;rw[Nat.gcd_zero_right] at hg;subst hg;(conv=>whnf);repeat' ((first|refine st ?_|(refine⟨fun h=>?_,fun h=>?_⟩<;>try simp only[ae] at h)|refine wf ?_|refine ao ?_|refine nn ?_|fail)<;>conv=>whnf)
   all_goals first
    | (rename_i h _;exact absurd h (by simp[wW]))
    | (exact absurd ‹_=false› (by simp[wW]))
    | (repeat (first|exact rfl|exact trivial|(refine And.intro rfl ?_;conv=>whnf)))
  ·have ho:=ho (by omega)
   have O8:n<1000:=by
    rcases hc with⟨e,_⟩|⟨m,e,h1,h2⟩
    ·omega
    ·have:=hmax m a b (by omega) h1 h2;omega
   have pw:UQ T x y (n+1) b (a%b):=by
    refine⟨by omega,hb,Nat.lt_of_le_of_lt (Nat.mod_le _ _) ha,?_,.inr ?_⟩
    ·rw[<-hg,Nat.gcd_comm a b,Nat.gcd_rec b a,Nat.gcd_comm]
    ·have qv:a%b<b:=Nat.mod_lt _ (by omega);rcases hc with⟨e,e2⟩|⟨m,e,h1,h2⟩
     ·refine⟨0,by omega,qv,?_⟩;rw[Nat.pow_zero,Nat.mul_one];refine Nat.lt_of_le_of_lt (Nat.mul_le_mul_left b (Nat.le_of_lt qv)) ?_;rw[e2];exact hyy
     ·exact⟨m+1,by omega,qv,MG h1 (by omega) h2⟩
   (conv=>whnf);repeat' ((first|refine st ?_|(refine⟨fun h=>?_,fun h=>?_⟩<;>try simp only[ae] at h)|(refine .inl ?_;(conv=>whnf);refine⟨_,ho,?_⟩)|refine wf ?_|refine ao ?_|refine nn ?_|fail)<;>conv=>whnf)
   all_goals first|contradiction|(exfalso;omega)|skip
   ·refine⟨(n+1,b,a%b),pw,(by show 1000-(n+1)<1000-n;omega),?_⟩;(conv=>whnf)
    repeat (first|exact fa|((first|refine fb ?_|(refine And.intro ?_ ?_;rotate_left));conv=>whnf))
    all_goals first|omega
   ·exfalso;have h:=‹_=true›;simp only[Bool.and_eq_true,beq_iff_eq,and_true] at h;obtain⟨z0,z1,z2,z3,z4,z5,z6,z7⟩:=h;exact h0 (Ay hb (by omega) (by omega) (by omega) (by omega) (by omega) (by omega) (by omega) (by omega))
def cE(neg:Bool)(v:Nat):A:=.agg [.sb neg,.int .u64 (wW v 0:Nat),.int .u64 (wW v 1:Nat),.int .u64 (wW v 2:Nat),.int .u64 (wW v 3:Nat),.int .u64 (wW v 4:Nat),.int .u64 (wW v 5:Nat),.int .u64 (wW v 6:Nat),.int .u64 (wW v 7:Nat)]
def cB(z:Int):A:=cE (decide (z<0)) z.natAbs
theorem Fi{v:Nat}(h:v<18446744073709551616)(j:Nat):wW v j=if j=0 then v else 0:=by
 unfold wW;split
 ·rename_i e;subst e;rw[Nat.pow_zero,Nat.div_one,Nat.mod_eq_of_lt h]
 ·rename_i e;have:18446744073709551616 ^ 1<=18446744073709551616 ^ j:=Nat.pow_le_pow_right (by omega) (by omega);rw[Nat.div_eq_of_lt (by omega)]
theorem CV(n:Int)(h1 : -9223372036854775808<=n)(h2:n<=9223372036854775807):aa Tryz.prog G 57 [.int .i64 n] (cB n):=by
 have hl:=fun j=>Fi (v:=n.natAbs) (by omega) j;have l0:=hl 0;have l1:=hl 1;have l2:=hl 2;have l3:=hl 3;have l4:=hl 4;have l5:=hl 5;have l6:=hl 6;have l7:=hl 7;unfold cB cE;rw[l0,l1,l2,l3,l4,l5,l6,l7];refine aa.af ak Tryz.func57 rfl rfl _ rfl ?_;(conv=>whnf);repeat' ((first|refine st ?_|(refine⟨fun h=>?_,fun h=>?_⟩<;>try simp only[ae] at h)|refine wf ?_|refine ao ?_|refine nn ?_|fail)<;>conv=>whnf)
 all_goals first|contradiction|(exfalso;omega)|skip
 all_goals rfl
theorem yB(neg:Bool)(v:Nat)(hv:v<65536 ^ 32):aa Tryz.prog G 128 [cE neg v] (cE (neg&&decide (v≠0)) v):=by
 refine aa.af ak Tryz.func128 rfl rfl _ rfl ?_;(conv=>whnf);repeat' ((first|refine st ?_|(refine⟨fun h=>?_,fun h=>?_⟩<;>try simp only[ae] at h)|refine wf ?_|refine ao ?_|refine nn ?_|fail)<;>conv=>whnf)
 all_goals first|contradiction|(exfalso;omega)|skip
 ·have h:=‹_=true›;simp only[Bool.and_eq_true,beq_iff_eq,and_true] at h;obtain⟨z0,z1,z2,z3,z4,z5,z6,z7⟩:=h;have e:=Ay hv (by omega) (by omega) (by omega) (by omega) (by omega) (by omega) (by omega) (by omega);refine And.intro (by rw[decide_eq_false (fun q=>q e),Bool.and_false]) ?_;exact ff
 ·have h:=‹_=false›
  have e:v≠0:=fun q=>by
   subst q;exact absurd h (by simp[wW])
  refine And.intro (by rw[decide_eq_true e,Bool.and_true]) ?_;exact ff
theorem Hu(d:List Nat)(hd:cr d)(ld:d.length<=1000000)(hv:val d<65536 ^ 32):aa Tryz.prog G 174 [fS d] (.tup [az (val d),.sb true]):=by
 have h:=wR (G:=G) d hd ld;rw[mY (Ax hd),uT hd hv,decide_eq_true ((UO hd).2 hv)] at h;exact h
theorem Az(p q:Bool)(v w:Nat)(hv:v<65536 ^ 32)(hw:w<65536 ^ 32)(WB:v*w<65536 ^ 32):
  aa Tryz.prog G 167 [cE p v,cE q w] (.tup [cE ((p != q)&&decide (v*w≠0)) (v*w),.sb true]):=by
 have c1:=iS (G:=G) (wW v) (bS v);have c2:=iS (G:=G) (wW w) (bS w);have dv:=pz (bS v);have dw:=pz (bS w);have c3:=uR (G:=G) (dW (wW v)) (dW (wW w)) dv dw (by rw[lq];omega) (by rw[lq];omega);have ht:=mW dv dw;have e1:val (dW (wW v))=v:=dh hv;have e2:val (dW (wW w))=w:=dh hw;rw[e1,e2] at ht;have c4:=Hu (G:=G) _ (oS dv dw) (by rw[iQ,lq,lq];omega) (by rw[ht];exact WB);rw[ht] at c4;generalize fI (dW (wW v)) (dW (wW w))=L at *;have c5:=fun b=>yB (G:=G) b (v*w) WB;generalize v*w=u at *;clear e1 e2 ht dv dw;unfold cE az at *;generalize dW (wW v)=DV at *;generalize dW (wW w)=DW at *;generalize wW v=V at *;generalize wW w=W at *;generalize wW u=U at *;refine aa.af ak Tryz.func167 rfl rfl _ rfl ?_;(conv=>whnf);repeat' ((first|refine st ?_|(refine⟨fun h=>?_,fun h=>?_⟩<;>try simp only[ae] at h)|(refine .inl ?_;(conv=>whnf);(first|refine⟨_,c1,?_⟩|refine⟨_,c2,?_⟩|refine⟨_,c3,?_⟩|refine⟨_,c4,?_⟩|refine⟨_,c5 _,?_⟩))|refine wf ?_|refine ao ?_|refine nn ?_|fail)<;>conv=>whnf)
 all_goals first|contradiction|(exfalso;omega)|skip
def od(p q:Bool)(v w:Nat):Nat:=if p=q then v+w else if v<w then w-v else v-w
def AA(p q:Bool)(v w:Nat):Bool:=if p=q then p else if v<w then q else p
theorem MH(p q:Bool)(v w:Nat)(hv:v<65536 ^ 32)(hw:w<65536 ^ 32)(WB:v+w<65536 ^ 32):
  aa Tryz.prog G 231 [cE p v,cE q w] (.tup [cE (AA p q v w&&decide (od p q v w≠0)) (od p q v w),.sb true]):=by
 have c1:=iS (G:=G) (wW v) (bS v);have c2:=iS (G:=G) (wW w) (bS w);have dv:=pz (bS v);have dw:=pz (bS w);have lv:=lq (wW v);have lw:=lq (wW w);have e1:val (dW (wW v))=v:=dh hv;have e2:val (dW (wW w))=w:=dh hw;generalize dW (wW v)=DV at *;generalize dW (wW w)=DW at *;have c3:=sQ (G:=G) DV DW dv dw (by omega) (by omega);rw[e1,e2] at c3;have c5:=fun b=>yB (G:=G) b (od p q v w) (by unfold od;split<;>(try split)<;>omega)
 have c4:∀L,cr L->L.length<=40->val L=od p q v w->aa Tryz.prog G 174 [fS L] (.tup [az (od p q v w),.sb true]):=fun L h1 h2 h3=>by
  have:=Hu (G:=G) L h1 (by omega) (by rw[h3];unfold od;split<;>(try split)<;>omega);rw[h3] at this;exact this
 by_cases J':p=q
 ·have c6:=wI (G:=G) DV DW dv dw (by omega) (by omega);have hl:=n9 dv dw;have c4:=c4 (dF DV DW) (kj _ _) (by omega) (by rw[oO dv dw,od,if_pos J'];omega);have hs:AA p q v w=p:=by rw[AA,if_pos J']
  rw[hs];subst J';generalize dF DV DW=L at *;generalize od p p v w=u at *;clear hv hw WB e1 e2 c3 hs;unfold cE az at *;generalize wW v=V at *;generalize wW w=W at *;generalize wW u=U at *;refine aa.af ak Tryz.func231 rfl rfl _ rfl ?_;(conv=>whnf);repeat' (first|refine bo ?_|refine aG ?_|((first|refine aB ak ?_|refine aS ak mixed ?_|refine aR ?_|refine aP ?_|refine aQ ?_|refine bp ?_);conv=>whnf)|(refine And.intro (fun h=>?_) (fun h=>?_)<;>(try simp only[ae] at h)<;>conv=>whnf)|(refine Or.inl ?_;(conv=>whnf);refine⟨_,c1,?_⟩;conv=>whnf)|(refine Or.inr (Or.inr (Or.inl ?_));(conv=>whnf);refine⟨_,c1,?_⟩;conv=>whnf)|(refine Exists.intro _ (And.intro (c1) ?_);conv=>whnf)|(refine Or.inl ?_;(conv=>whnf);refine⟨_,c2,?_⟩;conv=>whnf)|(refine Or.inr (Or.inr (Or.inl ?_));(conv=>whnf);refine⟨_,c2,?_⟩;conv=>whnf)|(refine Exists.intro _ (And.intro (c2) ?_);conv=>whnf)|(refine Or.inl ?_;(conv=>whnf);refine⟨_,c6,?_⟩;conv=>whnf)|(refine Or.inr (Or.inr (Or.inl ?_));(conv=>whnf);refine⟨_,c6,?_⟩;conv=>whnf)|(refine Exists.intro _ (And.intro (c6) ?_);conv=>whnf)|(refine Or.inl ?_;(conv=>whnf);refine⟨_,c4,?_⟩;conv=>whnf)|(refine Or.inr (Or.inr (Or.inl ?_));(conv=>whnf);refine⟨_,c4,?_⟩;conv=>whnf)|(refine Exists.intro _ (And.intro (c4) ?_);conv=>whnf)|(refine Or.inl ?_;(conv=>whnf);refine⟨_,c5 _,?_⟩;conv=>whnf)|(refine Or.inr (Or.inr (Or.inl ?_));(conv=>whnf);refine⟨_,c5 _,?_⟩;conv=>whnf)|(refine Exists.intro _ (And.intro (c5 _) ?_);conv=>whnf)|(refine bB ?_ ?_;(focus (first|exact bC (by omega)|exact aV (by omega)|exact cy (by omega)|exact bG (by omega)|exact bH (by omega)));conv=>whnf)|((first|refine aY ?_|(refine And.intro (a:=bf _ _=true) ?_ ?_;(focus kernel_rfl))|refine And.intro rfl ?_|(refine And.intro ?_ ?_;(focus (first|omega|decide|(dsimp only;omega)|(simp at *;omega)))));conv=>whnf))
  all_goals first|contradiction|(exfalso;omega)|skip
 ·by_cases aH:v<w
  ·have hle:val DV<=val DW:=by omega
   have c6:=oQ (G:=G) DW DV dw dv (by omega);have c4:=c4 (cv DW DV) (oP _ _) (by rw[dJ];omega) (by rw[qa dw dv hle,od,if_neg J',if_pos aH];omega);have hs:AA p q v w=q:=by rw[AA,if_neg J',if_pos aH]
   rw[hs];rw[decide_eq_true aH] at c3;generalize cv DW DV=L at *;generalize od p q v w=u at *;clear hv hw WB e1 e2 hs hle;unfold cE az at *;generalize wW v=V at *;generalize wW w=W at *;generalize wW u=U at *;refine aa.af ak Tryz.func231 rfl rfl _ rfl ?_;(conv=>whnf);repeat' (first|refine bo ?_|refine aG ?_|((first|refine aB ak ?_|refine aS ak mixed ?_|refine aR ?_|refine aP ?_|refine aQ ?_|refine bp ?_);conv=>whnf)|(refine And.intro (fun h=>?_) (fun h=>?_)<;>(try simp only[ae] at h)<;>conv=>whnf)|(refine Or.inl ?_;(conv=>whnf);refine⟨_,c1,?_⟩;conv=>whnf)|(refine Or.inr (Or.inr (Or.inl ?_));(conv=>whnf);refine⟨_,c1,?_⟩;conv=>whnf)|(refine Exists.intro _ (And.intro (c1) ?_);conv=>whnf)|(refine Or.inl ?_;(conv=>whnf);refine⟨_,c2,?_⟩;conv=>whnf)|(refine Or.inr (Or.inr (Or.inl ?_));(conv=>whnf);refine⟨_,c2,?_⟩;conv=>whnf)|(refine Exists.intro _ (And.intro (c2) ?_);conv=>whnf)|(refine Or.inl ?_;(conv=>whnf);refine⟨_,c3,?_⟩;conv=>whnf)|(refine Or.inr (Or.inr (Or.inl ?_));(conv=>whnf);refine⟨_,c3,?_⟩;conv=>whnf)|(refine Exists.intro _ (And.intro (c3) ?_);conv=>whnf)|(refine Or.inl ?_;(conv=>whnf);refine⟨_,c6,?_⟩;conv=>whnf)|(refine Or.inr (Or.inr (Or.inl ?_));(conv=>whnf);refine⟨_,c6,?_⟩;conv=>whnf)|(refine Exists.intro _ (And.intro (c6) ?_);conv=>whnf)|(refine Or.inl ?_;(conv=>whnf);refine⟨_,c4,?_⟩;conv=>whnf)|(refine Or.inr (Or.inr (Or.inl ?_));(conv=>whnf);refine⟨_,c4,?_⟩;conv=>whnf)|(refine Exists.intro _ (And.intro (c4) ?_);conv=>whnf)|(refine Or.inl ?_;(conv=>whnf);refine⟨_,c5 _,?_⟩;conv=>whnf)|(refine Or.inr (Or.inr (Or.inl ?_));(conv=>whnf);refine⟨_,c5 _,?_⟩;conv=>whnf)|(refine Exists.intro _ (And.intro (c5 _) ?_);conv=>whnf)|(refine bB ?_ ?_;(focus (first|exact bC (by omega)|exact aV (by omega)|exact cy (by omega)|exact bG (by omega)|exact bH (by omega)));conv=>whnf)|((first|refine aY ?_|(refine And.intro (a:=bf _ _=true) ?_ ?_;(focus kernel_rfl))|refine And.intro rfl ?_|(refine And.intro ?_ ?_;(focus (first|omega|decide|(dsimp only;omega)|(simp at *;omega)))));conv=>whnf))
   all_goals first|contradiction|(exfalso;omega)|skip
  ·have hle:val DW<=val DV:=by omega
   have c6:=oQ (G:=G) DV DW dv dw (by omega);have c4:=c4 (cv DV DW) (oP _ _) (by rw[dJ];omega) (by rw[qa dv dw hle,od,if_neg J',if_neg aH];omega);have hs:AA p q v w=p:=by rw[AA,if_neg J',if_neg aH]
   rw[hs];rw[decide_eq_false aH] at c3;generalize cv DV DW=L at *;generalize od p q v w=u at *;clear hv hw WB e1 e2 hs hle;unfold cE az at *;generalize wW v=V at *;generalize wW w=W at *;generalize wW u=U at *;refine aa.af ak Tryz.func231 rfl rfl _ rfl ?_;(conv=>whnf);repeat' (first|refine bo ?_|refine aG ?_|((first|refine aB ak ?_|refine aS ak mixed ?_|refine aR ?_|refine aP ?_|refine aQ ?_|refine bp ?_);conv=>whnf)|(refine And.intro (fun h=>?_) (fun h=>?_)<;>(try simp only[ae] at h)<;>conv=>whnf)|(refine Or.inl ?_;(conv=>whnf);refine⟨_,c1,?_⟩;conv=>whnf)|(refine Or.inr (Or.inr (Or.inl ?_));(conv=>whnf);refine⟨_,c1,?_⟩;conv=>whnf)|(refine Exists.intro _ (And.intro (c1) ?_);conv=>whnf)|(refine Or.inl ?_;(conv=>whnf);refine⟨_,c2,?_⟩;conv=>whnf)|(refine Or.inr (Or.inr (Or.inl ?_));(conv=>whnf);refine⟨_,c2,?_⟩;conv=>whnf)|(refine Exists.intro _ (And.intro (c2) ?_);conv=>whnf)|(refine Or.inl ?_;(conv=>whnf);refine⟨_,c3,?_⟩;conv=>whnf)|(refine Or.inr (Or.inr (Or.inl ?_));(conv=>whnf);refine⟨_,c3,?_⟩;conv=>whnf)|(refine Exists.intro _ (And.intro (c3) ?_);conv=>whnf)|(refine Or.inl ?_;(conv=>whnf);refine⟨_,c6,?_⟩;conv=>whnf)|(refine Or.inr (Or.inr (Or.inl ?_));(conv=>whnf);refine⟨_,c6,?_⟩;conv=>whnf)|(refine Exists.intro _ (And.intro (c6) ?_);conv=>whnf)|(refine Or.inl ?_;(conv=>whnf);refine⟨_,c4,?_⟩;conv=>whnf)|(refine Or.inr (Or.inr (Or.inl ?_));(conv=>whnf);refine⟨_,c4,?_⟩;conv=>whnf)|(refine Exists.intro _ (And.intro (c4) ?_);conv=>whnf)|(refine Or.inl ?_;(conv=>whnf);refine⟨_,c5 _,?_⟩;conv=>whnf)|(refine Or.inr (Or.inr (Or.inl ?_));(conv=>whnf);refine⟨_,c5 _,?_⟩;conv=>whnf)|(refine Exists.intro _ (And.intro (c5 _) ?_);conv=>whnf)|(refine bB ?_ ?_;(focus (first|exact bC (by omega)|exact aV (by omega)|exact cy (by omega)|exact bG (by omega)|exact bH (by omega)));conv=>whnf)|((first|refine aY ?_|(refine And.intro (a:=bf _ _=true) ?_ ?_;(focus kernel_rfl))|refine And.intro rfl ?_|(refine And.intro ?_ ?_;(focus (first|omega|decide|(dsimp only;omega)|(simp at *;omega)))));conv=>whnf))
   all_goals first|contradiction|(exfalso;omega)|skip
theorem QP(n:Int)(h1 : -9223372036854775808<=n)(h2:n<=9223372036854775807):aa Tryz.prog G 230 [.int .i64 n] (.tup [.sb (decide (n<0)),.int .u64 (n.natAbs:Int)]):=by
 refine aa.af ak Tryz.func230 rfl rfl _ rfl ?_;(conv=>whnf);repeat' ((first|refine st ?_|(refine⟨fun h=>?_,fun h=>?_⟩<;>try simp only[ae] at h)|refine wf ?_|refine ao ?_|refine nn ?_|fail)<;>conv=>whnf)
 all_goals first|omega|(simp only[IntKind.wrap_u64];omega)
theorem lY(x y:Nat)(hx:x<18446744073709551616)(hy:y<18446744073709551616):
  aa Tryz.prog G 198 [.int .u64 x,.int .u64 y] (.tup [.int .u64 ((x*y/18446744073709551616:Nat):Int),.int .u64 ((x*y%18446744073709551616:Nat):Int)]):=by
 have hc:=QF (G:=G) x y hx hy;generalize x*y/18446744073709551616=a at *;generalize x*y%18446744073709551616=b at *;refine aa.af ak Tryz.func198 rfl rfl _ rfl ?_;(conv=>whnf);repeat' ((first|refine st ?_|(refine⟨fun h=>?_,fun h=>?_⟩<;>try simp only[ae] at h)|(refine .inl ?_;(conv=>whnf);refine⟨_,hc,?_⟩)|refine wf ?_|refine ao ?_|refine nn ?_|fail)<;>conv=>whnf)
theorem CW(hi lo y:Nat)(ud:lo<18446744073709551616)(hy:y<18446744073709551616)(hh:hi<y):
  aa Tryz.prog G 268 [.int .u64 hi,.int .u64 lo,.int .u64 y] (.tup [.int .u64 (((hi*18446744073709551616+lo)/y:Nat):Int),.int .u64 (((hi*18446744073709551616+lo)%y:Nat):Int),.sb true]):=by
 have hc:=QK (G:=G) hi lo y ud hy hh;generalize (hi*18446744073709551616+lo)/y=a at *;generalize (hi*18446744073709551616+lo)%y=b at *;refine aa.af ak Tryz.func268 rfl rfl _ rfl ?_;(conv=>whnf);repeat' ((first|refine st ?_|(refine⟨fun h=>?_,fun h=>?_⟩<;>try simp only[ae] at h)|(refine .inl ?_;(conv=>whnf);refine⟨_,hc,?_⟩)|refine wf ?_|refine ao ?_|refine nn ?_|fail)<;>conv=>whnf)
 all_goals first|(exfalso;omega)
end Go.Proofs.YtijddijloelacaaGreat
namespace Go.Proofs.YtijddijloelacaaGreat
open Go.Shelf Go.RowKit Go.Lib Go.Proofs.YtijddijloelacaaGreat.Am
variable [Inhabited cF]
variable {G:aK}
theorem MI(x y c:Nat)(hc:c<=1)(w:World):Calls Tryz.prog 282 #[.int .u64 x,.int .u64 y,.int .u64 c] w fun e w'=>e=.returned (.tuple #[.int .u64 (((x+y+c)%18446744073709551616:Nat):Int),.int .u64 (((x+y+c)/18446744073709551616:Nat):Int)])/\w'=w:=by
 have hm:min (c:Int) 1=c:=by omega
 have hA:(callFunc 314 #[.int .u64 x,.int .u64 y,.int .u64 c]).run Tryz.prog w=.ok (.value (.tuple #[.int .u64 (((x+y+c)%18446744073709551616:Nat):Int),.int .u64 (((x+y+c)/18446744073709551616:Nat):Int)])) w:=by
  rw[run_callFunc_extern Tryz.func314 (by kernel_rfl) (by kernel_rfl) (by kernel_rfl) (e:=add64Entry) (by kernel_rfl),run_add64 x y c (by omega) (by omega) (by omega) (by omega)];simp only[Result.andThen]
  congr 5<;>omega
 go_enter Tryz.func282,Tryz.ntmps282
 go_wp2
 go_ret2
 exact⟨rfl,rfl⟩
theorem MJ(x y c:Nat)(hc:c<=1)(w:World):Calls Tryz.prog 281 #[.int .u64 x,.int .u64 y,.int .u64 c] w fun e w'=>e=.returned (.tuple #[.int .u64 (((x+18446744073709551616-y-c)%18446744073709551616:Nat):Int),.int .u64 ((if x<y+c then 1 else 0:Nat):Int)])/\w'=w:=by
 have hm:min (c:Int) 1=c:=by omega
 have hA:(callFunc 313 #[.int .u64 x,.int .u64 y,.int .u64 c]).run Tryz.prog w=.ok (.value (.tuple #[.int .u64 (((x+18446744073709551616-y-c)%18446744073709551616:Nat):Int),.int .u64 ((if x<y+c then 1 else 0:Nat):Int)])) w:=by
  rw[run_callFunc_extern Tryz.func313 (by kernel_rfl) (by kernel_rfl) (by kernel_rfl) (e:=sub64Entry) (by kernel_rfl),run_sub64 x y c hc];rfl
 go_enter Tryz.func281,Tryz.ntmps281
 go_wp2
 all_goals (go_ret2;exact⟨rfl,rfl⟩)
theorem lZ{im:Nat->Prop}{w:World}{k:IntKind}{n:Int}{v:Value}(h:aA im w (.int k n) v):v=.int k n:=by cases h;rfl
theorem CX{im:Nat->Prop}{w:World}{a b:A}{u v:Value}(h1:aA im w a u)(h2:aA im w b v):aA im w (.tup [a,b]) (.tuple #[u,v]) :=
 .tup [a,b] [u,v] rfl fun j h _=>by
  match j,h with
  | 0,_=>exact h1
  | 1,_=>exact h2
theorem Fj(x y c:Nat)(hc:c<=1):aa Tryz.prog G 282 [.int .u64 (x:Int),.int .u64 (y:Int),.int .u64 (c:Int)] (.tup [.int .u64 (((x+y+c)%18446744073709551616:Nat):Int),.int .u64 (((x+y+c)/18446744073709551616:Nat):Int)]):=by
 refine⟨⟨_,_,Tryz.func282,rfl,by kernel_rfl⟩,?_⟩;intro im w vs pk hG hl hr
 match vs,hl with
 | [a,b,d],_ =>
  have h0:aA im w (.int .u64 (x:Int)) a:=hr 0 (by simp) (by simp);have h1:aA im w (.int .u64 (y:Int)) b:=hr 1 (by simp) (by simp);have h2:aA im w (.int .u64 (c:Int)) d:=hr 2 (by simp) (by simp);obtain rfl:=lZ h0;obtain rfl:=lZ h1;obtain rfl:=lZ h2;refine bD (MI x y c hc w) ?_;rintro e w' ⟨rfl,rfl⟩;exact⟨_,rfl,CX (.int _ _) (.int _ _),Bw.refl _ _⟩
theorem UR(x y c:Nat)(hc:c<=1):aa Tryz.prog G 281 [.int .u64 (x:Int),.int .u64 (y:Int),.int .u64 (c:Int)] (.tup [.int .u64 (((x+18446744073709551616-y-c)%18446744073709551616:Nat):Int),.int .u64 ((if x<y+c then 1 else 0:Nat):Int)]):=by
 refine⟨⟨_,_,Tryz.func281,rfl,by kernel_rfl⟩,?_⟩;intro im w vs pk hG hl hr
 match vs,hl with
 | [a,b,d],_ =>
  have h0:aA im w (.int .u64 (x:Int)) a:=hr 0 (by simp) (by simp);have h1:aA im w (.int .u64 (y:Int)) b:=hr 1 (by simp) (by simp);have h2:aA im w (.int .u64 (c:Int)) d:=hr 2 (by simp) (by simp);obtain rfl:=lZ h0;obtain rfl:=lZ h1;obtain rfl:=lZ h2;refine bD (MJ x y c hc w) ?_;rintro e w' ⟨rfl,rfl⟩;exact⟨_,rfl,CX (.int _ _) (.int _ _),Bw.refl _ _⟩
end Go.Proofs.YtijddijloelacaaGreat
namespace Go.Proofs.YtijddijloelacaaGreat
open Go.Proofs.YtijddijloelacaaGreat.Am
variable [Inhabited cF]
variable {G:aK}
def l9(f:Nat->Nat):ar:=.box 53 [.int .u64 (f 0:Int),.int .u64 (f 1:Int),.int .u64 (f 2:Int),.int .u64 (f 3:Int),.int .u64 (f 4:Int),.int .u64 (f 5:Int),.int .u64 (f 6:Int),.int .u64 (f 7:Int)]
def SQ(S:Nat->Nat)(i j:Nat):Nat:=if j<i then S j else 0
theorem CY(A B S C:Nat->Nat)(h0:C 0=0)(hw:∀i,i<8->aa Tryz.prog G 282 [.int .u64 (A i:Int),.int .u64 (B i:Int),.int .u64 (C i:Int)] (.tup [.int .u64 (S i:Int),.int .u64 (C (i+1):Int)])):
  aa Tryz.prog G 229 [aF A,aF B] (.tup [aF S,.sb ((C 8:Int)==0)]):=by
 unfold aF;refine aa.af ak Tryz.func229 rfl rfl _ rfl ?_;(conv=>whnf)
 repeat (first|(refine st ?_;conv=>whnf))
 refine ah (fun i:Nat=>i<=8) (fun i=>[(7,.int .u64 (C i:Int)),(9,.int .i64 (i:Int))]) (fun i=>[l9 A,l9 B,l9 (fun _=>0),l9 (SQ S i)]) (fun i=>8-i) 0 (by omega) ?_ ?_
 ·conv=>whnf
  repeat (first|exact fa|((first|refine fb ?_|(refine And.intro ?_ ?_;rotate_left));conv=>whnf))
  all_goals first|exact(congrArg Nat.cast h0).symm
 ·intro i hi;have e:i=0\/i=1\/i=2\/i=3\/i=4\/i=5\/i=6\/i=7\/i=8:=by omega
  rcases e with rfl|rfl|rfl|rfl|rfl|rfl|rfl|rfl|rfl
  all_goals
   (conv=>whnf);repeat' ((first|refine st ?_|(refine⟨fun h=>?_,fun h=>?_⟩<;>try simp only[ae] at h)|(refine .inl ?_;(conv=>whnf);refine⟨_,hw _ (by omega),?_⟩)|refine wf ?_|refine ao ?_|refine nn ?_|fail)<;>conv=>whnf)
  all_goals first|contradiction|(exfalso;omega)|skip
  all_goals first|refine⟨1,by decide,by decide,?_⟩|refine⟨2,by decide,by decide,?_⟩|refine⟨3,by decide,by decide,?_⟩|refine⟨4,by decide,by decide,?_⟩|refine⟨5,by decide,by decide,?_⟩|refine⟨6,by decide,by decide,?_⟩|refine⟨7,by decide,by decide,?_⟩|refine⟨8,by decide,by decide,?_⟩
  all_goals
   exact ff
theorem CZ(A B S C:Nat->Nat)(h0:C 0=0)(hw:∀i,i<8->aa Tryz.prog G 281 [.int .u64 (A i:Int),.int .u64 (B i:Int),.int .u64 (C i:Int)] (.tup [.int .u64 (S i:Int),.int .u64 (C (i+1):Int)])):
  aa Tryz.prog G 227 [aF A,aF B] (.tup [aF S,.sb ((C 8:Int)==0)]):=by
 unfold aF;refine aa.af ak Tryz.func227 rfl rfl _ rfl ?_;(conv=>whnf)
 repeat (first|(refine st ?_;conv=>whnf))
 refine ah (fun i:Nat=>i<=8) (fun i=>[(7,.int .u64 (C i:Int)),(9,.int .i64 (i:Int))]) (fun i=>[l9 A,l9 B,l9 (fun _=>0),l9 (SQ S i)]) (fun i=>8-i) 0 (by omega) ?_ ?_
 ·conv=>whnf
  repeat (first|exact fa|((first|refine fb ?_|(refine And.intro ?_ ?_;rotate_left));conv=>whnf))
  all_goals first|exact(congrArg Nat.cast h0).symm
 ·intro i hi;have e:i=0\/i=1\/i=2\/i=3\/i=4\/i=5\/i=6\/i=7\/i=8:=by omega
  rcases e with rfl|rfl|rfl|rfl|rfl|rfl|rfl|rfl|rfl
  all_goals
   (conv=>whnf);repeat' ((first|refine st ?_|(refine⟨fun h=>?_,fun h=>?_⟩<;>try simp only[ae] at h)|(refine .inl ?_;(conv=>whnf);refine⟨_,hw _ (by omega),?_⟩)|refine wf ?_|refine ao ?_|refine nn ?_|fail)<;>conv=>whnf)
  all_goals first|contradiction|(exfalso;omega)|skip
  all_goals first|refine⟨1,by decide,by decide,?_⟩|refine⟨2,by decide,by decide,?_⟩|refine⟨3,by decide,by decide,?_⟩|refine⟨4,by decide,by decide,?_⟩|refine⟨5,by decide,by decide,?_⟩|refine⟨6,by decide,by decide,?_⟩|refine⟨7,by decide,by decide,?_⟩|refine⟨8,by decide,by decide,?_⟩
  all_goals
   exact ff
def uo(A B:Nat->Nat):Nat->Nat
 | 0=>0
 | i+1=>(A i+B i+uo A B i)/18446744073709551616
def Jh(A B:Nat->Nat)(i:Nat):Nat:=(A i+B i+uo A B i)%18446744073709551616
def rS(A B:Nat->Nat):Nat->Nat
 | 0=>0
 | i+1=>if A i<B i+rS A B i then 1 else 0
def Ji(A B:Nat->Nat)(i:Nat):Nat:=(A i+18446744073709551616-B i-rS A B i)%18446744073709551616
theorem MK(A B:Nat->Nat):cK (Jh A B):=fun _=>Nat.mod_lt _ (by omega)
theorem lr(A B:Nat->Nat):cK (Ji A B):=fun _=>Nat.mod_lt _ (by omega)
theorem ML{A B:Nat->Nat}(hA:cK A)(hB:cK B):∀i,uo A B i<=1
 | 0=>Nat.zero_le _
 | i+1=>by
  have h:=ML hA hB i;have a:=hA i;have b:=hB i;show(A i+B i+uo A B i)/18446744073709551616<=1;omega
theorem MM(A B:Nat->Nat):∀i,rS A B i<=1
 | 0=>Nat.zero_le _
 | i+1=>by
  show(if A i<B i+rS A B i then 1 else 0)<=1;split<;>omega
theorem dp:(65536:Nat) ^ 32=13407807929942597099574024998205846127479365820592393377723561443721764030073546976801874298166903427690031858186486050853753882811946569946433649006084096:=by decide
theorem QQ{A B:Nat->Nat}(hA:cK A)(hB:cK B)(h:wv A+wv B<65536 ^ 32):wv (Jh A B)=wv A+wv B/\uo A B 8=0:=by
 have eA:=cP hA;have eB:=cP hB;have eS:=cP (MK A B);have e:∀i,A i+B i+uo A B i=Jh A B i+18446744073709551616*uo A B (i+1):=fun i=>(Nat.mod_add_div _ _).symm;have e0:A 0+B 0+uo A B 0=Jh A B 0+18446744073709551616*uo A B 1:=e 0;have e1:A 1+B 1+uo A B 1=Jh A B 1+18446744073709551616*uo A B 2:=e 1;have e2:A 2+B 2+uo A B 2=Jh A B 2+18446744073709551616*uo A B 3:=e 2;have e3:A 3+B 3+uo A B 3=Jh A B 3+18446744073709551616*uo A B 4:=e 3;have e4:A 4+B 4+uo A B 4=Jh A B 4+18446744073709551616*uo A B 5:=e 4;have e5:A 5+B 5+uo A B 5=Jh A B 5+18446744073709551616*uo A B 6:=e 5;have e6:A 6+B 6+uo A B 6=Jh A B 6+18446744073709551616*uo A B 7:=e 6;have e7:A 7+B 7+uo A B 7=Jh A B 7+18446744073709551616*uo A B 8:=e 7;have c0:uo A B 0=0:=rfl;rw[dp] at h;generalize wv (Jh A B)=s at *;generalize wv A=a at *;generalize wv B=b at *;omega
theorem QR{A B:Nat->Nat}(hA:cK A)(hB:cK B)(h:wv B<=wv A):wv (Ji A B)=wv A-wv B/\rS A B 8=0:=by
 have eA:=cP hA;have eB:=cP hB;have eS:=cP (lr A B)
 have e:∀i,A i+18446744073709551616*rS A B (i+1)=B i+rS A B i+Ji A B i:=fun i=>by
  have a:=hA i;have b:=hB i;have c:=MM A B i;show A i+18446744073709551616*(if A i<B i+rS A B i then 1 else 0)=B i+rS A B i+(A i+18446744073709551616-B i-rS A B i)%18446744073709551616;split<;>omega
 have e0:A 0+18446744073709551616*rS A B 1=B 0+rS A B 0+Ji A B 0:=e 0;have e1:A 1+18446744073709551616*rS A B 2=B 1+rS A B 1+Ji A B 1:=e 1;have e2:A 2+18446744073709551616*rS A B 3=B 2+rS A B 2+Ji A B 2:=e 2;have e3:A 3+18446744073709551616*rS A B 4=B 3+rS A B 3+Ji A B 3:=e 3;have e4:A 4+18446744073709551616*rS A B 5=B 4+rS A B 4+Ji A B 4:=e 4;have e5:A 5+18446744073709551616*rS A B 6=B 5+rS A B 5+Ji A B 5:=e 5;have e6:A 6+18446744073709551616*rS A B 7=B 6+rS A B 6+Ji A B 6:=e 6;have e7:A 7+18446744073709551616*rS A B 8=B 7+rS A B 7+Ji A B 7:=e 7;have c0:rS A B 0=0:=rfl;have d0:=lr A B 0;have d1:=lr A B 1;have d2:=lr A B 2;have d3:=lr A B 3;have d4:=lr A B 4;have d5:=lr A B 5;have d6:=lr A B 6;have d7:=lr A B 7;generalize wv (Ji A B)=s at *;generalize wv A=a at *;generalize wv B=b at *;omega
theorem Jj(v u:Nat)(h:v+u<65536 ^ 32):aa Tryz.prog G 229 [az v,az u] (.tup [az (v+u),.sb true]):=by
 have hv:v<65536 ^ 32:=by omega
 have hu:u<65536 ^ 32:=by omega
 obtain⟨h1,h2⟩:=QQ (bS v) (bS u) (by rw[dh hv,dh hu];exact h);rw[dh hv,dh hu] at h1;have g:=CY (G:=G) (wW v) (wW u) (Jh (wW v) (wW u)) (uo (wW v) (wW u)) rfl (fun i _=>Fj _ _ _ (ML (bS v) (bS u) i));rw[h2,mY (MK _ _),h1] at g;exact g
theorem oV(v u:Nat)(hv:v<65536 ^ 32)(h:u<=v):aa Tryz.prog G 227 [az v,az u] (.tup [az (v-u),.sb true]):=by
 have hu:u<65536 ^ 32:=by omega
 obtain⟨h1,h2⟩:=QR (bS v) (bS u) (by rw[dh hv,dh hu];exact h);rw[dh hv,dh hu] at h1;have g:=CZ (G:=G) (wW v) (wW u) (Ji (wW v) (wW u)) (rS (wW v) (wW u)) rfl (fun i _=>UR _ _ _ (MM (wW v) (wW u) i));rw[h2,mY (lr _ _),h1] at g;exact g
theorem QS(A C H L K Z:Nat->Nat)(b:Nat)(h0:C 0=0)(h8:C 8=0)(hc:∀i,i<8->C (i+1)=H i+K i/\H i+K i<18446744073709551616)
  (h1:∀i,i<8->aa Tryz.prog G 198 [.int .u64 (A i:Int),.int .u64 (b:Int)] (.tup [.int .u64 (H i:Int),.int .u64 (L i:Int)]))
  (h2:∀i,i<8->aa Tryz.prog G 282 [.int .u64 (L i:Int),.int .u64 (C i:Int),.int .u64 0] (.tup [.int .u64 (Z i:Int),.int .u64 (K i:Int)]))
  (h3:∀i,i<8->aa Tryz.prog G 282 [.int .u64 (Z i:Int),.int .u64 0,.int .u64 0] (.tup [.int .u64 (Z i:Int),.int .u64 0])) :
  aa Tryz.prog G 283 [aF (fun _=>0),aF A,.int .u64 (b:Int),.int .i64 0] (.tup [aF Z,.sb true]):=by
 unfold aF;refine aa.af ak Tryz.func283 rfl rfl _ rfl ?_;(conv=>whnf)
 repeat (first|refine bo ?_|refine aG ?_|((first|refine aB ak ?_|refine aS ak mixed ?_|refine aR ?_|refine aP ?_|refine aQ ?_|refine bp ?_);conv=>whnf))
 refine ah (fun i:Nat=>i<=8) (fun i=>[(10,.int .u64 (C i:Int)),(11,.bool true),(20,.int .i64 (i:Int))]) (fun i=>[l9 (SQ Z i),l9 A,l9 (fun _=>0)]) (fun i=>8-i) 0 (by omega) ?_ ?_
 ·conv=>whnf
  repeat (first|exact rfl|exact trivial|exact Or.inl (fun _ _=>rfl)|exact(fun _=>rfl)|exact(fun _ _=>rfl)|exact Or.inl (fun _ hi=>absurd hi (Nat.not_lt_zero _))|((first|refine And.intro rfl ?_|refine And.intro (Or.inl (fun _ _=>rfl)) ?_|refine And.intro (fun _=>rfl) ?_|refine And.intro (fun _ _=>rfl) ?_|(refine And.intro ?_ ?_;rotate_left));conv=>whnf))
  all_goals first|exact(congrArg Nat.cast h0).symm
 ·intro i hi;have e:i=0\/i=1\/i=2\/i=3\/i=4\/i=5\/i=6\/i=7\/i=8:=by omega
  obtain⟨k0,m0⟩:=hc 0 (by omega);have k0:C 1=H 0+K 0:=k0;obtain⟨k1,m1⟩:=hc 1 (by omega);have k1:C 2=H 1+K 1:=k1;obtain⟨k2,m2⟩:=hc 2 (by omega);have k2:C 3=H 2+K 2:=k2;obtain⟨k3,m3⟩:=hc 3 (by omega);have k3:C 4=H 3+K 3:=k3;obtain⟨k4,m4⟩:=hc 4 (by omega);have k4:C 5=H 4+K 4:=k4;obtain⟨k5,m5⟩:=hc 5 (by omega);have k5:C 6=H 5+K 5:=k5;obtain⟨k6,m6⟩:=hc 6 (by omega);have k6:C 7=H 6+K 6:=k6;obtain⟨k7,m7⟩:=hc 7 (by omega);have k7:C 8=H 7+K 7:=k7;clear hc;rcases e with rfl|rfl|rfl|rfl|rfl|rfl|rfl|rfl|rfl
  all_goals
   (conv=>whnf);repeat' (first|refine bo ?_|refine aG ?_|((first|refine aB ak ?_|refine aS ak mixed ?_|refine aR ?_|refine aP ?_|refine aQ ?_|refine bp ?_);conv=>whnf)|(refine And.intro (fun h=>?_) (fun h=>?_)<;>(try simp only[ae] at h)<;>conv=>whnf)|(refine Or.inl ?_;(conv=>whnf);refine⟨_,h1 _ (by omega),?_⟩;conv=>whnf)|(refine Or.inr (Or.inr (Or.inl ?_));(conv=>whnf);refine⟨_,h1 _ (by omega),?_⟩;conv=>whnf)|(refine Exists.intro _ (And.intro (h1 _ (by omega)) ?_);conv=>whnf)|(refine Or.inl ?_;(conv=>whnf);refine⟨_,h2 _ (by omega),?_⟩;conv=>whnf)|(refine Or.inr (Or.inr (Or.inl ?_));(conv=>whnf);refine⟨_,h2 _ (by omega),?_⟩;conv=>whnf)|(refine Exists.intro _ (And.intro (h2 _ (by omega)) ?_);conv=>whnf)|(refine Or.inl ?_;(conv=>whnf);refine⟨_,h3 _ (by omega),?_⟩;conv=>whnf)|(refine Or.inr (Or.inr (Or.inl ?_));(conv=>whnf);refine⟨_,h3 _ (by omega),?_⟩;conv=>whnf)|(refine Exists.intro _ (And.intro (h3 _ (by omega)) ?_);conv=>whnf)|(refine bB ?_ ?_;(focus (first|exact bC (by omega)|exact aV (by omega)|exact cy (by omega)|exact bG (by omega)|exact bH (by omega)));conv=>whnf)|((first|refine aY ?_|(refine And.intro (a:=bf _ _=true) ?_ ?_;(focus kernel_rfl))|refine And.intro rfl ?_|(refine And.intro ?_ ?_;(focus (first|omega|decide|(dsimp only;omega)|(simp at *;omega)))));conv=>whnf))
  all_goals first|contradiction|(exfalso;omega)|(rw[h8];rfl)|skip
  all_goals first|refine⟨1,by decide,by decide,?_⟩|refine⟨2,by decide,by decide,?_⟩|refine⟨3,by decide,by decide,?_⟩|refine⟨4,by decide,by decide,?_⟩|refine⟨5,by decide,by decide,?_⟩|refine⟨6,by decide,by decide,?_⟩|refine⟨7,by decide,by decide,?_⟩|refine⟨8,by decide,by decide,?_⟩
  all_goals
   conv=>whnf
   repeat (first|exact rfl|exact trivial|exact Or.inl (fun _ _=>rfl)|exact(fun _=>rfl)|exact(fun _ _=>rfl)|exact Or.inl (fun _ hi=>absurd hi (Nat.not_lt_zero _))|((first|refine And.intro rfl ?_|refine And.intro (Or.inl (fun _ _=>rfl)) ?_|refine And.intro (fun _=>rfl) ?_|refine And.intro (fun _ _=>rfl) ?_|(refine And.intro ?_ ?_;rotate_left));conv=>whnf))
   all_goals first|omega
def me(b:Nat):A:=.agg [.int .u64 (b:Int),.int .u64 0,.int .u64 0,.int .u64 0,.int .u64 0,.int .u64 0,.int .u64 0,.int .u64 0]
def YA(b:Nat):ar:=.box 53 [.int .u64 (b:Int),.int .u64 0,.int .u64 0,.int .u64 0,.int .u64 0,.int .u64 0,.int .u64 0,.int .u64 0]
theorem QT(A Z:Nat->Nat)(b:Nat)(hb:b≠0)(dj:aa Tryz.prog G 283 [aF (fun _=>0),aF A,.int .u64 (b:Int),.int .i64 0] (.tup [aF Z,.sb true])):
  aa Tryz.prog G 233 [aF A,me b] (.tup [aF Z,.sb true]):=by
 unfold aF me at *;refine aa.af ak Tryz.func233 rfl rfl _ rfl ?_;(conv=>whnf)
 repeat (first|refine bo ?_|refine aG ?_|((first|refine aB ak ?_|refine aS ak mixed ?_|refine aR ?_|refine aP ?_|refine aQ ?_|refine bp ?_);conv=>whnf))
 refine ah (fun x:Nat×(Nat->Nat)=>x.1<=8/\(x.1=0/\x.2=(fun _=>0)\/1<=x.1/\x.2=Z)) (fun x=>match x with|(i,_)=>[(7,.sb true),(13,.int .i64 (i:Int))]) (fun x=>match x with|(_,O)=>[l9 A,YA b,l9 (fun _=>0),l9 O]) (fun x=>8-x.1) (0,fun _=>0) ⟨by show 0<=8;omega,Or.inl ⟨rfl,rfl⟩⟩ ?_ ?_
 ·conv=>whnf
  repeat (first|exact rfl|exact trivial|exact Or.inl (fun _ _=>rfl)|exact(fun _=>rfl)|exact(fun _ _=>rfl)|exact Or.inl (fun _ hi=>absurd hi (Nat.not_lt_zero _))|((first|refine And.intro rfl ?_|refine And.intro (Or.inl (fun _ _=>rfl)) ?_|refine And.intro (fun _=>rfl) ?_|refine And.intro (fun _ _=>rfl) ?_|(refine And.intro ?_ ?_;rotate_left));conv=>whnf))
 ·rintro⟨i,O⟩ ⟨hi,hO⟩;have hi:i<=8:=hi;have hO:i=0/\O=(fun _=>0)\/1<=i/\O=Z:=hO;rcases hO with⟨rfl,rfl⟩|⟨hO,rfl⟩
  ·(conv=>whnf);repeat' (first|(exact absurd (show(b:Int)=0 by assumption) (by omega))|refine bo ?_|refine aG ?_|((first|refine aB ak ?_|refine aS ak mixed ?_|refine aR ?_|refine aP ?_|refine aQ ?_|refine bp ?_);conv=>whnf)|(refine And.intro (fun h=>?_) (fun h=>?_)<;>(try simp only[ae] at h)<;>conv=>whnf)|(refine Or.inl ?_;(conv=>whnf);refine⟨_,dj,?_⟩;conv=>whnf)|(refine Or.inr (Or.inr (Or.inl ?_));(conv=>whnf);refine⟨_,dj,?_⟩;conv=>whnf)|(refine Exists.intro _ (And.intro (dj) ?_);conv=>whnf)|(refine bB ?_ ?_;(focus (first|exact bC (by omega)|exact aV (by omega)|exact cy (by omega)|exact bG (by omega)|exact bH (by omega)));conv=>whnf)|((first|refine aY ?_|(refine And.intro (a:=bf _ _=true) ?_ ?_;(focus kernel_rfl))|refine And.intro rfl ?_|(refine And.intro ?_ ?_;(focus (first|omega|decide|(dsimp only;omega)|(simp at *;omega)))));conv=>whnf))
   all_goals first|contradiction|(exfalso;omega)|skip
   all_goals
    refine⟨(1,Z),⟨Nat.le_of_ble_eq_true rfl,Or.inr ⟨Nat.le_of_ble_eq_true rfl,rfl⟩⟩,Nat.le_of_ble_eq_true rfl,?_⟩;(conv=>whnf)
    repeat (first|exact rfl|exact trivial|exact Or.inl (fun _ _=>rfl)|exact(fun _=>rfl)|exact(fun _ _=>rfl)|exact Or.inl (fun _ hi=>absurd hi (Nat.not_lt_zero _))|((first|refine And.intro rfl ?_|refine And.intro (Or.inl (fun _ _=>rfl)) ?_|refine And.intro (fun _=>rfl) ?_|refine And.intro (fun _ _=>rfl) ?_|(refine And.intro ?_ ?_;rotate_left));conv=>whnf))
  ·have e:i=1\/i=2\/i=3\/i=4\/i=5\/i=6\/i=7\/i=8:=by omega
   rcases e with rfl|rfl|rfl|rfl|rfl|rfl|rfl|rfl
   all_goals
    (conv=>whnf);repeat' (first|(exact absurd (rfl:(0:Int)=0) (by assumption))|refine bo ?_|refine aG ?_|((first|refine aB ak ?_|refine aS ak mixed ?_|refine aR ?_|refine aP ?_|refine aQ ?_|refine bp ?_);conv=>whnf)|(refine And.intro (fun h=>?_) (fun h=>?_)<;>(try simp only[ae] at h)<;>conv=>whnf)|(refine bB ?_ ?_;(focus (first|exact bC (by omega)|exact aV (by omega)|exact cy (by omega)|exact bG (by omega)|exact bH (by omega)));conv=>whnf)|((first|refine aY ?_|(refine And.intro (a:=bf _ _=true) ?_ ?_;(focus kernel_rfl))|refine And.intro rfl ?_|(refine And.intro ?_ ?_;(focus (first|omega|decide|(dsimp only;omega)|(simp at *;omega)))));conv=>whnf))
   all_goals first|contradiction|(exfalso;omega)|skip
   all_goals first|refine⟨(2,O),⟨Nat.le_of_ble_eq_true rfl,Or.inr ⟨Nat.le_of_ble_eq_true rfl,rfl⟩⟩,Nat.le_of_ble_eq_true rfl,?_⟩|refine⟨(3,O),⟨Nat.le_of_ble_eq_true rfl,Or.inr ⟨Nat.le_of_ble_eq_true rfl,rfl⟩⟩,Nat.le_of_ble_eq_true rfl,?_⟩|refine⟨(4,O),⟨Nat.le_of_ble_eq_true rfl,Or.inr ⟨Nat.le_of_ble_eq_true rfl,rfl⟩⟩,Nat.le_of_ble_eq_true rfl,?_⟩|refine⟨(5,O),⟨Nat.le_of_ble_eq_true rfl,Or.inr ⟨Nat.le_of_ble_eq_true rfl,rfl⟩⟩,Nat.le_of_ble_eq_true rfl,?_⟩|refine⟨(6,O),⟨Nat.le_of_ble_eq_true rfl,Or.inr ⟨Nat.le_of_ble_eq_true rfl,rfl⟩⟩,Nat.le_of_ble_eq_true rfl,?_⟩|refine⟨(7,O),⟨Nat.le_of_ble_eq_true rfl,Or.inr ⟨Nat.le_of_ble_eq_true rfl,rfl⟩⟩,Nat.le_of_ble_eq_true rfl,?_⟩|refine⟨(8,O),⟨Nat.le_of_ble_eq_true rfl,Or.inr ⟨Nat.le_of_ble_eq_true rfl,rfl⟩⟩,Nat.le_of_ble_eq_true rfl,?_⟩
   all_goals
    conv=>whnf
    repeat (first|exact rfl|exact trivial|exact Or.inl (fun _ _=>rfl)|exact(fun _=>rfl)|exact(fun _ _=>rfl)|exact Or.inl (fun _ hi=>absurd hi (Nat.not_lt_zero _))|((first|refine And.intro rfl ?_|refine And.intro (Or.inl (fun _ _=>rfl)) ?_|refine And.intro (fun _=>rfl) ?_|refine And.intro (fun _ _=>rfl) ?_|(refine And.intro ?_ ?_;rotate_left));conv=>whnf))
def oe(A:Nat->Nat)(b:Nat):Nat->Nat
 | 0=>0
 | i+1=>(A i*b+oe A b i)/18446744073709551616
def Bf(A:Nat->Nat)(b i:Nat):Nat:=(A i*b+oe A b i)%18446744073709551616
theorem Fk(A:Nat->Nat)(b:Nat):cK (Bf A b):=fun _=>Nat.mod_lt _ (by omega)
theorem MN{a b:Nat}(ha:a<18446744073709551616)(hb:b<18446744073709551616):a*b<=18446744073709551615*18446744073709551615:=Nat.mul_le_mul (by omega) (by omega)
theorem MO{A:Nat->Nat}{b:Nat}(hA:cK A)(hb:b<18446744073709551616):∀i,oe A b i<18446744073709551616
 | 0=>by show 0<_;omega
 | i+1=>by
  have h:=MO hA hb i;have m:=MN (hA i) hb;show(A i*b+oe A b i)/18446744073709551616<18446744073709551616;generalize A i*b=p at *;omega
theorem QU{A:Nat->Nat}{b:Nat}(hA:cK A)(h:wv A*b<65536 ^ 32):wv (Bf A b)=wv A*b/\oe A b 8=0:=by
 have eA:=cP hA;have eS:=cP (Fk A b);have e:∀i,A i*b+oe A b i=Bf A b i+18446744073709551616*oe A b (i+1):=fun i=>(Nat.mod_add_div _ _).symm;have e0:A 0*b+oe A b 0=Bf A b 0+18446744073709551616*oe A b 1:=e 0;have e1:A 1*b+oe A b 1=Bf A b 1+18446744073709551616*oe A b 2:=e 1;have e2:A 2*b+oe A b 2=Bf A b 2+18446744073709551616*oe A b 3:=e 2;have e3:A 3*b+oe A b 3=Bf A b 3+18446744073709551616*oe A b 4:=e 3;have e4:A 4*b+oe A b 4=Bf A b 4+18446744073709551616*oe A b 5:=e 4;have e5:A 5*b+oe A b 5=Bf A b 5+18446744073709551616*oe A b 6:=e 5;have e6:A 6*b+oe A b 6=Bf A b 6+18446744073709551616*oe A b 7:=e 6;have e7:A 7*b+oe A b 7=Bf A b 7+18446744073709551616*oe A b 8:=e 7;have c0:oe A b 0=0:=rfl;rw[dp] at h;rw[eS];rw[eA] at h ⊢;simp only[Nat.add_mul,Nat.mul_add,Nat.mul_assoc] at h ⊢;generalize A 0*b=p0 at *;generalize A 1*b=p1 at *;generalize A 2*b=p2 at *;generalize A 3*b=p3 at *;generalize A 4*b=p4 at *;generalize A 5*b=p5 at *;generalize A 6*b=p6 at *;generalize A 7*b=p7 at *;clear eA eS e;omega
theorem mf{b:Nat}(h:b<18446744073709551616):az b=me b:=by
 have hl:=fun j=>Fi h j;unfold az aF me;rw[hl 0,hl 1,hl 2,hl 3,hl 4,hl 5,hl 6,hl 7];rfl
theorem mul_zero(A:Nat->Nat):aa Tryz.prog G 233 [aF A,me 0] (.tup [me 0,.sb true]):=by
 unfold aF me at *;refine aa.af ak Tryz.func233 rfl rfl _ rfl ?_;(conv=>whnf)
 repeat (first|(refine st ?_;conv=>whnf))
 refine ah (fun i:Nat=>i<=8) (fun i=>[(7,.sb true),(13,.int .i64 (i:Int))]) (fun i=>[l9 A,YA 0,l9 (fun _=>0),l9 (fun _=>0)]) (fun i=>8-i) 0 (by omega) ?_ ?_
 ·conv=>whnf
  repeat (first|exact fa|((first|refine fb ?_|(refine And.intro ?_ ?_;rotate_left));conv=>whnf))
 ·intro i hi;have e:i=0\/i=1\/i=2\/i=3\/i=4\/i=5\/i=6\/i=7\/i=8:=by omega
  rcases e with rfl|rfl|rfl|rfl|rfl|rfl|rfl|rfl|rfl
  all_goals
   (conv=>whnf);repeat' ((first|(exact absurd (rfl:(0:Int)=0) (by assumption))|(exact absurd (rfl:((0:Nat):Int)=0) (by assumption))|refine st ?_|(refine⟨fun h=>?_,fun h=>?_⟩<;>try simp only[ae] at h)|refine wf ?_|refine ao ?_|refine nn ?_|fail)<;>conv=>whnf)
  all_goals first|contradiction|(exfalso;omega)|skip
  all_goals first|refine⟨1,by decide,by decide,?_⟩|refine⟨2,by decide,by decide,?_⟩|refine⟨3,by decide,by decide,?_⟩|refine⟨4,by decide,by decide,?_⟩|refine⟨5,by decide,by decide,?_⟩|refine⟨6,by decide,by decide,?_⟩|refine⟨7,by decide,by decide,?_⟩|refine⟨8,by decide,by decide,?_⟩
  all_goals
   conv=>whnf
   repeat (first|exact fa|((first|refine fb ?_|(refine And.intro ?_ ?_;rotate_left));conv=>whnf))
theorem Jk(v b:Nat)(hv:v<65536 ^ 32)(hb:b<18446744073709551616)(h:v*b<65536 ^ 32):aa Tryz.prog G 233 [az v,az b] (.tup [az (v*b),.sb true]):=by
 by_cases h0:b=0
 ·subst h0;have h1:az 0=me 0:=mf (by omega);rw[Nat.mul_zero,h1];exact mul_zero (wW v)
 ·obtain⟨h1,h2⟩:=QU (b:=b) (bS v) (by rw[dh hv];exact h);rw[dh hv] at h1
  have hr:=QS (G:=G) (wW v) (oe (wW v) b) (fun i=>wW v i*b/18446744073709551616) (fun i=>wW v i*b%18446744073709551616) (fun i=>(wW v i*b%18446744073709551616+oe (wW v) b i)/18446744073709551616) (Bf (wW v) b) b rfl h2
   (fun i _=>by
    have m:=MN (bS v i) hb;have c:=MO (bS v) hb i;show(wW v i*b+oe (wW v) b i)/18446744073709551616=wW v i*b/18446744073709551616+(wW v i*b%18446744073709551616+oe (wW v) b i)/18446744073709551616/\wW v i*b/18446744073709551616+(wW v i*b%18446744073709551616+oe (wW v) b i)/18446744073709551616<18446744073709551616;generalize wW v i*b=p at *;generalize oe (wW v) b i=q at *;omega)
   (fun i _=>lY _ _ (bS v i) hb)
   (fun i _=>by
    have k:=Fj (G:=G) (wW v i*b%18446744073709551616) (oe (wW v) b i) 0 (by omega);rw[show wW v i*b%18446744073709551616+oe (wW v) b i+0=wW v i*b%18446744073709551616+oe (wW v) b i from rfl] at k
    have e:(wW v i*b%18446744073709551616+oe (wW v) b i)%18446744073709551616=Bf (wW v) b i:=by
     unfold Bf;generalize wW v i*b=p;generalize oe (wW v) b i=q;omega
    rw[e] at k;exact k)
   (fun i _=>by
    have k:=Fj (G:=G) (Bf (wW v) b i) 0 0 (by omega);have z:=Fk (wW v) b i;rw[show Bf (wW v) b i+0+0=Bf (wW v) b i from rfl,Nat.mod_eq_of_lt z,Nat.div_eq_of_lt z] at k;exact k)
  have g:=QT (wW v) (Bf (wW v) b) b h0 hr;rw[mf hb];rw[mY (Fk _ _),h1] at g;exact g
theorem rl(b:Nat):aa Tryz.prog G 166 [.int .u64 (b:Int)] (me b):=by
 unfold me;refine aa.af ak Tryz.func166 rfl rfl _ rfl ?_;(conv=>whnf);repeat' ((first|refine st ?_|(refine⟨fun h=>?_,fun h=>?_⟩<;>try simp only[ae] at h)|refine wf ?_|refine ao ?_|refine nn ?_|fail)<;>conv=>whnf)
theorem kq(v:Nat)(hv:v<65536 ^ 32):aa Tryz.prog G 109 [az v] (.sb (decide (v=0))):=by
 have key:((((wW v 0:Nat):Int)==0&&(((wW v 1:Nat):Int)==0&&(((wW v 2:Nat):Int)==0&&(((wW v 3:Nat):Int)==0&&(((wW v 4:Nat):Int)==0&&(((wW v 5:Nat):Int)==0&&(((wW v 6:Nat):Int)==0&&(((wW v 7:Nat):Int)==0&&true))))))))=decide (v=0)):=by
  rw[Bool.eq_iff_iff,decide_eq_true_iff];simp only[Bool.and_eq_true,beq_iff_eq,and_true];constructor
  ·rintro⟨z0,z1,z2,z3,z4,z5,z6,z7⟩;exact Ay hv (by omega) (by omega) (by omega) (by omega) (by omega) (by omega) (by omega) (by omega)
  ·rintro rfl;simp[wW]
 unfold az aF;generalize wW v=V at *;generalize decide (v=0)=z at *;refine aa.af ak Tryz.func109 rfl rfl _ rfl ?_;(conv=>whnf);repeat' ((first|refine st ?_|(refine⟨fun h=>?_,fun h=>?_⟩<;>try simp only[ae] at h)|refine wf ?_|refine ao ?_|refine nn ?_|fail)<;>conv=>whnf)
 all_goals first|exact key
def dns(Q:Nat->Nat)(t j:Nat):Nat:=if 8<=j+t then Q j else 0
theorem Jl(A Q R:Nat->Nat)(y:Nat)(h8:R 8=0)(hd:∀j,j<8->aa Tryz.prog G 268 [.int .u64 (R (j+1):Int),.int .u64 (A j:Int),.int .u64 (y:Int)] (.tup [.int .u64 (Q j:Int),.int .u64 (R j:Int),.sb true])):
  aa Tryz.prog G 228 [aF A,.int .u64 (y:Int)] (.tup [aF Q,me (R 0)]):=by
 have ho:=rl (G:=G) (R 0);unfold aF me at *;refine aa.af ak Tryz.func228 rfl rfl _ rfl ?_;(conv=>whnf)
 repeat (first|(refine st ?_;conv=>whnf))
 refine ah (fun t:Nat=>t<=8) (fun t=>[(6,.int .u64 (R (8-t):Int)),(7,.int .i64 (7-(t:Int)))]) (fun t=>[l9 A,l9 (dns Q t),l9 (fun _=>0)]) (fun t=>8-t) 0 (by omega) ?_ ?_
 ·conv=>whnf
  repeat (first|exact fa|((first|refine fb ?_|(refine And.intro ?_ ?_;rotate_left));conv=>whnf))
  all_goals first|exact(congrArg Nat.cast h8).symm
 ·intro i hi;have e:i=0\/i=1\/i=2\/i=3\/i=4\/i=5\/i=6\/i=7\/i=8:=by omega
  rcases e with rfl|rfl|rfl|rfl|rfl|rfl|rfl|rfl|rfl
  all_goals
   (conv=>whnf);repeat' ((first|refine st ?_|(refine⟨fun h=>?_,fun h=>?_⟩<;>try simp only[ae] at h)|(refine .inl ?_;(conv=>whnf);(first|refine⟨_,hd _ (by omega),?_⟩|refine⟨_,ho,?_⟩))|refine wf ?_|refine ao ?_|refine nn ?_|fail)<;>conv=>whnf)
  all_goals first|contradiction|(exfalso;omega)|skip
  all_goals first|refine⟨1,by decide,by decide,?_⟩|refine⟨2,by decide,by decide,?_⟩|refine⟨3,by decide,by decide,?_⟩|refine⟨4,by decide,by decide,?_⟩|refine⟨5,by decide,by decide,?_⟩|refine⟨6,by decide,by decide,?_⟩|refine⟨7,by decide,by decide,?_⟩|refine⟨8,by decide,by decide,?_⟩
  all_goals
   conv=>whnf
   repeat (first|exact fa|((first|refine fb ?_|(refine And.intro ?_ ?_;rotate_left));conv=>whnf))
/-- The rests, from the top. -/
def og(A:Nat->Nat)(y:Nat):Nat->Nat
 | 0=>0
 | k+1=>(og A y k*18446744073709551616+A (7-k))%y
def wS(A:Nat->Nat)(y j:Nat):Nat:=(og A y (7-j)*18446744073709551616+A j)/y
theorem Fm{A:Nat->Nat}{y:Nat}(hy:0<y):∀k,og A y k<y
 | 0=>hy
 | _+1=>Nat.mod_lt _ hy
theorem MP{A:Nat->Nat}{y:Nat}(hA:cK A)(hy:0<y)(j:Nat):wS A y j<18446744073709551616:=by
 unfold wS;rw[Nat.div_lt_iff_lt_mul hy];have h1:=Fm (A:=A) hy (7-j);have h2:=hA j;omega
theorem Jm{A:Nat->Nat}{y:Nat}(hA:cK A)(hy:0<y):wv (wS A y)=wv A/y/\og A y 8=wv A%y:=by
 have eA:=cP hA;have eS:=cP (MP hA hy)
 have e:∀j,j<8->y*wS A y j+og A y (8-j)=og A y (7-j)*18446744073709551616+A j:=fun j hj=>by
  have h:og A y (8-j)=(og A y (7-j)*18446744073709551616+A j)%y:=by
   rw[show 8-j=(7-j)+1 by omega];show(og A y (7-j)*18446744073709551616+A (7-(7-j)))%y=_;rw[show 7-(7-j)=j by omega]
  rw[h];exact Nat.div_add_mod _ _
 have e0:y*wS A y 0+og A y 8=og A y 7*18446744073709551616+A 0:=e 0 (by omega);have e1:y*wS A y 1+og A y 7=og A y 6*18446744073709551616+A 1:=e 1 (by omega);have e2:y*wS A y 2+og A y 6=og A y 5*18446744073709551616+A 2:=e 2 (by omega);have e3:y*wS A y 3+og A y 5=og A y 4*18446744073709551616+A 3:=e 3 (by omega);have e4:y*wS A y 4+og A y 4=og A y 3*18446744073709551616+A 4:=e 4 (by omega);have e5:y*wS A y 5+og A y 3=og A y 2*18446744073709551616+A 5:=e 5 (by omega);have e6:y*wS A y 6+og A y 2=og A y 1*18446744073709551616+A 6:=e 6 (by omega);have e7:y*wS A y 7+og A y 1=og A y 0*18446744073709551616+A 7:=e 7 (by omega);have c0:og A y 0=0:=rfl;have aH:=Fm (A:=A) hy 8
 have key:wv A=y*wv (wS A y)+og A y 8:=by
  rw[eS,eA];simp only[Nat.mul_add,Nat.mul_left_comm y,Nat.add_mul,Nat.mul_assoc];generalize y*wS A y 0=p0 at *;generalize y*wS A y 1=p1 at *;generalize y*wS A y 2=p2 at *;generalize y*wS A y 3=p3 at *;generalize y*wS A y 4=p4 at *;generalize y*wS A y 5=p5 at *;generalize y*wS A y 6=p6 at *;generalize y*wS A y 7=p7 at *;clear eA eS e;omega
 rw[key];constructor
 ·rw[Nat.mul_add_div hy,Nat.div_eq_of_lt aH,Nat.add_zero]
 ·rw[Nat.mul_add_mod,Nat.mod_eq_of_lt aH]
theorem QV(v y:Nat)(hv:v<65536 ^ 32)(hy:0<y)(Iz:y<18446744073709551616):aa Tryz.prog G 228 [az v,.int .u64 (y:Int)] (.tup [az (v/y),az (v%y)]):=by
 obtain⟨h1,h2⟩:=Jm (bS v) hy;rw[dh hv] at h1 h2
 have g:=Jl (G:=G) (wW v) (wS (wW v) y) (fun j=>og (wW v) y (8-j)) y rfl (fun j hj=>by
  have k:=CW (G:=G) (og (wW v) y (7-j)) (wW v j) y (bS v j) Iz (Fm hy _)
  have e1:og (wW v) y (8-j)=(og (wW v) y (7-j)*18446744073709551616+wW v j)%y:=by
   rw[show 8-j=(7-j)+1 by omega];show(og (wW v) y (7-j)*18446744073709551616+wW v (7-(7-j)))%y=_;rw[show 7-(7-j)=j by omega]
  show aa Tryz.prog G 268 [.int .u64 ((og (wW v) y (8-(j+1)):Nat):Int),.int .u64 ((wW v j:Nat):Int),.int .u64 (y:Int)] (.tup [.int .u64 ((wS (wW v) y j:Nat):Int),.int .u64 ((og (wW v) y (8-j):Nat):Int),.sb true]);rw[e1,show 8-(j+1)=7-j by omega];exact k)
 have hr:v%y<18446744073709551616:=Nat.lt_trans (Nat.mod_lt _ hy) Iz;rw[mY (MP (bS v) hy),h1,show og (wW v) y (8-0)=v%y from h2,<-mf hr] at g;exact g
/-- Quotient and rest by one word. -/
theorem AB(v y:Nat)(hv:v<65536 ^ 32)(hy:0<y)(Iz:y<18446744073709551616):aa Tryz.prog G 163 [az v,az y] (.tup [az (v/y),az (v%y),.int .i64 0]):=by
 have hz:=kq (G:=G) y (by rw[dp];omega);rw[decide_eq_false (by omega)] at hz;have hs:=QV (G:=G) v y hv hy Iz;have ho:=rl (G:=G) y;rw[mf Iz] at hz ⊢;unfold az aF me at *;generalize wW (v/y)=VQ at *;generalize wW (v%y)=VR at *;generalize wW v=V at *;have hyy:(((y:Int)==y)&&(((0:Int)==0)&&(((0:Int)==0)&&(((0:Int)==0)&&(((0:Int)==0)&&(((0:Int)==0)&&(((0:Int)==0)&&(((0:Int)==0)&&true))))))))=true:=by simp
 refine aa.af ak Tryz.func163 rfl rfl _ rfl ?_;(conv=>whnf);repeat' ((first|(exact Bool.noConfusion (hyy.symm.trans (by assumption)))|refine st ?_|(refine⟨fun h=>?_,fun h=>?_⟩<;>try simp only[ae] at h)|(refine .inl ?_;(conv=>whnf);(first|refine⟨_,hz,?_⟩|refine⟨_,hs,?_⟩|refine⟨_,ho,?_⟩))|refine wf ?_|refine ao ?_|refine nn ?_|fail)<;>conv=>whnf)
 all_goals first|contradiction|(exfalso;omega)|skip
def eZ(a b:Nat):Int:=if a<b then -1 else if b<a then 1 else 0
theorem MQ{a b:Nat}:eZ a b=0↔a=b:=by
 unfold eZ;split
 ·omega
 ·split<;>omega
theorem Fo(a b:Nat):aa Tryz.prog G 199 [.int .u64 (a:Int),.int .u64 (b:Int)] (.int .i64 (eZ a b)):=by
 have hn:∀z:Nat,aa Tryz.prog G 265 [.int .u64 (z:Int)] (.sb false):=fun z=>by
  refine aa.af ak Tryz.func265 rfl rfl _ rfl ?_;(conv=>whnf);repeat' ((first|refine st ?_|(refine⟨fun h=>?_,fun h=>?_⟩<;>try simp only[ae] at h)|refine wf ?_|refine ao ?_|refine nn ?_|fail)<;>conv=>whnf)
  all_goals first|contradiction|(exfalso;omega)|(simp;done)
 refine aa.af ak Tryz.func199 rfl rfl _ rfl ?_;(conv=>whnf);repeat' ((first|refine st ?_|(refine⟨fun h=>?_,fun h=>?_⟩<;>try simp only[ae] at h)|(refine .inl ?_;(conv=>whnf);(first|refine⟨_,hn a,?_⟩|refine⟨_,hn b,?_⟩))|refine wf ?_|refine ao ?_|refine nn ?_|fail)<;>conv=>whnf)
 all_goals first|contradiction|(exfalso;omega)|skip
 all_goals first|(unfold eZ;rw[if_pos (by omega)];done)|(unfold eZ;rw[if_neg (by omega),if_pos (by omega)];done)|(unfold eZ;rw[if_neg (by omega),if_neg (by omega)];done)
theorem US{A B:Nat->Nat}(hA:cK A)(hB:cK B)(j:Nat)(hj:j<8)(he:∀k,j<k->k<8->A k=B k)(hne:A j≠B j):eZ (A j) (B j)=eZ (wv A) (wv B):=by
 have eA:=cP hA;have eB:=cP hB;have a0:=hA 0;have a1:=hA 1;have a2:=hA 2;have a3:=hA 3;have a4:=hA 4;have a5:=hA 5;have a6:=hA 6;have b0:=hB 0;have b1:=hB 1;have b2:=hB 2;have b3:=hB 3;have b4:=hB 4;have b5:=hB 5;have b6:=hB 6
 have key:(A j<B j->wv A<wv B)/\(B j<A j->wv B<wv A):=by
  generalize wv A=a at *;generalize wv B=b at *
  match j,hj with
  | 0,_ =>
   have e1:=he 1 (by omega) (by omega);have e2:=he 2 (by omega) (by omega);have e3:=he 3 (by omega) (by omega);have e4:=he 4 (by omega) (by omega);have e5:=he 5 (by omega) (by omega);have e6:=he 6 (by omega) (by omega);have e7:=he 7 (by omega) (by omega);constructor<;>intro h<;>omega
  | 1,_ =>
   have e2:=he 2 (by omega) (by omega);have e3:=he 3 (by omega) (by omega);have e4:=he 4 (by omega) (by omega);have e5:=he 5 (by omega) (by omega);have e6:=he 6 (by omega) (by omega);have e7:=he 7 (by omega) (by omega);constructor<;>intro h<;>omega
  | 2,_ =>
   have e3:=he 3 (by omega) (by omega);have e4:=he 4 (by omega) (by omega);have e5:=he 5 (by omega) (by omega);have e6:=he 6 (by omega) (by omega);have e7:=he 7 (by omega) (by omega);constructor<;>intro h<;>omega
  | 3,_ =>
   have e4:=he 4 (by omega) (by omega);have e5:=he 5 (by omega) (by omega);have e6:=he 6 (by omega) (by omega);have e7:=he 7 (by omega) (by omega);constructor<;>intro h<;>omega
  | 4,_ =>
   have e5:=he 5 (by omega) (by omega);have e6:=he 6 (by omega) (by omega);have e7:=he 7 (by omega) (by omega);constructor<;>intro h<;>omega
  | 5,_ =>
   have e6:=he 6 (by omega) (by omega);have e7:=he 7 (by omega) (by omega);constructor<;>intro h<;>omega
  | 6,_ =>
   have e7:=he 7 (by omega) (by omega);constructor<;>intro h<;>omega
  | 7,_ =>
   constructor<;>intro h<;>omega
 unfold eZ;rcases Nat.lt_or_ge (A j) (B j) with q|q
 ·rw[if_pos q,if_pos (key.1 q)]
 ·have q2:B j<A j:=by omega
  have:=key.2 q2;rw[if_neg (by omega),if_pos q2,if_neg (by omega),if_pos this]
theorem C0(A B:Nat->Nat)(r:Int)(h1:∀j,j<8->(∀k,j<k->k<8->A k=B k)->A j≠B j->eZ (A j) (B j)=r)(h2:(∀k,k<8->A k=B k)->r=0):
  aa Tryz.prog G 172 [aF A,aF B] (.int .i64 r):=by
 have hc:=fun j=>Fo (G:=G) (A j) (B j);unfold aF;refine aa.af ak Tryz.func172 rfl rfl _ rfl ?_;(conv=>whnf)
 repeat (first|(refine st ?_;conv=>whnf))
 refine ah (fun t:Nat=>t<=8/\∀k,8<=k+t->k<8->A k=B k) (fun t=>[(5,.int .i64 (7-(t:Int)))]) (fun t=>[l9 A,l9 B]) (fun t=>8-t) 0 ⟨by omega,fun k q1 q2=>by omega⟩ ?_ ?_
 ·conv=>whnf
  repeat (first|exact fa|((first|refine fb ?_|(refine And.intro ?_ ?_;rotate_left));conv=>whnf))
 ·rintro i ⟨hi,hE⟩;by_cases h8:i<8
  ·have g1:=h1 (7-i) (by omega) (fun k q1 q2=>hE k (by omega) q2);have g0:=MQ (a:=A (7-i)) (b:=B (7-i));have c:=hc (7-i)
   have nx:A (7-i)=B (7-i)->∀k,8<=k+(i+1)->k<8->A k=B k:=fun q0 k q1 q2=>by
    by_cases q:k=7-i
    ·subst q;exact q0
    ·exact hE k (by omega) q2
   generalize eZ (A (7-i)) (B (7-i))=z at *;have e:i=0\/i=1\/i=2\/i=3\/i=4\/i=5\/i=6\/i=7:=by omega
   rcases e with rfl|rfl|rfl|rfl|rfl|rfl|rfl|rfl
   all_goals
    (conv=>whnf);repeat' ((first|refine st ?_|(refine⟨fun h=>?_,fun h=>?_⟩<;>try simp only[ae] at h)|(refine .inl ?_;(conv=>whnf);refine⟨_,c,?_⟩)|refine wf ?_|refine ao ?_|refine nn ?_|fail)<;>conv=>whnf)
   all_goals first|contradiction|(exfalso;omega)|exact g1 (fun q=>absurd (g0.2 q) (by assumption))|skip
   all_goals first|refine⟨1,⟨by decide,nx (g0.1 (by assumption))⟩,by decide,?_⟩|refine⟨2,⟨by decide,nx (g0.1 (by assumption))⟩,by decide,?_⟩|refine⟨3,⟨by decide,nx (g0.1 (by assumption))⟩,by decide,?_⟩|refine⟨4,⟨by decide,nx (g0.1 (by assumption))⟩,by decide,?_⟩|refine⟨5,⟨by decide,nx (g0.1 (by assumption))⟩,by decide,?_⟩|refine⟨6,⟨by decide,nx (g0.1 (by assumption))⟩,by decide,?_⟩|refine⟨7,⟨by decide,nx (g0.1 (by assumption))⟩,by decide,?_⟩|refine⟨8,⟨by decide,nx (g0.1 (by assumption))⟩,by decide,?_⟩
   all_goals
    conv=>whnf
    repeat (first|exact fa|((first|refine fb ?_|(refine And.intro ?_ ?_;rotate_left));conv=>whnf))
  obtain rfl:i=8:=by omega
  have hr:=h2 (fun k q=>hE k (by omega) q);subst hr;(conv=>whnf);repeat' ((first|refine st ?_|(refine⟨fun h=>?_,fun h=>?_⟩<;>try simp only[ae] at h)|refine wf ?_|refine ao ?_|refine nn ?_|fail)<;>conv=>whnf)
  all_goals first|contradiction|(exfalso;omega)|skip
theorem oW(v u:Nat)(hv:v<65536 ^ 32)(hu:u<65536 ^ 32):aa Tryz.prog G 172 [az v,az u] (.int .i64 (eZ v u)):=by
 refine C0 (wW v) (wW u) _ (fun j hj he hne=>?_) (fun he=>?_)
 ·have:=US (bS v) (bS u) j hj he hne;rw[this,dh hv,dh hu]
 ·rw[MQ];have ev:=dh hv;have eu:=dh hu;rw[<-ev,<-eu,cP (bS v),cP (bS u),he 0 (by omega),he 1 (by omega),he 2 (by omega),he 3 (by omega),he 4 (by omega),he 5 (by omega),he 6 (by omega),he 7 (by omega)]
theorem Hv(a r:Nat)(ha:a<18446744073709551616)(hr:r<64):(IntKind.u64.wrap ((BitVec.ofInt IntKind.u64.bits ((a:Int).fdiv (2 ^ min (r:Int).toNat IntKind.u64.bits)) &&& BitVec.ofInt IntKind.u64.bits 1).toNat:Int)==1)=decide (a/2 ^ r%2=1):=by
 rw[rf r (by omega),nX];have hd:a/2 ^ r<18446744073709551616:=Nat.lt_of_le_of_lt (Nat.div_le_self _ _) ha;generalize a/2 ^ r=d at *
 have e1:(BitVec.ofInt IntKind.u64.bits (d:Int)).toNat=d:=by
  show(BitVec.ofInt 64 (d:Int)).toNat=d;rw[BitVec.toNat_ofInt];omega
 have e2:(BitVec.ofInt IntKind.u64.bits 1).toNat=1:=rfl
 have e3:(BitVec.ofInt IntKind.u64.bits (d:Int) &&& BitVec.ofInt IntKind.u64.bits 1).toNat=d%2:=by
  rw[BitVec.toNat_and,e1,e2,Nat.and_one_is_mod]
 rw[e3,dI _ (by omega),Bool.eq_iff_iff,beq_iff_eq,decide_eq_true_iff];omega
theorem YB(V:Nat->Nat)(hV:cK V)(z:Int)(r:Nat)(hr:r<64)(hz:z=64*0+r):aa Tryz.prog G 278 [aF V,.int .i64 z] (.sb (decide (V 0/2 ^ r%2=1))):=by
 have t1:z.tdiv 64=0:=by rw[Int.tdiv_eq_ediv_of_nonneg (by omega)];omega
 have t2:z.tmod 64=r:=by rw[Int.tmod_eq_emod_of_nonneg (by omega)];omega
 have hb:=Hv (V 0) r (hV 0) hr;unfold aF;refine aa.af ak Tryz.func278 rfl rfl _ rfl ?_;(conv=>whnf);repeat' ((first|((rw[t1];conv=>whnf))|((rw[t2];conv=>whnf))|refine st ?_|(refine⟨fun h=>?_,fun h=>?_⟩<;>try simp only[ae] at h)|refine wf ?_|refine ao ?_|refine nn ?_|fail)<;>conv=>whnf)
 all_goals first|contradiction|(exfalso;omega)|skip
 all_goals exact hb
theorem YC(V:Nat->Nat)(hV:cK V)(z:Int)(r:Nat)(hr:r<64)(hz:z=64*1+r):aa Tryz.prog G 278 [aF V,.int .i64 z] (.sb (decide (V 1/2 ^ r%2=1))):=by
 have t1:z.tdiv 64=1:=by rw[Int.tdiv_eq_ediv_of_nonneg (by omega)];omega
 have t2:z.tmod 64=r:=by rw[Int.tmod_eq_emod_of_nonneg (by omega)];omega
 have hb:=Hv (V 1) r (hV 1) hr;unfold aF;refine aa.af ak Tryz.func278 rfl rfl _ rfl ?_;(conv=>whnf);repeat' ((first|((rw[t1];conv=>whnf))|((rw[t2];conv=>whnf))|refine st ?_|(refine⟨fun h=>?_,fun h=>?_⟩<;>try simp only[ae] at h)|refine wf ?_|refine ao ?_|refine nn ?_|fail)<;>conv=>whnf)
 all_goals first|contradiction|(exfalso;omega)|skip
 all_goals exact hb
theorem YD(v q r:Nat)(hr:r<64):wW v q/2 ^ r%2=v/2 ^ (64*q+r)%2:=by
 have hp:(18446744073709551616:Nat) ^ q=2 ^ (64*q):=by
  rw[show(18446744073709551616:Nat)=2 ^ 64 from rfl,<-Nat.pow_mul]
 have key:Nat.testBit (wW v q) r=Nat.testBit v (64*q+r):=by
  unfold wW;rw[hp,show(18446744073709551616:Nat)=2 ^ 64 from rfl,Nat.testBit_mod_two_pow,Nat.testBit_div_two_pow,decide_eq_true hr,Bool.true_and]
  try rw[Nat.add_comm]
 rw[Nat.testBit_eq_decide_div_mod_eq,Nat.testBit_eq_decide_div_mod_eq,decide_eq_decide] at key;omega
theorem YE(v i:Nat)(hi:i<128):aa Tryz.prog G 278 [az v,.int .i64 (i:Int)] (.sb (decide (v/2 ^ i%2=1))):=by
 by_cases h:i<64
 ·have h0:=YB (G:=G) (wW v) (bS v) (i:Int) i h (by omega);rw[YD v 0 i h,show 64*0+i=i by omega] at h0;exact h0
 ·have h1:=YC (G:=G) (wW v) (bS v) (i:Int) (i-64) (by omega) (by omega);rw[YD v 1 (i-64) (by omega),show 64*1+(i-64)=i by omega] at h1;exact h1
theorem UT(v t:Nat)(ht:t<128)(hl:∀j,j<t->v/2 ^ j%2≠1)(hb:v/2 ^ t%2=1):aa Tryz.prog G 225 [az v] (.int .i64 (t:Int)):=by
 have hc:=fun i h=>YE (G:=G) v i h
 have hg:∀j,j<=t->decide (v/2 ^ j%2=1)=decide (j=t):=fun j hj=>by
  by_cases e:j=t
  ·subst e;rw[decide_eq_true hb,decide_eq_true rfl]
  ·rw[decide_eq_false (hl j (by omega)),decide_eq_false e]
 unfold az aF at *;generalize wW v=V at *;refine aa.af ak Tryz.func225 rfl rfl _ rfl ?_;(conv=>whnf)
 repeat (first|(refine st ?_;conv=>whnf))
 refine ah (fun i:Nat=>i<=t) (fun i=>[(3,.int .i64 (i:Int))]) (fun i=>[l9 V]) (fun i=>t-i) 0 (by omega) ?_ ?_
 ·conv=>whnf
  repeat (first|exact fa|((first|refine fb ?_|(refine And.intro ?_ ?_;rotate_left));conv=>whnf))
 ·intro i hi;have c:=hc i (by omega);rw[hg i hi] at c;clear hg hl hb hc;by_cases e:i=t
  ·subst e;rw[decide_eq_true rfl] at c;(conv=>whnf);repeat' ((first|refine st ?_|(refine⟨fun h=>?_,fun h=>?_⟩<;>try simp only[ae] at h)|(refine .inl ?_;(conv=>whnf);refine⟨_,c,?_⟩)|refine wf ?_|refine ao ?_|refine nn ?_|fail)<;>conv=>whnf)
   all_goals first|contradiction|(exfalso;omega)|skip
  ·rw[decide_eq_false e] at c;(conv=>whnf);repeat' ((first|refine st ?_|(refine⟨fun h=>?_,fun h=>?_⟩<;>try simp only[ae] at h)|(refine .inl ?_;(conv=>whnf);refine⟨_,c,?_⟩)|refine wf ?_|refine ao ?_|refine nn ?_|fail)<;>conv=>whnf)
   all_goals first|contradiction|(exfalso;omega)|skip
   refine⟨i+1,(by show i+1<=t;omega),(by show t-(i+1)<t-i;omega),?_⟩;(conv=>whnf)
   repeat (first|exact fa|((first|refine fb ?_|(refine And.intro ?_ ?_;rotate_left));conv=>whnf))
theorem oh:∀(n v:Nat),0<v->v<2 ^ n->∃t o,v=2 ^ t*o/\o%2=1/\t<n
 | 0,v,h,h2=>by rw[Nat.pow_zero] at h2;omega
 | n+1,v,h,h2=>by
  by_cases q:v%2=1
  ·exact⟨0,v,by rw[Nat.pow_zero,Nat.one_mul],q,by omega⟩
  ·obtain⟨t,o,h3,h4,h5⟩:=oh n (v/2) (by omega) (by rw[Nat.pow_succ] at h2;omega);refine⟨t+1,o,?_,h4,by omega⟩;rw[Nat.pow_succ,Nat.mul_assoc,Nat.mul_comm 2 o,<-Nat.mul_assoc,<-h3];omega
theorem C'{t o:Nat}(ho:o%2=1):(∀j,j<t->2 ^ t*o/2 ^ j%2≠1)/\2 ^ t*o/2 ^ t%2=1:=by
 constructor
 ·intro j hj;obtain⟨k,rfl⟩:∃k,t=k+1+j:=⟨t-j-1,by omega⟩;rw[Nat.pow_add,Nat.mul_comm (2 ^ (k+1)) (2 ^ j),Nat.mul_assoc,Nat.mul_div_cancel_left _ (Nat.pow_pos (by omega)),Nat.pow_succ,Nat.mul_comm (2 ^ k) 2,Nat.mul_assoc];omega
 ·rw[Nat.mul_div_cancel_left _ (Nat.pow_pos (by omega))];exact ho
theorem uV(t o:Nat)(ht:t<128)(ho:o%2=1):aa Tryz.prog G 225 [az (2 ^ t*o)] (.int .i64 (t:Int)) :=
 UT _ t ht (C' ho).1 (C' ho).2
theorem Kb(v k j:Nat):Nat.testBit (wW v k) j=(decide (j<64)&&Nat.testBit v (64*k+j)):=by
 have hp:(18446744073709551616:Nat) ^ k=2 ^ (64*k):=by
  rw[show(18446744073709551616:Nat)=2 ^ 64 from rfl,<-Nat.pow_mul]
 unfold wW;rw[hp,show(18446744073709551616:Nat)=2 ^ 64 from rfl,Nat.testBit_mod_two_pow,Nat.testBit_div_two_pow,Nat.add_comm j]
theorem UU{m:Nat}(h:512<=m):65536 ^ 32<=2 ^ m:=by
 obtain⟨k,rfl⟩:∃k,m=256+(256+k):=⟨m-512,by omega⟩;have e:(65536:Nat) ^ 32=2 ^ 256*2 ^ 256:=by decide
 rw[Nat.pow_add,Nat.pow_add,e];exact Nat.mul_le_mul_left _ (Nat.le_mul_of_pos_right _ (Nat.pow_pos (Nat.zero_lt_succ 1)))
theorem Hw{v m:Nat}(hv:v<65536 ^ 32)(h:512<=m):Nat.testBit v m=false:=Nat.testBit_lt_two_pow (Nat.lt_of_lt_of_le hv (UU h))
theorem Jn{v a b:Nat}(h:a=b):Nat.testBit v a=Nat.testBit v b:=by rw[h]
theorem Hx{v q r i:Nat}(hv:v<65536 ^ 32)(hr:r<64)(h:¬(0<r/\i+q+1<8))(h2:i+q<8):wW v (i+q)/2 ^ r=wW (v/2 ^ (64*q+r)) i:=by
 refine Nat.eq_of_testBit_eq fun j=>?_;rw[Nat.testBit_div_two_pow,Kb,Kb,Nat.testBit_div_two_pow];by_cases hj:j<64
 ·rw[decide_eq_true hj,Bool.true_and];by_cases xN:j+r<64
  ·rw[decide_eq_true xN,Bool.true_and];exact Jn (by omega)
  ·rw[decide_eq_false xN,Bool.false_and];exact(Hw hv (by omega)).symm
 ·rw[decide_eq_false hj,decide_eq_false (by omega)];rfl
theorem Hy{v q r i:Nat}(hr:r<64)(h0:0<r):(wW v (i+q)/2 ^ r ||| wW v (i+q+1)*2 ^ (64-r)%18446744073709551616)=wW (v/2 ^ (64*q+r)) i:=by
 refine Nat.eq_of_testBit_eq fun j=>?_;rw[Nat.testBit_or,show(18446744073709551616:Nat)=2 ^ 64 from rfl,Nat.testBit_mod_two_pow,Nat.testBit_mul_two_pow,Nat.testBit_div_two_pow,Kb,Kb,Kb,Nat.testBit_div_two_pow];by_cases hj:j<64
 ·rw[decide_eq_true hj,Bool.true_and,Bool.true_and];by_cases xN:j+r<64
  ·rw[decide_eq_true xN,decide_eq_false (show ¬64-r<=j by omega),Bool.true_and,Bool.false_and,Bool.or_false];exact Jn (by omega)
  ·rw[decide_eq_false xN,decide_eq_true (show 64-r<=j by omega),decide_eq_true (show j-(64-r)<64 by omega),Bool.false_and,Bool.true_and,Bool.true_and,Bool.false_or];exact Jn (by omega)
 ·rw[decide_eq_false hj,decide_eq_false (by omega)];rfl
theorem QW{v q r i:Nat}(hv:v<65536 ^ 32)(h:8<=i+q):wW (v/2 ^ (64*q+r)) i=0:=by
 refine Nat.eq_of_testBit_eq fun j=>?_;rw[Kb,Nat.testBit_div_two_pow,Hw hv (by omega),Bool.and_false,Nat.zero_testBit]
theorem MR{v q r i:Nat}(h:¬(0<r/\q<i))(h2:q<=i):wW v (i-q)*2 ^ r%18446744073709551616=wW (v*2 ^ (64*q+r)) i:=by
 refine Nat.eq_of_testBit_eq fun j=>?_;rw[show(18446744073709551616:Nat)=2 ^ 64 from rfl,Nat.testBit_mod_two_pow,Nat.testBit_mul_two_pow,Kb,Kb,Nat.testBit_mul_two_pow];by_cases hj:j<64
 ·rw[decide_eq_true hj,Bool.true_and,Bool.true_and];by_cases xN:r<=j
  ·rw[decide_eq_true xN,decide_eq_true (show j-r<64 by omega),decide_eq_true (show 64*q+r<=64*i+j by omega),Bool.true_and,Bool.true_and,Bool.true_and];exact Jn (by omega)
  ·rw[decide_eq_false xN,decide_eq_false (show ¬64*q+r<=64*i+j by omega)];rfl
 ·rw[decide_eq_false hj];rfl
theorem MT{v q r i:Nat}(hr:r<64)(h0:0<r)(h:q<i):(wW v (i-q)*2 ^ r%18446744073709551616 ||| wW v (i-q-1)/2 ^ (64-r))=wW (v*2 ^ (64*q+r)) i:=by
 refine Nat.eq_of_testBit_eq fun j=>?_;rw[Nat.testBit_or,show(18446744073709551616:Nat)=2 ^ 64 from rfl,Nat.testBit_mod_two_pow,Nat.testBit_mul_two_pow,Nat.testBit_div_two_pow,Kb,Kb,Kb,Nat.testBit_mul_two_pow];by_cases hj:j<64
 ·rw[decide_eq_true hj,Bool.true_and,Bool.true_and,decide_eq_true (show 64*q+r<=64*i+j by omega),Bool.true_and];by_cases xN:r<=j
  ·rw[decide_eq_true xN,decide_eq_true (show j-r<64 by omega),decide_eq_false (show ¬j+(64-r)<64 by omega),Bool.true_and,Bool.true_and,Bool.false_and,Bool.or_false];exact Jn (by omega)
  ·rw[decide_eq_false xN,decide_eq_true (show j+(64-r)<64 by omega),Bool.false_and,Bool.true_and,Bool.false_or];exact Jn (by omega)
 ·rw[decide_eq_false hj,decide_eq_false (show ¬j+(64-r)<64 by omega)];rfl
theorem UW{v q r i:Nat}(h:i<q):wW (v*2 ^ (64*q+r)) i=0:=by
 refine Nat.eq_of_testBit_eq fun j=>?_;rw[Kb,Nat.testBit_mul_two_pow,Nat.zero_testBit];by_cases hj:j<64
 ·rw[decide_eq_false (show ¬64*q+r<=64*i+j by omega)];simp
 ·rw[decide_eq_false hj];rfl
theorem bU(a r:Nat)(hr:r<64):(a:Int).fdiv (2 ^ min (r:Int).toNat IntKind.u64.bits)=((a/2 ^ r:Nat):Int):=by
 rw[rf r (by omega),nX]
theorem dQ(a r:Nat)(hr:r<=64):(a:Int).fdiv (2 ^ min (64-(r:Int)).toNat IntKind.u64.bits)=((a/2 ^ (64-r):Nat):Int):=by
 rw[Fa r hr,nX]
theorem bV(a r:Nat)(hr:r<64):IntKind.u64.wrap ((a:Int)*2 ^ min (r:Int).toNat IntKind.u64.bits)=((a*2 ^ r%18446744073709551616:Nat):Int):=by
 rw[rf r (by omega),<-Int.natCast_mul,Hj]
theorem dR(a r:Nat)(hr:r<=64):IntKind.u64.wrap ((a:Int)*2 ^ min (64-(r:Int)).toNat IntKind.u64.bits)=((a*2 ^ (64-r)%18446744073709551616:Nat):Int):=by
 rw[Fa r hr,<-Int.natCast_mul,Hj]
theorem or_val{x y z:Nat}(hx:x<18446744073709551616)(hy:y<18446744073709551616)(h:(x ||| y)=z)(hz:z<18446744073709551616):IntKind.u64.wrap ((BitVec.ofInt IntKind.u64.bits (x:Int) ||| BitVec.ofInt IntKind.u64.bits (y:Int)).toNat:Int)=(z:Int):=by
 rw[Yr x y hx hy (by rw[h];exact hz),h]
theorem cg{a r:Nat}(ha:a<18446744073709551616):a/2 ^ r<18446744073709551616:=Nat.lt_of_le_of_lt (Nat.div_le_self _ _) ha
theorem MU(V O:Nat->Nat)(hV:cK V)(hO:cK O)(z:Int)(r:Nat)(hr:r<64)(hz:z=64*0+r)
  (o1:∀i,¬(0<r/\i+0+1<8)->i+0<8->V (i+0)/2 ^ r=O i) (o2:∀i,0<r->i+0+1<8->(V (i+0)/2 ^ r ||| V (i+0+1)*2 ^ (64-r)%18446744073709551616)=O i) :
  aa Tryz.prog G 279 [aF V,.int .i64 z] (aF (SQ O 8)):=by
 have t1:z.tdiv 64=0:=by rw[Int.tdiv_eq_ediv_of_nonneg (by omega)];omega
 have t2:z.tmod 64=r:=by rw[Int.tmod_eq_emod_of_nonneg (by omega)];omega
 unfold aF;refine aa.af ak Tryz.func279 rfl rfl _ rfl ?_;(conv=>whnf);repeat' (first|((rw[t1,t2];conv=>whnf))|refine bo ?_|refine aG ?_|((first|refine aB ak ?_|refine aS ak mixed ?_|refine aR ?_|refine aP ?_|refine aQ ?_|refine bp ?_);conv=>whnf)|(refine And.intro (fun h=>?_) (fun h=>?_)<;>(try simp only[ae] at h)<;>conv=>whnf)|(refine bB ?_ ?_;(focus (first|exact bC (by omega)|exact aV (by omega)|exact cy (by omega)|exact bG (by omega)|exact bH (by omega)));conv=>whnf)|((first|refine aY ?_|(refine And.intro (a:=bf _ _=true) ?_ ?_;(focus kernel_rfl))|refine And.intro rfl ?_|(refine And.intro ?_ ?_;(focus (first|omega|decide|(dsimp only;omega)|(simp at *;omega)))));conv=>whnf))
 all_goals first|contradiction|(exfalso;omega)|skip
 refine ah (fun i:Nat=>i<=8) (fun i=>[(15,.int .i64 (i:Int))]) (fun i=>[l9 V,l9 (fun _=>0),l9 (SQ O i)]) (fun i=>8-i) 0 (by omega) ?_ ?_
 ·conv=>whnf
  repeat (first|exact rfl|exact trivial|exact Or.inl (fun _ _=>rfl)|exact(fun _=>rfl)|exact(fun _ _=>rfl)|exact Or.inl (fun _ hi=>absurd hi (Nat.not_lt_zero _))|((first|refine And.intro rfl ?_|refine And.intro (Or.inl (fun _ _=>rfl)) ?_|refine And.intro (fun _=>rfl) ?_|refine And.intro (fun _ _=>rfl) ?_|(refine And.intro ?_ ?_;rotate_left));conv=>whnf))
 ·intro i hi;have e:i=0\/i=1\/i=2\/i=3\/i=4\/i=5\/i=6\/i=7\/i=8:=by omega
  have p0:¬(0<r/\1<8)->V 0/2 ^ r=O 0:=fun h=>o1 0 h (by omega);have q0:0<r->(V 0/2 ^ r ||| V 1*2 ^ (64-r)%18446744073709551616)=O 0:=fun h=>o2 0 h (by omega);have p1:¬(0<r/\2<8)->V 1/2 ^ r=O 1:=fun h=>o1 1 h (by omega);have q1:0<r->(V 1/2 ^ r ||| V 2*2 ^ (64-r)%18446744073709551616)=O 1:=fun h=>o2 1 h (by omega);have p2:¬(0<r/\3<8)->V 2/2 ^ r=O 2:=fun h=>o1 2 h (by omega);have q2:0<r->(V 2/2 ^ r ||| V 3*2 ^ (64-r)%18446744073709551616)=O 2:=fun h=>o2 2 h (by omega);have p3:¬(0<r/\4<8)->V 3/2 ^ r=O 3:=fun h=>o1 3 h (by omega);have q3:0<r->(V 3/2 ^ r ||| V 4*2 ^ (64-r)%18446744073709551616)=O 3:=fun h=>o2 3 h (by omega);have p4:¬(0<r/\5<8)->V 4/2 ^ r=O 4:=fun h=>o1 4 h (by omega);have q4:0<r->(V 4/2 ^ r ||| V 5*2 ^ (64-r)%18446744073709551616)=O 4:=fun h=>o2 4 h (by omega);have p5:¬(0<r/\6<8)->V 5/2 ^ r=O 5:=fun h=>o1 5 h (by omega);have q5:0<r->(V 5/2 ^ r ||| V 6*2 ^ (64-r)%18446744073709551616)=O 5:=fun h=>o2 5 h (by omega);have p6:¬(0<r/\7<8)->V 6/2 ^ r=O 6:=fun h=>o1 6 h (by omega);have q6:0<r->(V 6/2 ^ r ||| V 7*2 ^ (64-r)%18446744073709551616)=O 6:=fun h=>o2 6 h (by omega);have p7:¬(0<r/\8<8)->V 7/2 ^ r=O 7:=fun h=>o1 7 h (by omega);clear o1 o2;rcases e with rfl|rfl|rfl|rfl|rfl|rfl|rfl|rfl|rfl
  all_goals
   (conv=>whnf);repeat' (first|refine bo ?_|refine aG ?_|((first|refine aB ak ?_|refine aS ak mixed ?_|refine aR ?_|refine aP ?_|refine aQ ?_|refine bp ?_);conv=>whnf)|(refine And.intro (fun h=>?_) (fun h=>?_)<;>(try simp only[ae] at h)<;>conv=>whnf)|(refine bB ?_ ?_;(focus (first|exact bC (by omega)|exact aV (by omega)|exact cy (by omega)|exact bG (by omega)|exact bH (by omega)));conv=>whnf)|((first|refine aY ?_|(refine And.intro (a:=bf _ _=true) ?_ ?_;(focus kernel_rfl))|refine And.intro rfl ?_|(refine And.intro ?_ ?_;(focus (first|omega|decide|(dsimp only;omega)|(simp at *;omega)))));conv=>whnf))
  all_goals first|contradiction|(exfalso;omega)|skip
  all_goals first|refine⟨1,by decide,by decide,?_⟩|refine⟨2,by decide,by decide,?_⟩|refine⟨3,by decide,by decide,?_⟩|refine⟨4,by decide,by decide,?_⟩|refine⟨5,by decide,by decide,?_⟩|refine⟨6,by decide,by decide,?_⟩|refine⟨7,by decide,by decide,?_⟩|refine⟨8,by decide,by decide,?_⟩
  all_goals
   conv=>whnf
   repeat (first|exact rfl|exact trivial|exact Or.inl (fun _ _=>rfl)|exact(fun _=>rfl)|exact(fun _ _=>rfl)|exact Or.inl (fun _ hi=>absurd hi (Nat.not_lt_zero _))|((first|refine And.intro rfl ?_|refine And.intro (Or.inl (fun _ _=>rfl)) ?_|refine And.intro (fun _=>rfl) ?_|refine And.intro (fun _ _=>rfl) ?_|(refine And.intro ?_ ?_;rotate_left));conv=>whnf))
   all_goals first
    | (rw[bU _ _ hr,dR _ _ (by omega)];exact or_val (cg (hV 0)) (Nat.mod_lt _ (by omega)) (q0 (by omega)) (hO 0))
    | (rw[bU _ _ hr,dR _ _ (by omega)];exact or_val (cg (hV 1)) (Nat.mod_lt _ (by omega)) (q1 (by omega)) (hO 1))
    | (rw[bU _ _ hr,dR _ _ (by omega)];exact or_val (cg (hV 2)) (Nat.mod_lt _ (by omega)) (q2 (by omega)) (hO 2))
    | (rw[bU _ _ hr,dR _ _ (by omega)];exact or_val (cg (hV 3)) (Nat.mod_lt _ (by omega)) (q3 (by omega)) (hO 3))
    | (rw[bU _ _ hr,dR _ _ (by omega)];exact or_val (cg (hV 4)) (Nat.mod_lt _ (by omega)) (q4 (by omega)) (hO 4))
    | (rw[bU _ _ hr,dR _ _ (by omega)];exact or_val (cg (hV 5)) (Nat.mod_lt _ (by omega)) (q5 (by omega)) (hO 5))
    | (rw[bU _ _ hr,dR _ _ (by omega)];exact or_val (cg (hV 6)) (Nat.mod_lt _ (by omega)) (q6 (by omega)) (hO 6))
    | (rw[bU _ _ hr];exact congrArg Nat.cast (p0 (by omega)))
    | (rw[bU _ _ hr];exact congrArg Nat.cast (p1 (by omega)))
    | (rw[bU _ _ hr];exact congrArg Nat.cast (p2 (by omega)))
    | (rw[bU _ _ hr];exact congrArg Nat.cast (p3 (by omega)))
    | (rw[bU _ _ hr];exact congrArg Nat.cast (p4 (by omega)))
    | (rw[bU _ _ hr];exact congrArg Nat.cast (p5 (by omega)))
    | (rw[bU _ _ hr];exact congrArg Nat.cast (p6 (by omega)))
    | (rw[bU _ _ hr];exact congrArg Nat.cast (p7 (by omega)))
   
theorem MV(V O:Nat->Nat)(hV:cK V)(hO:cK O)(z:Int)(r:Nat)(hr:r<64)(hz:z=64*1+r)
  (o1:∀i,¬(0<r/\i+1+1<8)->i+1<8->V (i+1)/2 ^ r=O i) (o2:∀i,0<r->i+1+1<8->(V (i+1)/2 ^ r ||| V (i+1+1)*2 ^ (64-r)%18446744073709551616)=O i) :
  aa Tryz.prog G 279 [aF V,.int .i64 z] (aF (SQ O 7)):=by
 have t1:z.tdiv 64=1:=by rw[Int.tdiv_eq_ediv_of_nonneg (by omega)];omega
 have t2:z.tmod 64=r:=by rw[Int.tmod_eq_emod_of_nonneg (by omega)];omega
 unfold aF;refine aa.af ak Tryz.func279 rfl rfl _ rfl ?_;(conv=>whnf);repeat' (first|((rw[t1,t2];conv=>whnf))|refine bo ?_|refine aG ?_|((first|refine aB ak ?_|refine aS ak mixed ?_|refine aR ?_|refine aP ?_|refine aQ ?_|refine bp ?_);conv=>whnf)|(refine And.intro (fun h=>?_) (fun h=>?_)<;>(try simp only[ae] at h)<;>conv=>whnf)|(refine bB ?_ ?_;(focus (first|exact bC (by omega)|exact aV (by omega)|exact cy (by omega)|exact bG (by omega)|exact bH (by omega)));conv=>whnf)|((first|refine aY ?_|(refine And.intro (a:=bf _ _=true) ?_ ?_;(focus kernel_rfl))|refine And.intro rfl ?_|(refine And.intro ?_ ?_;(focus (first|omega|decide|(dsimp only;omega)|(simp at *;omega)))));conv=>whnf))
 all_goals first|contradiction|(exfalso;omega)|skip
 refine ah (fun i:Nat=>i<=7) (fun i=>[(15,.int .i64 (i:Int))]) (fun i=>[l9 V,l9 (fun _=>0),l9 (SQ O i)]) (fun i=>7-i) 0 (by omega) ?_ ?_
 ·conv=>whnf
  repeat (first|exact rfl|exact trivial|exact Or.inl (fun _ _=>rfl)|exact(fun _=>rfl)|exact(fun _ _=>rfl)|exact Or.inl (fun _ hi=>absurd hi (Nat.not_lt_zero _))|((first|refine And.intro rfl ?_|refine And.intro (Or.inl (fun _ _=>rfl)) ?_|refine And.intro (fun _=>rfl) ?_|refine And.intro (fun _ _=>rfl) ?_|(refine And.intro ?_ ?_;rotate_left));conv=>whnf))
 ·intro i hi;have e:i=0\/i=1\/i=2\/i=3\/i=4\/i=5\/i=6\/i=7:=by omega
  have p0:¬(0<r/\2<8)->V 1/2 ^ r=O 0:=fun h=>o1 0 h (by omega);have q0:0<r->(V 1/2 ^ r ||| V 2*2 ^ (64-r)%18446744073709551616)=O 0:=fun h=>o2 0 h (by omega);have p1:¬(0<r/\3<8)->V 2/2 ^ r=O 1:=fun h=>o1 1 h (by omega);have q1:0<r->(V 2/2 ^ r ||| V 3*2 ^ (64-r)%18446744073709551616)=O 1:=fun h=>o2 1 h (by omega);have p2:¬(0<r/\4<8)->V 3/2 ^ r=O 2:=fun h=>o1 2 h (by omega);have q2:0<r->(V 3/2 ^ r ||| V 4*2 ^ (64-r)%18446744073709551616)=O 2:=fun h=>o2 2 h (by omega);have p3:¬(0<r/\5<8)->V 4/2 ^ r=O 3:=fun h=>o1 3 h (by omega);have q3:0<r->(V 4/2 ^ r ||| V 5*2 ^ (64-r)%18446744073709551616)=O 3:=fun h=>o2 3 h (by omega);have p4:¬(0<r/\6<8)->V 5/2 ^ r=O 4:=fun h=>o1 4 h (by omega);have q4:0<r->(V 5/2 ^ r ||| V 6*2 ^ (64-r)%18446744073709551616)=O 4:=fun h=>o2 4 h (by omega);have p5:¬(0<r/\7<8)->V 6/2 ^ r=O 5:=fun h=>o1 5 h (by omega);have q5:0<r->(V 6/2 ^ r ||| V 7*2 ^ (64-r)%18446744073709551616)=O 5:=fun h=>o2 5 h (by omega);have p6:¬(0<r/\8<8)->V 7/2 ^ r=O 6:=fun h=>o1 6 h (by omega);clear o1 o2;rcases e with rfl|rfl|rfl|rfl|rfl|rfl|rfl|rfl
  all_goals
   (conv=>whnf);repeat' (first|refine bo ?_|refine aG ?_|((first|refine aB ak ?_|refine aS ak mixed ?_|refine aR ?_|refine aP ?_|refine aQ ?_|refine bp ?_);conv=>whnf)|(refine And.intro (fun h=>?_) (fun h=>?_)<;>(try simp only[ae] at h)<;>conv=>whnf)|(refine bB ?_ ?_;(focus (first|exact bC (by omega)|exact aV (by omega)|exact cy (by omega)|exact bG (by omega)|exact bH (by omega)));conv=>whnf)|((first|refine aY ?_|(refine And.intro (a:=bf _ _=true) ?_ ?_;(focus kernel_rfl))|refine And.intro rfl ?_|(refine And.intro ?_ ?_;(focus (first|omega|decide|(dsimp only;omega)|(simp at *;omega)))));conv=>whnf))
  all_goals first|contradiction|(exfalso;omega)|skip
  all_goals first|refine⟨1,by decide,by decide,?_⟩|refine⟨2,by decide,by decide,?_⟩|refine⟨3,by decide,by decide,?_⟩|refine⟨4,by decide,by decide,?_⟩|refine⟨5,by decide,by decide,?_⟩|refine⟨6,by decide,by decide,?_⟩|refine⟨7,by decide,by decide,?_⟩
  all_goals
   conv=>whnf
   repeat (first|exact rfl|exact trivial|exact Or.inl (fun _ _=>rfl)|exact(fun _=>rfl)|exact(fun _ _=>rfl)|exact Or.inl (fun _ hi=>absurd hi (Nat.not_lt_zero _))|((first|refine And.intro rfl ?_|refine And.intro (Or.inl (fun _ _=>rfl)) ?_|refine And.intro (fun _=>rfl) ?_|refine And.intro (fun _ _=>rfl) ?_|(refine And.intro ?_ ?_;rotate_left));conv=>whnf))
   all_goals first
    | (rw[bU _ _ hr,dR _ _ (by omega)];exact or_val (cg (hV 1)) (Nat.mod_lt _ (by omega)) (q0 (by omega)) (hO 0))
    | (rw[bU _ _ hr,dR _ _ (by omega)];exact or_val (cg (hV 2)) (Nat.mod_lt _ (by omega)) (q1 (by omega)) (hO 1))
    | (rw[bU _ _ hr,dR _ _ (by omega)];exact or_val (cg (hV 3)) (Nat.mod_lt _ (by omega)) (q2 (by omega)) (hO 2))
    | (rw[bU _ _ hr,dR _ _ (by omega)];exact or_val (cg (hV 4)) (Nat.mod_lt _ (by omega)) (q3 (by omega)) (hO 3))
    | (rw[bU _ _ hr,dR _ _ (by omega)];exact or_val (cg (hV 5)) (Nat.mod_lt _ (by omega)) (q4 (by omega)) (hO 4))
    | (rw[bU _ _ hr,dR _ _ (by omega)];exact or_val (cg (hV 6)) (Nat.mod_lt _ (by omega)) (q5 (by omega)) (hO 5))
    | (rw[bU _ _ hr];exact congrArg Nat.cast (p0 (by omega)))
    | (rw[bU _ _ hr];exact congrArg Nat.cast (p1 (by omega)))
    | (rw[bU _ _ hr];exact congrArg Nat.cast (p2 (by omega)))
    | (rw[bU _ _ hr];exact congrArg Nat.cast (p3 (by omega)))
    | (rw[bU _ _ hr];exact congrArg Nat.cast (p4 (by omega)))
    | (rw[bU _ _ hr];exact congrArg Nat.cast (p5 (by omega)))
    | (rw[bU _ _ hr];exact congrArg Nat.cast (p6 (by omega)))
   
theorem MW(v n:Nat)(hv:v<65536 ^ 32)(hn:n<128):aa Tryz.prog G 279 [az v,.int .i64 (n:Int)] (az (v/2 ^ n)):=by
 have Ix:=hv;by_cases h:n<64
 ·have g:=MU (G:=G) (wW v) (wW (v/2 ^ n)) (bS v) (bS _) (n:Int) n h (by omega)
   (fun i h1 h2=>by have:=Hx (q:=0) Ix h h1 h2;rw[show 64*0+n=n by omega] at this;exact this)
   (fun i h1 h2=>by have:=Hy (v:=v) (q:=0) (i:=i) h h1;rw[show 64*0+n=n by omega] at this;exact this)
  exact g
 ·have e:64*1+(n-64)=n:=by omega
  have g:=MV (G:=G) (wW v) (wW (v/2 ^ n)) (bS v) (bS _) (n:Int) (n-64) (by omega) (by omega)
   (fun i h1 h2=>by have:=Hx (q:=1) Ix (show n-64<64 by omega) h1 h2;rw[e] at this;exact this)
   (fun i h1 h2=>by have:=Hy (v:=v) (q:=1) (i:=i) (show n-64<64 by omega) h1;rw[e] at this;exact this)
  have z:wW (v/2 ^ n) 7=0:=by have:=QW (v:=v) (q:=1) (r:=n-64) (i:=7) Ix (by omega);rw[e] at this;exact this
  have ew:aF (SQ (wW (v/2 ^ n)) 7)=az (v/2 ^ n):=by
   unfold az aF;rw[z];rfl
  rw[ew] at g;exact g
def YF(O:Nat->Nat)(q i j:Nat):Nat:=if q<=j/\j<i then O j else 0
theorem QX(V O:Nat->Nat)(hV:cK V)(hO:cK O)(z:Int)(r:Nat)(hr:r<64)(hz:z=64*0+r)
  (o1:∀i,¬(0<r/\0<i)->0<=i->V (i-0)*2 ^ r%18446744073709551616=O i) (o2:∀i,0<r->0<i->(V (i-0)*2 ^ r%18446744073709551616 ||| V (i-0-1)/2 ^ (64-r))=O i) :
  aa Tryz.prog G 280 [aF V,.int .i64 z] (aF (YF O 0 8)):=by
 have t1:z.tdiv 64=0:=by rw[Int.tdiv_eq_ediv_of_nonneg (by omega)];omega
 have t2:z.tmod 64=r:=by rw[Int.tmod_eq_emod_of_nonneg (by omega)];omega
 unfold aF;refine aa.af ak Tryz.func280 rfl rfl _ rfl ?_;(conv=>whnf);repeat' (first|((rw[t1,t2];conv=>whnf))|refine bo ?_|refine aG ?_|((first|refine aB ak ?_|refine aS ak mixed ?_|refine aR ?_|refine aP ?_|refine aQ ?_|refine bp ?_);conv=>whnf)|(refine And.intro (fun h=>?_) (fun h=>?_)<;>(try simp only[ae] at h)<;>conv=>whnf)|(refine bB ?_ ?_;(focus (first|exact bC (by omega)|exact aV (by omega)|exact cy (by omega)|exact bG (by omega)|exact bH (by omega)));conv=>whnf)|((first|refine aY ?_|(refine And.intro (a:=bf _ _=true) ?_ ?_;(focus kernel_rfl))|refine And.intro rfl ?_|(refine And.intro ?_ ?_;(focus (first|omega|decide|(dsimp only;omega)|(simp at *;omega)))));conv=>whnf))
 all_goals first|contradiction|(exfalso;omega)|skip
 refine ah (fun i:Nat=>0<=i/\i<=8) (fun i=>[(8,.int .i64 (i:Int))]) (fun i=>[l9 V,l9 (fun _=>0),l9 (YF O 0 i)]) (fun i=>8-i) 0 ⟨by omega,by omega⟩ ?_ ?_
 ·conv=>whnf
  repeat (first|exact rfl|exact trivial|exact Or.inl (fun _ _=>rfl)|exact(fun _=>rfl)|exact(fun _ _=>rfl)|exact Or.inl (fun _ hi=>absurd hi (Nat.not_lt_zero _))|((first|refine And.intro rfl ?_|refine And.intro (Or.inl (fun _ _=>rfl)) ?_|refine And.intro (fun _=>rfl) ?_|refine And.intro (fun _ _=>rfl) ?_|(refine And.intro ?_ ?_;rotate_left));conv=>whnf))
 ·rintro i ⟨ez,hi⟩;have e:i=0\/i=1\/i=2\/i=3\/i=4\/i=5\/i=6\/i=7\/i=8:=by omega
  have p0:¬(0<r/\0<0)->V 0*2 ^ r%18446744073709551616=O 0:=fun h=>o1 0 h (by omega);have p1:¬(0<r/\0<1)->V 1*2 ^ r%18446744073709551616=O 1:=fun h=>o1 1 h (by omega);have q1:0<r->(V 1*2 ^ r%18446744073709551616 ||| V 0/2 ^ (64-r))=O 1:=fun h=>o2 1 h (by omega);have p2:¬(0<r/\0<2)->V 2*2 ^ r%18446744073709551616=O 2:=fun h=>o1 2 h (by omega);have q2:0<r->(V 2*2 ^ r%18446744073709551616 ||| V 1/2 ^ (64-r))=O 2:=fun h=>o2 2 h (by omega);have p3:¬(0<r/\0<3)->V 3*2 ^ r%18446744073709551616=O 3:=fun h=>o1 3 h (by omega);have q3:0<r->(V 3*2 ^ r%18446744073709551616 ||| V 2/2 ^ (64-r))=O 3:=fun h=>o2 3 h (by omega);have p4:¬(0<r/\0<4)->V 4*2 ^ r%18446744073709551616=O 4:=fun h=>o1 4 h (by omega);have q4:0<r->(V 4*2 ^ r%18446744073709551616 ||| V 3/2 ^ (64-r))=O 4:=fun h=>o2 4 h (by omega);have p5:¬(0<r/\0<5)->V 5*2 ^ r%18446744073709551616=O 5:=fun h=>o1 5 h (by omega);have q5:0<r->(V 5*2 ^ r%18446744073709551616 ||| V 4/2 ^ (64-r))=O 5:=fun h=>o2 5 h (by omega);have p6:¬(0<r/\0<6)->V 6*2 ^ r%18446744073709551616=O 6:=fun h=>o1 6 h (by omega);have q6:0<r->(V 6*2 ^ r%18446744073709551616 ||| V 5/2 ^ (64-r))=O 6:=fun h=>o2 6 h (by omega);have p7:¬(0<r/\0<7)->V 7*2 ^ r%18446744073709551616=O 7:=fun h=>o1 7 h (by omega);have q7:0<r->(V 7*2 ^ r%18446744073709551616 ||| V 6/2 ^ (64-r))=O 7:=fun h=>o2 7 h (by omega);clear o1 o2;rcases e with rfl|rfl|rfl|rfl|rfl|rfl|rfl|rfl|rfl
  all_goals
   (conv=>whnf);repeat' (first|refine bo ?_|refine aG ?_|((first|refine aB ak ?_|refine aS ak mixed ?_|refine aR ?_|refine aP ?_|refine aQ ?_|refine bp ?_);conv=>whnf)|(refine And.intro (fun h=>?_) (fun h=>?_)<;>(try simp only[ae] at h)<;>conv=>whnf)|(refine bB ?_ ?_;(focus (first|exact bC (by omega)|exact aV (by omega)|exact cy (by omega)|exact bG (by omega)|exact bH (by omega)));conv=>whnf)|((first|refine aY ?_|(refine And.intro (a:=bf _ _=true) ?_ ?_;(focus kernel_rfl))|refine And.intro rfl ?_|(refine And.intro ?_ ?_;(focus (first|omega|decide|(dsimp only;omega)|(simp at *;omega)))));conv=>whnf))
  all_goals first|contradiction|(exfalso;omega)|skip
  all_goals first|refine⟨1,⟨by decide,by decide⟩,by decide,?_⟩|refine⟨2,⟨by decide,by decide⟩,by decide,?_⟩|refine⟨3,⟨by decide,by decide⟩,by decide,?_⟩|refine⟨4,⟨by decide,by decide⟩,by decide,?_⟩|refine⟨5,⟨by decide,by decide⟩,by decide,?_⟩|refine⟨6,⟨by decide,by decide⟩,by decide,?_⟩|refine⟨7,⟨by decide,by decide⟩,by decide,?_⟩|refine⟨8,⟨by decide,by decide⟩,by decide,?_⟩
  all_goals
   conv=>whnf
   repeat (first|exact rfl|exact trivial|exact Or.inl (fun _ _=>rfl)|exact(fun _=>rfl)|exact(fun _ _=>rfl)|exact Or.inl (fun _ hi=>absurd hi (Nat.not_lt_zero _))|((first|refine And.intro rfl ?_|refine And.intro (Or.inl (fun _ _=>rfl)) ?_|refine And.intro (fun _=>rfl) ?_|refine And.intro (fun _ _=>rfl) ?_|(refine And.intro ?_ ?_;rotate_left));conv=>whnf))
   all_goals first
    | (rw[bV _ _ hr,dQ _ _ (by omega)];exact or_val (Nat.mod_lt _ (by omega)) (cg (hV 0)) (q1 (by omega)) (hO 1))
    | (rw[bV _ _ hr,dQ _ _ (by omega)];exact or_val (Nat.mod_lt _ (by omega)) (cg (hV 1)) (q2 (by omega)) (hO 2))
    | (rw[bV _ _ hr,dQ _ _ (by omega)];exact or_val (Nat.mod_lt _ (by omega)) (cg (hV 2)) (q3 (by omega)) (hO 3))
    | (rw[bV _ _ hr,dQ _ _ (by omega)];exact or_val (Nat.mod_lt _ (by omega)) (cg (hV 3)) (q4 (by omega)) (hO 4))
    | (rw[bV _ _ hr,dQ _ _ (by omega)];exact or_val (Nat.mod_lt _ (by omega)) (cg (hV 4)) (q5 (by omega)) (hO 5))
    | (rw[bV _ _ hr,dQ _ _ (by omega)];exact or_val (Nat.mod_lt _ (by omega)) (cg (hV 5)) (q6 (by omega)) (hO 6))
    | (rw[bV _ _ hr,dQ _ _ (by omega)];exact or_val (Nat.mod_lt _ (by omega)) (cg (hV 6)) (q7 (by omega)) (hO 7))
    | (rw[bV _ _ hr];exact congrArg Nat.cast (p0 (by omega)))
    | (rw[bV _ _ hr];exact congrArg Nat.cast (p1 (by omega)))
    | (rw[bV _ _ hr];exact congrArg Nat.cast (p2 (by omega)))
    | (rw[bV _ _ hr];exact congrArg Nat.cast (p3 (by omega)))
    | (rw[bV _ _ hr];exact congrArg Nat.cast (p4 (by omega)))
    | (rw[bV _ _ hr];exact congrArg Nat.cast (p5 (by omega)))
    | (rw[bV _ _ hr];exact congrArg Nat.cast (p6 (by omega)))
    | (rw[bV _ _ hr];exact congrArg Nat.cast (p7 (by omega)))
   
theorem QY(V O:Nat->Nat)(hV:cK V)(hO:cK O)(z:Int)(r:Nat)(hr:r<64)(hz:z=64*1+r)
  (o1:∀i,¬(0<r/\1<i)->1<=i->V (i-1)*2 ^ r%18446744073709551616=O i) (o2:∀i,0<r->1<i->(V (i-1)*2 ^ r%18446744073709551616 ||| V (i-1-1)/2 ^ (64-r))=O i) :
  aa Tryz.prog G 280 [aF V,.int .i64 z] (aF (YF O 1 8)):=by
 have t1:z.tdiv 64=1:=by rw[Int.tdiv_eq_ediv_of_nonneg (by omega)];omega
 have t2:z.tmod 64=r:=by rw[Int.tmod_eq_emod_of_nonneg (by omega)];omega
 unfold aF;refine aa.af ak Tryz.func280 rfl rfl _ rfl ?_;(conv=>whnf);repeat' (first|((rw[t1,t2];conv=>whnf))|refine bo ?_|refine aG ?_|((first|refine aB ak ?_|refine aS ak mixed ?_|refine aR ?_|refine aP ?_|refine aQ ?_|refine bp ?_);conv=>whnf)|(refine And.intro (fun h=>?_) (fun h=>?_)<;>(try simp only[ae] at h)<;>conv=>whnf)|(refine bB ?_ ?_;(focus (first|exact bC (by omega)|exact aV (by omega)|exact cy (by omega)|exact bG (by omega)|exact bH (by omega)));conv=>whnf)|((first|refine aY ?_|(refine And.intro (a:=bf _ _=true) ?_ ?_;(focus kernel_rfl))|refine And.intro rfl ?_|(refine And.intro ?_ ?_;(focus (first|omega|decide|(dsimp only;omega)|(simp at *;omega)))));conv=>whnf))
 all_goals first|contradiction|(exfalso;omega)|skip
 refine ah (fun i:Nat=>1<=i/\i<=8) (fun i=>[(8,.int .i64 (i:Int))]) (fun i=>[l9 V,l9 (fun _=>0),l9 (YF O 1 i)]) (fun i=>8-i) 1 ⟨by omega,by omega⟩ ?_ ?_
 ·conv=>whnf
  repeat (first|exact rfl|exact trivial|exact Or.inl (fun _ _=>rfl)|exact(fun _=>rfl)|exact(fun _ _=>rfl)|exact Or.inl (fun _ hi=>absurd hi (Nat.not_lt_zero _))|((first|refine And.intro rfl ?_|refine And.intro (Or.inl (fun _ _=>rfl)) ?_|refine And.intro (fun _=>rfl) ?_|refine And.intro (fun _ _=>rfl) ?_|(refine And.intro ?_ ?_;rotate_left));conv=>whnf))
 ·rintro i ⟨ez,hi⟩;have e:i=1\/i=2\/i=3\/i=4\/i=5\/i=6\/i=7\/i=8:=by omega
  have p1:¬(0<r/\1<1)->V 0*2 ^ r%18446744073709551616=O 1:=fun h=>o1 1 h (by omega);have p2:¬(0<r/\1<2)->V 1*2 ^ r%18446744073709551616=O 2:=fun h=>o1 2 h (by omega);have q2:0<r->(V 1*2 ^ r%18446744073709551616 ||| V 0/2 ^ (64-r))=O 2:=fun h=>o2 2 h (by omega);have p3:¬(0<r/\1<3)->V 2*2 ^ r%18446744073709551616=O 3:=fun h=>o1 3 h (by omega);have q3:0<r->(V 2*2 ^ r%18446744073709551616 ||| V 1/2 ^ (64-r))=O 3:=fun h=>o2 3 h (by omega);have p4:¬(0<r/\1<4)->V 3*2 ^ r%18446744073709551616=O 4:=fun h=>o1 4 h (by omega);have q4:0<r->(V 3*2 ^ r%18446744073709551616 ||| V 2/2 ^ (64-r))=O 4:=fun h=>o2 4 h (by omega);have p5:¬(0<r/\1<5)->V 4*2 ^ r%18446744073709551616=O 5:=fun h=>o1 5 h (by omega);have q5:0<r->(V 4*2 ^ r%18446744073709551616 ||| V 3/2 ^ (64-r))=O 5:=fun h=>o2 5 h (by omega);have p6:¬(0<r/\1<6)->V 5*2 ^ r%18446744073709551616=O 6:=fun h=>o1 6 h (by omega);have q6:0<r->(V 5*2 ^ r%18446744073709551616 ||| V 4/2 ^ (64-r))=O 6:=fun h=>o2 6 h (by omega);have p7:¬(0<r/\1<7)->V 6*2 ^ r%18446744073709551616=O 7:=fun h=>o1 7 h (by omega);have q7:0<r->(V 6*2 ^ r%18446744073709551616 ||| V 5/2 ^ (64-r))=O 7:=fun h=>o2 7 h (by omega);clear o1 o2;rcases e with rfl|rfl|rfl|rfl|rfl|rfl|rfl|rfl
  all_goals
   (conv=>whnf);repeat' (first|refine bo ?_|refine aG ?_|((first|refine aB ak ?_|refine aS ak mixed ?_|refine aR ?_|refine aP ?_|refine aQ ?_|refine bp ?_);conv=>whnf)|(refine And.intro (fun h=>?_) (fun h=>?_)<;>(try simp only[ae] at h)<;>conv=>whnf)|(refine bB ?_ ?_;(focus (first|exact bC (by omega)|exact aV (by omega)|exact cy (by omega)|exact bG (by omega)|exact bH (by omega)));conv=>whnf)|((first|refine aY ?_|(refine And.intro (a:=bf _ _=true) ?_ ?_;(focus kernel_rfl))|refine And.intro rfl ?_|(refine And.intro ?_ ?_;(focus (first|omega|decide|(dsimp only;omega)|(simp at *;omega)))));conv=>whnf))
  all_goals first|contradiction|(exfalso;omega)|skip
  all_goals first|refine⟨2,⟨by decide,by decide⟩,by decide,?_⟩|refine⟨3,⟨by decide,by decide⟩,by decide,?_⟩|refine⟨4,⟨by decide,by decide⟩,by decide,?_⟩|refine⟨5,⟨by decide,by decide⟩,by decide,?_⟩|refine⟨6,⟨by decide,by decide⟩,by decide,?_⟩|refine⟨7,⟨by decide,by decide⟩,by decide,?_⟩|refine⟨8,⟨by decide,by decide⟩,by decide,?_⟩
  all_goals
   conv=>whnf
   repeat (first|exact rfl|exact trivial|exact Or.inl (fun _ _=>rfl)|exact(fun _=>rfl)|exact(fun _ _=>rfl)|exact Or.inl (fun _ hi=>absurd hi (Nat.not_lt_zero _))|((first|refine And.intro rfl ?_|refine And.intro (Or.inl (fun _ _=>rfl)) ?_|refine And.intro (fun _=>rfl) ?_|refine And.intro (fun _ _=>rfl) ?_|(refine And.intro ?_ ?_;rotate_left));conv=>whnf))
   all_goals first
    | (rw[bV _ _ hr,dQ _ _ (by omega)];exact or_val (Nat.mod_lt _ (by omega)) (cg (hV 0)) (q2 (by omega)) (hO 2))
    | (rw[bV _ _ hr,dQ _ _ (by omega)];exact or_val (Nat.mod_lt _ (by omega)) (cg (hV 1)) (q3 (by omega)) (hO 3))
    | (rw[bV _ _ hr,dQ _ _ (by omega)];exact or_val (Nat.mod_lt _ (by omega)) (cg (hV 2)) (q4 (by omega)) (hO 4))
    | (rw[bV _ _ hr,dQ _ _ (by omega)];exact or_val (Nat.mod_lt _ (by omega)) (cg (hV 3)) (q5 (by omega)) (hO 5))
    | (rw[bV _ _ hr,dQ _ _ (by omega)];exact or_val (Nat.mod_lt _ (by omega)) (cg (hV 4)) (q6 (by omega)) (hO 6))
    | (rw[bV _ _ hr,dQ _ _ (by omega)];exact or_val (Nat.mod_lt _ (by omega)) (cg (hV 5)) (q7 (by omega)) (hO 7))
    | (rw[bV _ _ hr];exact congrArg Nat.cast (p1 (by omega)))
    | (rw[bV _ _ hr];exact congrArg Nat.cast (p2 (by omega)))
    | (rw[bV _ _ hr];exact congrArg Nat.cast (p3 (by omega)))
    | (rw[bV _ _ hr];exact congrArg Nat.cast (p4 (by omega)))
    | (rw[bV _ _ hr];exact congrArg Nat.cast (p5 (by omega)))
    | (rw[bV _ _ hr];exact congrArg Nat.cast (p6 (by omega)))
    | (rw[bV _ _ hr];exact congrArg Nat.cast (p7 (by omega)))
   
theorem QZ(v n:Nat)(hn:n<128):aa Tryz.prog G 280 [az v,.int .i64 (n:Int)] (az (v*2 ^ n)):=by
 by_cases h:n<64
 ·have g:=QX (G:=G) (wW v) (wW (v*2 ^ n)) (bS v) (bS _) (n:Int) n h (by omega)
   (fun i h1 h2=>by have:=MR (v:=v) (q:=0) h1 h2;rw[show 64*0+n=n by omega] at this;exact this)
   (fun i h1 h2=>by have:=MT (v:=v) (q:=0) (i:=i) h h1 h2;rw[show 64*0+n=n by omega] at this;exact this)
  exact g
 ·have e:64*1+(n-64)=n:=by omega
  have g:=QY (G:=G) (wW v) (wW (v*2 ^ n)) (bS v) (bS _) (n:Int) (n-64) (by omega) (by omega)
   (fun i h1 h2=>by have:=MR (v:=v) (q:=1) h1 h2;rw[e] at this;exact this)
   (fun i h1 h2=>by have:=MT (v:=v) (q:=1) (i:=i) (show n-64<64 by omega) h1 h2;rw[e] at this;exact this)
  have z:wW (v*2 ^ n) 0=0:=by have:=UW (v:=v) (q:=1) (r:=n-64) (i:=0) (by omega);rw[e] at this;exact this
  have ew:aF (YF (wW (v*2 ^ n)) 1 8)=az (v*2 ^ n):=by
   unfold az aF;rw[z];rfl
  rw[ew] at g;exact g
theorem Da(v n:Nat)(hn:n<128):aa Tryz.prog G 226 [az v,.int .i64 (n:Int)] (az (v*2 ^ n)):=by
 have c:=QZ (G:=G) v n hn;have hm:(if (n:Int) < -512 then (-512:Int) else (n:Int))=n:=if_neg (by omega);have tv:(if (512:Int)<(n:Int) then (512:Int) else (n:Int))=n:=if_neg (by omega);unfold az aF at *;generalize wW v=V at *;generalize wW (v*2 ^ n)=U at *;refine aa.af ak Tryz.func226 rfl rfl _ rfl ?_;(conv=>whnf);repeat' ((first|((rw[hm,tv];conv=>whnf))|((rw[hm];conv=>whnf))|((rw[tv];conv=>whnf))|refine st ?_|(refine⟨fun h=>?_,fun h=>?_⟩<;>try simp only[ae] at h)|(refine .inl ?_;(conv=>whnf);refine⟨_,c,?_⟩)|refine wf ?_|refine ao ?_|refine nn ?_|fail)<;>conv=>whnf)
 all_goals first|contradiction|(exfalso;omega)|skip
theorem rm(v n:Nat)(hv:v<65536 ^ 32)(hn:n<128):aa Tryz.prog G 226 [az v,.int .i64 (-(n:Int))] (az (v/2 ^ n)):=by
 by_cases h0:n=0
 ·subst h0;have:=Da (G:=G) v 0 (by omega);rw[Nat.pow_zero,Nat.mul_one] at this;rw[Nat.pow_zero,Nat.div_one];exact this
 ·have c:=MW (G:=G) v n hv hn;have hm:(if -(n:Int) < -512 then (-512:Int) else -(n:Int)) = -(n:Int):=if_neg (by omega);have tv:(if (512:Int) < -(n:Int) then (512:Int) else -(n:Int)) = -(n:Int):=if_neg (by omega);have hnn : -(-(n:Int))=n:=by omega
  clear hv;unfold az aF at *;generalize wW v=V at *;generalize wW (v/2 ^ n)=U at *;refine aa.af ak Tryz.func226 rfl rfl _ rfl ?_;(conv=>whnf);repeat' ((first|((rw[hm,tv];conv=>whnf))|((rw[hm];conv=>whnf))|((rw[tv];conv=>whnf))|((rw[hnn];conv=>whnf))|refine st ?_|(refine⟨fun h=>?_,fun h=>?_⟩<;>try simp only[ae] at h)|(refine .inl ?_;(conv=>whnf);refine⟨_,c,?_⟩)|refine wf ?_|refine ao ?_|refine nn ?_|fail)<;>conv=>whnf)
  all_goals first|contradiction|(exfalso;omega)|skip
theorem eqW{a b:Nat}(ha:a<65536 ^ 32)(hb:b<65536 ^ 32):((((wW a 0:Nat):Int)==((wW b 0:Nat):Int))&&((((wW a 1:Nat):Int)==((wW b 1:Nat):Int))&&((((wW a 2:Nat):Int)==((wW b 2:Nat):Int))&&((((wW a 3:Nat):Int)==((wW b 3:Nat):Int))&&((((wW a 4:Nat):Int)==((wW b 4:Nat):Int))&&((((wW a 5:Nat):Int)==((wW b 5:Nat):Int))&&((((wW a 6:Nat):Int)==((wW b 6:Nat):Int))&&((((wW a 7:Nat):Int)==((wW b 7:Nat):Int))&&true))))))))=decide (a=b):=by
 rw[Bool.eq_iff_iff,decide_eq_true_iff];simp only[Bool.and_eq_true,beq_iff_eq,and_true];constructor
 ·rintro⟨z0,z1,z2,z3,z4,z5,z6,z7⟩;have ea:=dh ha;have eb:=dh hb;rw[cP (bS a)] at ea;rw[cP (bS b)] at eb;rw[<-ea,<-eb,Int.ofNat_inj.1 z0,Int.ofNat_inj.1 z1,Int.ofNat_inj.1 z2,Int.ofNat_inj.1 z3,Int.ofNat_inj.1 z4,Int.ofNat_inj.1 z5,Int.ofNat_inj.1 z6,Int.ofNat_inj.1 z7]
 ·rintro rfl;simp
theorem tQ{a b k o:Nat}(hb:b%2=1)(BI:b<a)(hd:a-b=2 ^ k*o):Nat.gcd o b=Nat.gcd a b:=by
 have h1:Nat.gcd a b=Nat.gcd (a-b) b:=by
  have:a=(a-b)+b:=by omega
  conv=>lhs;rw[this]
  rw[Nat.gcd_add_self_left]
 rw[h1,hd]
 have h2:Nat.Coprime b 2:=by
  have:Nat.gcd b 2=Nat.gcd 2 (b%2):=by rw[Nat.gcd_comm,Nat.gcd_rec,Nat.gcd_comm]
  unfold Nat.Coprime;rw[this,hb];rfl
 have h3:Nat.Coprime (2 ^ k) b:=(Nat.Coprime.pow_right k h2).symm;exact(Nat.Coprime.gcd_mul_left_cancel o h3).symm
theorem Hz{b:Nat}(k:Nat)(hb:b%2=1):Nat.Coprime (2 ^ k) b:=by
 have h2:Nat.Coprime b 2:=by
  have:Nat.gcd b 2=Nat.gcd 2 (b%2):=by rw[Nat.gcd_comm,Nat.gcd_rec,Nat.gcd_comm]
  unfold Nat.Coprime;rw[this,hb];rfl
 exact(Nat.Coprime.pow_right k h2).symm
theorem Jo{s t a b:Nat}(ha:a%2=1)(hb:b%2=1):Nat.gcd (2 ^ s*a) (2 ^ t*b)=Nat.gcd a b*2 ^ min s t:=by
 rcases Nat.le_total s t with h|h
 ·rw[Nat.min_eq_left h];obtain⟨u,rfl⟩:∃u,t=s+u:=⟨t-s,by omega⟩;rw[Nat.pow_add,Nat.mul_assoc,Nat.gcd_mul_left,Nat.gcd_comm a,Nat.Coprime.gcd_mul_left_cancel b (Hz u ha),Nat.gcd_comm b,Nat.mul_comm]
 ·rw[Nat.min_eq_right h];obtain⟨u,rfl⟩:∃u,s=t+u:=⟨s-t,by omega⟩;rw[Nat.pow_add,Nat.mul_assoc,Nat.gcd_mul_left,Nat.Coprime.gcd_mul_left_cancel a (Hz u hb),Nat.mul_comm]
def UX(g:Nat)(x:Nat×Nat×(Nat->Nat)×(Nat->Nat)):Prop:=x.1%2=1/\x.2.1%2=1/\Nat.gcd x.1 x.2.1=g/\x.1<2 ^ 127/\x.2.1<2 ^ 127/\wW x.1=x.2.2.1/\wW x.2.1=x.2.2.2
theorem UY:(2:Nat) ^ 127<65536 ^ 32:=by decide
theorem MX(x y:Nat)(hx:x<2 ^ 127)(hy:y<2 ^ 127):aa Tryz.prog G 162 [az x,az y] (az (Nat.gcd x y)):=by
 have hP:=UY;have zx:=kq (G:=G) x (by omega);have zy:=kq (G:=G) y (by omega);by_cases x0:x=0
 ·subst x0;rw[Nat.gcd_zero_left];rw[decide_eq_true rfl] at zx;unfold az aF at *;generalize wW 0=X at *;generalize wW y=Y at *;refine aa.af ak Tryz.func162 rfl rfl _ rfl ?_;(conv=>whnf);repeat' ((first|refine st ?_|(refine⟨fun h=>?_,fun h=>?_⟩<;>try simp only[ae] at h)|(refine .inl ?_;(conv=>whnf);refine⟨_,zx,?_⟩)|refine wf ?_|refine ao ?_|refine nn ?_|fail)<;>conv=>whnf)
  all_goals first|contradiction|(exfalso;omega)|skip
 ·rw[decide_eq_false x0] at zx;by_cases y0:y=0
  ·subst y0;rw[Nat.gcd_zero_right];rw[decide_eq_true rfl] at zy;unfold az aF at *;generalize wW 0=Y at *;generalize wW x=X at *;refine aa.af ak Tryz.func162 rfl rfl _ rfl ?_;(conv=>whnf);repeat' ((first|refine st ?_|(refine⟨fun h=>?_,fun h=>?_⟩<;>try simp only[ae] at h)|(refine .inl ?_;(conv=>whnf);(first|refine⟨_,zx,?_⟩|refine⟨_,zy,?_⟩))|refine wf ?_|refine ao ?_|refine nn ?_|fail)<;>conv=>whnf)
   all_goals first|contradiction|(exfalso;omega)|skip
  ·rw[decide_eq_false y0] at zy;obtain⟨s,a,ex,ha,hs⟩:=oh 127 x (by omega) hx;obtain⟨t,b,ey,hb,ht⟩:=oh 127 y (by omega) hy;have tx:=uV (G:=G) s a (by omega) ha;have ty:=uV (G:=G) t b (by omega) hb;rw[<-ex] at tx;rw[<-ey] at ty;have sx:=rm (G:=G) x s (by omega) (by omega);have sy:=rm (G:=G) y t (by omega) (by omega);have dx:x/2 ^ s=a:=by rw[ex,Nat.mul_div_cancel_left _ (Nat.pow_pos (by omega))]
   have dy:y/2 ^ t=b:=by rw[ey,Nat.mul_div_cancel_left _ (Nat.pow_pos (by omega))]
   rw[dx] at sx;rw[dy] at sy;have hg:Nat.gcd x y=Nat.gcd a b*2 ^ min s t:=by rw[ex,ey];exact Jo ha hb
   have hax:a<=x:=by rw[<-dx];exact Nat.div_le_self _ _
   have D6:b<=y:=by rw[<-dy];exact Nat.div_le_self _ _
   have hmin:(if (t:Int)<(s:Int) then (t:Int) else (s:Int))=((min s t:Nat):Int):=by
    split<;>omega
   rw[hg];have hmn:min s t<128:=by omega
   clear hg dx dy ex ey;generalize hgg:Nat.gcd a b=g at *;have D7:=fun v=>Da (G:=G) v (min s t) hmn;generalize min s t=mn at *;unfold az aF at zx zy tx ty sx sy ⊢;generalize wW x=X at *;generalize wW y=Y at *;refine aa.af ak Tryz.func162 rfl rfl _ rfl ?_;(conv=>whnf);repeat' ((first|((rw[hmin];conv=>whnf))|refine st ?_|(refine⟨fun h=>?_,fun h=>?_⟩<;>try simp only[ae] at h)|(refine .inl ?_;(conv=>whnf);(first|refine⟨_,zx,?_⟩|refine⟨_,zy,?_⟩|refine⟨_,tx,?_⟩|refine⟨_,ty,?_⟩|refine⟨_,sx,?_⟩|refine⟨_,sy,?_⟩))|refine wf ?_|refine ao ?_|refine nn ?_|fail)<;>conv=>whnf)
   all_goals first|contradiction|(exfalso;omega)|skip
   clear zx zy tx ty sx sy;refine ah (UX g) (fun _=>[]) (fun z=>match z with|(_,_,A,B)=>[l9 A,l9 B,l9 (fun _=>0)]) (fun z=>z.1+z.2.1) (a,b,wW a,wW b) ⟨ha,hb,hgg,by show a<_;omega,by show b<_;omega,rfl,rfl⟩ ?_ ?_
   ·conv=>whnf
    repeat (first|exact fa|((first|refine fb ?_|(refine And.intro ?_ ?_;rotate_left));conv=>whnf))
   ·rintro⟨p,q,P,Q⟩ hI;obtain⟨hp,hq,xF,SR,BB,UZ,WC⟩:=hI;have hp:p%2=1:=hp;have hq:q%2=1:=hq;have xF:Nat.gcd p q=g:=xF;have SR:p<2 ^ 127:=SR;have BB:q<2 ^ 127:=BB;have UZ:wW p=P:=UZ;have WC:wW q=Q:=WC;have he:=eqW (a:=p) (b:=q) (by omega) (by omega);rw[UZ,WC] at he;by_cases J':p=q
    ·subst J';rw[Nat.gcd_self] at xF;subst xF;rw[decide_eq_true rfl] at he;have cs:=D7 p;unfold az aF at cs;rw[UZ] at cs;generalize wW (p*2 ^ mn)=U at *;(conv=>whnf);repeat' ((first|(exact Bool.noConfusion (he.symm.trans (by assumption)))|(exact absurd he (by assumption))|refine st ?_|(refine⟨fun h=>?_,fun h=>?_⟩<;>try simp only[ae] at h)|(refine .inl ?_;(conv=>whnf);refine⟨_,cs,?_⟩)|refine wf ?_|refine ao ?_|refine nn ?_|fail)<;>conv=>whnf)
     all_goals first|contradiction|(exfalso;omega)|skip
    ·rw[decide_eq_false J'] at he;have hc:=oW (G:=G) p q (by omega) (by omega);by_cases aH:p<q
     ·have X9:eZ p q = -1:=by unfold eZ;rw[if_pos aH]
      rw[X9] at hc;obtain⟨k,o,e1,e2,e3⟩:=oh 127 (q-p) (by omega) (by omega);have c1:=oV (G:=G) q p (by omega) (by omega);have c2:=uV (G:=G) k o (by omega) e2;rw[<-e1] at c2;have c3:=rm (G:=G) (q-p) k (by omega) (by omega);have dk:(q-p)/2 ^ k=o:=by rw[e1,Nat.mul_div_cancel_left _ (Nat.pow_pos (by omega))]
      rw[dk] at c3;have ho:o<=q-p:=by rw[<-dk];exact Nat.div_le_self _ _
      have ZE:0<p:=by omega
      have hn:UX g (o,p,wW o,P):=⟨e2,hp,by show Nat.gcd o p=g;rw[tQ hp aH e1,Nat.gcd_comm,xF],(by show o<_;omega),SR,rfl,UZ⟩;clear e1 dk xF D7;unfold az aF at hc c1 c2 c3;rw[UZ,WC] at hc c1;generalize wW (q-p)=D at *;generalize wW o=O at *;(conv=>whnf);repeat' ((first|(exact Bool.noConfusion (he.symm.trans (by assumption)))|refine st ?_|(refine⟨fun h=>?_,fun h=>?_⟩<;>try simp only[ae] at h)|(refine .inl ?_;(conv=>whnf);(first|refine⟨_,hc,?_⟩|refine⟨_,c1,?_⟩|refine⟨_,c2,?_⟩|refine⟨_,c3,?_⟩))|refine wf ?_|refine ao ?_|refine nn ?_|fail)<;>conv=>whnf)
      all_goals first|contradiction|(exfalso;omega)|skip
      all_goals
       refine⟨(o,p,O,P),hn,(by show o+p<p+q;omega),?_⟩;(conv=>whnf)
       repeat (first|exact fa|((first|refine fb ?_|(refine And.intro ?_ ?_;rotate_left));conv=>whnf))
     ·have ID:q<p:=by omega
      have X9:eZ p q=1:=by unfold eZ;rw[if_neg aH,if_pos ID]
      rw[X9] at hc;obtain⟨k,o,e1,e2,e3⟩:=oh 127 (p-q) (by omega) (by omega);have c1:=oV (G:=G) p q (by omega) (by omega);have c2:=uV (G:=G) k o (by omega) e2;rw[<-e1] at c2;have c3:=rm (G:=G) (p-q) k (by omega) (by omega);have dk:(p-q)/2 ^ k=o:=by rw[e1,Nat.mul_div_cancel_left _ (Nat.pow_pos (by omega))]
      rw[dk] at c3;have ho:o<=p-q:=by rw[<-dk];exact Nat.div_le_self _ _
      have hq0:0<q:=by omega
      have hn:UX g (o,q,wW o,Q):=⟨e2,hq,by show Nat.gcd o q=g;rw[tQ hq ID e1,xF],(by show o<_;omega),BB,rfl,WC⟩;clear e1 dk xF D7;unfold az aF at hc c1 c2 c3;rw[UZ,WC] at hc c1;generalize wW (p-q)=D at *;generalize wW o=O at *;(conv=>whnf);repeat' ((first|(exact Bool.noConfusion (he.symm.trans (by assumption)))|refine st ?_|(refine⟨fun h=>?_,fun h=>?_⟩<;>try simp only[ae] at h)|(refine .inl ?_;(conv=>whnf);(first|refine⟨_,hc,?_⟩|refine⟨_,c1,?_⟩|refine⟨_,c2,?_⟩|refine⟨_,c3,?_⟩))|refine wf ?_|refine ao ?_|refine nn ?_|fail)<;>conv=>whnf)
      all_goals first|contradiction|(exfalso;omega)|skip
      all_goals
       refine⟨(o,q,O,Q),hn,(by show o+q<p+q;omega),?_⟩;(conv=>whnf)
       repeat (first|exact fa|((first|refine fb ?_|(refine And.intro ?_ ?_;rotate_left));conv=>whnf))
theorem qb{x:Int}{v:Nat}{p:Bool}(h1:v=x.natAbs)(h2:p=decide (x<0)):cE p v=cB x:=by unfold cB;rw[h1,h2]
theorem O':∀j,wW 0 j=0:=fun j=>by rw[Fi (by omega)];split<;>rfl
theorem AD(p:Bool)(v:Nat)(hv:v<65536 ^ 32):aa Tryz.prog G 164 [cE p v] (cE (p&&decide (v≠0)) v):=by
 have hz:=kq (G:=G) v hv;by_cases h0:v=0
 ·subst h0;rw[decide_eq_true rfl] at hz;rw[decide_eq_false (by omega),Bool.and_false];unfold az aF at hz;unfold cE;rw[O' 0,O' 1,O' 2,O' 3,O' 4,O' 5,O' 6,O' 7] at *;refine aa.af ak Tryz.func164 rfl rfl _ rfl ?_;(conv=>whnf);repeat' ((first|refine st ?_|(refine⟨fun h=>?_,fun h=>?_⟩<;>try simp only[ae] at h)|(refine .inl ?_;(conv=>whnf);refine⟨_,hz,?_⟩)|refine wf ?_|refine ao ?_|refine nn ?_|fail)<;>conv=>whnf)
  all_goals first|contradiction|(exfalso;omega)|rfl|skip
 ·rw[decide_eq_false h0] at hz;rw[decide_eq_true h0,Bool.and_true];unfold az aF at hz;unfold cE;generalize wW v=V at *;refine aa.af ak Tryz.func164 rfl rfl _ rfl ?_;(conv=>whnf);repeat' ((first|refine st ?_|(refine⟨fun h=>?_,fun h=>?_⟩<;>try simp only[ae] at h)|(refine .inl ?_;(conv=>whnf);refine⟨_,hz,?_⟩)|refine wf ?_|refine ao ?_|refine nn ?_|fail)<;>conv=>whnf)
  all_goals first|contradiction|(exfalso;omega)|skip
theorem wT(x:Int)(h:x.natAbs<65536 ^ 32):aa Tryz.prog G 164 [cB x] (cB x):=by
 have c:=AD (G:=G) (decide (x<0)) x.natAbs h
 have e:cE (decide (x<0)&&decide (x.natAbs≠0)) x.natAbs=cB x:=qb rfl (by
  rw[Bool.eq_iff_iff,Bool.and_eq_true,decide_eq_true_iff,decide_eq_true_iff];omega)
 rw[e] at c;exact c
theorem HA(n:Int)(h1 : -9223372036854775808<=n)(h2:n<=9223372036854775807):aa Tryz.prog G 165 [.int .i64 n] (cB n):=by
 have ht:=QP (G:=G) n h1 h2;have ho:=rl (G:=G) n.natAbs;have hf:=wT (G:=G) n (by rw[dp];omega);have hw:=mf (b:=n.natAbs) (by omega);rw[<-hw] at ho;unfold cB cE at hf ⊢;unfold az aF at ho;generalize wW n.natAbs=V at *;clear hw;refine aa.af ak Tryz.func165 rfl rfl _ rfl ?_;(conv=>whnf);repeat' ((first|refine st ?_|(refine⟨fun h=>?_,fun h=>?_⟩<;>try simp only[ae] at h)|(refine .inl ?_;(conv=>whnf);(first|refine⟨_,ht,?_⟩|refine⟨_,ho,?_⟩|refine⟨_,hf,?_⟩))|refine wf ?_|refine ao ?_|refine nn ?_|fail)<;>conv=>whnf)
 all_goals first|contradiction|(exfalso;omega)|skip
theorem MY(b:Bool)(u:Nat)(hu:u<65536 ^ 32):aa Tryz.prog G 234 [.sb b,az u,.sb true] (.tup [cE (b&&decide (u≠0)) u,.sb true]):=by
 have hf:=AD (G:=G) b u hu;unfold cE at *;unfold az aF;generalize wW u=U at *;refine aa.af ak Tryz.func234 rfl rfl _ rfl ?_;(conv=>whnf);repeat' ((first|refine st ?_|(refine⟨fun h=>?_,fun h=>?_⟩<;>try simp only[ae] at h)|(refine .inl ?_;(conv=>whnf);refine⟨_,hf,?_⟩)|refine wf ?_|refine ao ?_|refine nn ?_|fail)<;>conv=>whnf)
 all_goals first|contradiction|(exfalso;omega)|skip
theorem Fq(x y:Int)(hx:x.natAbs<65536 ^ 32)(hy:y.natAbs<18446744073709551616)(h:x.natAbs*y.natAbs<65536 ^ 32):aa Tryz.prog G 170 [cB x,cB y] (.tup [cB (x*y),.sb true]):=by
 have c1:=Jk (G:=G) x.natAbs y.natAbs hx hy h;have c2:=MY (G:=G) (decide (x<0) != decide (y<0)) (x.natAbs*y.natAbs) h
 have e:cE ((decide (x<0) != decide (y<0))&&decide (x.natAbs*y.natAbs≠0)) (x.natAbs*y.natAbs)=cB (x*y):=qb (Int.natAbs_mul x y).symm (by
  rw[Bool.eq_iff_iff,Bool.and_eq_true,decide_eq_true_iff,decide_eq_true_iff,<-Int.natAbs_mul];have hm:(x*y).natAbs≠0↔x≠0/\y≠0:=by rw[Ne,Int.natAbs_eq_zero,Int.mul_eq_zero];omega
  rw[hm];rcases Int.lt_or_le x 0 with a|a<;>rcases Int.lt_or_le y 0 with b|b
  ·have:=Int.mul_nonneg_of_nonpos_of_nonpos (Int.le_of_lt a) (Int.le_of_lt b);rw[decide_eq_true a,decide_eq_true b];simp;omega
  ·rw[decide_eq_true a,decide_eq_false (by omega)];constructor
   ·rintro⟨_,q1,q2⟩;exact Int.mul_neg_of_neg_of_pos a (by omega)
   ·intro q;refine⟨rfl,by omega,fun q2=>?_⟩;rw[q2,Int.mul_zero] at q;omega
  ·rw[decide_eq_false (by omega),decide_eq_true b];constructor
   ·rintro⟨_,q1,q2⟩;exact Int.mul_neg_of_pos_of_neg (by omega) b
   ·intro q;refine⟨rfl,fun q2=>?_,by omega⟩;rw[q2,Int.zero_mul] at q;omega
  ·have:=Int.mul_nonneg a b;rw[decide_eq_false (by omega),decide_eq_false (by omega)];simp;omega)
 rw[e] at c2;have eX:cB x=cE (decide (x<0)) x.natAbs:=rfl;have eY:cB y=cE (decide (y<0)) y.natAbs:=rfl;rw[eX,eY];clear e eX eY hx hy h;unfold cB cE at *;unfold az aF at *;generalize wW x.natAbs=X at *;generalize wW y.natAbs=Y at *;generalize wW (x.natAbs*y.natAbs)=U at *;generalize wW (x*y).natAbs=Z at *;generalize decide (x<0)=p at *;generalize decide (y<0)=q at *;generalize decide (x*y<0)=b at *;refine aa.af ak Tryz.func170 rfl rfl _ rfl ?_;(conv=>whnf);repeat' ((first|refine st ?_|(refine⟨fun h=>?_,fun h=>?_⟩<;>try simp only[ae] at h)|(refine .inl ?_;(conv=>whnf);(first|refine⟨_,c1,?_⟩|refine⟨_,c2,?_⟩))|refine wf ?_|refine ao ?_|refine nn ?_|fail)<;>conv=>whnf)
 all_goals first|contradiction|(exfalso;omega)|skip
theorem Q0{a b:Nat}(h:a<b):eZ a b = -1:=by unfold eZ;rw[if_pos h]
theorem Q1{a b:Nat}(h:b<=a):eZ a b=(if b<a then 1 else 0):=by unfold eZ;rw[if_neg (by omega)]
/-- A sum of numbers whose signs are told. -/
theorem AE(p q b:Bool)(v w u:Nat)(x y:A)(zb:Bool)(zu:Nat)
  (fx:aa Tryz.prog G 164 [x] (cE p v)) (fy:aa Tryz.prog G 164 [y] (cE q w))
  (hx:x=cE p v) (hy:y=cE q w) (hm:aa Tryz.prog G 234 [.sb b,az u,.sb true] (.tup [cE zb zu,.sb true]))
  (h:p=q/\b=p/\aa Tryz.prog G 229 [az v,az w] (.tup [az u,.sb true]) \/
   p≠q/\v<w/\b=q/\aa Tryz.prog G 172 [az v,az w] (.int .i64 (-1))/\aa Tryz.prog G 227 [az w,az v] (.tup [az u,.sb true]) \/
   p≠q/\b=p/\(∃c:Int,¬c<0/\aa Tryz.prog G 172 [az v,az w] (.int .i64 c))/\aa Tryz.prog G 227 [az v,az w] (.tup [az u,.sb true])) :
  aa Tryz.prog G 173 [x,y] (.tup [cE zb zu,.sb true]):=by
 subst hx hy;unfold cE az aF at *;generalize wW v=V at *;generalize wW w=W at *;generalize wW u=U at *;generalize wW zu=Z at *;rcases h with⟨h1,h2,c1⟩|⟨h1,h2,h3,c1,c2⟩|⟨h1,h2,⟨c,hc,c1⟩,c2⟩
 ·subst h1 h2;cases b <;>
  ·refine aa.af ak Tryz.func173 rfl rfl _ rfl ?_;(conv=>whnf);repeat' ((first|refine st ?_|(refine⟨fun h=>?_,fun h=>?_⟩<;>try simp only[ae] at h)|(refine .inl ?_;(conv=>whnf);(first|refine⟨_,fx,?_⟩|refine⟨_,fy,?_⟩|refine⟨_,c1,?_⟩|refine⟨_,hm,?_⟩))|refine wf ?_|refine ao ?_|refine nn ?_|fail)<;>conv=>whnf)
   all_goals first|contradiction|(exfalso;omega)|skip
 ·subst h3;cases p<;>cases b<;>first|exact absurd rfl h1|skip
  all_goals
   refine aa.af ak Tryz.func173 rfl rfl _ rfl ?_;(conv=>whnf);repeat' ((first|refine st ?_|(refine⟨fun h=>?_,fun h=>?_⟩<;>try simp only[ae] at h)|(refine .inl ?_;(conv=>whnf);(first|refine⟨_,fx,?_⟩|refine⟨_,fy,?_⟩|refine⟨_,c1,?_⟩|refine⟨_,c2,?_⟩|refine⟨_,hm,?_⟩))|refine wf ?_|refine ao ?_|refine nn ?_|fail)<;>conv=>whnf)
   all_goals first|contradiction|(exfalso;omega)|skip
 ·subst h2;cases b<;>cases q<;>first|exact absurd rfl h1|skip
  all_goals
   refine aa.af ak Tryz.func173 rfl rfl _ rfl ?_;(conv=>whnf);repeat' ((first|refine st ?_|(refine⟨fun h=>?_,fun h=>?_⟩<;>try simp only[ae] at h)|(refine .inl ?_;(conv=>whnf);(first|refine⟨_,fx,?_⟩|refine⟨_,fy,?_⟩|refine⟨_,c1,?_⟩|refine⟨_,c2,?_⟩|refine⟨_,hm,?_⟩))|refine wf ?_|refine ao ?_|refine nn ?_|fail)<;>conv=>whnf)
   all_goals first|contradiction|(exfalso;omega)|skip
theorem U0(x y:Int)(h:x.natAbs+y.natAbs<65536 ^ 32):aa Tryz.prog G 173 [cB x,cB y] (.tup [cB (x+y),.sb true]):=by
 have fx:=wT (G:=G) x (by omega);have fy:=wT (G:=G) y (by omega);have hu:(x+y).natAbs<65536 ^ 32:=by omega
 have key:∀(b:Bool) (u:Nat),u<65536 ^ 32->u=(x+y).natAbs->(b&&decide (u≠0))=decide (x+y<0)->aa Tryz.prog G 234 [.sb b,az u,.sb true] (.tup [cB (x+y),.sb true]):=fun b u h1 h2 h3=>by
  have:=MY (G:=G) b u h1;rw[h3,qb h2 rfl] at this;exact this
 by_cases hs:decide (x<0)=decide (y<0)
 ·have ll:=decide_eq_decide.1 hs;refine AE (decide (x<0)) (decide (y<0)) (decide (x<0)) x.natAbs y.natAbs (x.natAbs+y.natAbs) _ _ (decide (x+y<0)) (x+y).natAbs fx fy rfl rfl (key _ _ h (by omega) ?_) (Or.inl ⟨hs,rfl,Jj _ _ h⟩);rw[Bool.eq_iff_iff,Bool.and_eq_true,decide_eq_true_iff,decide_eq_true_iff,decide_eq_true_iff];omega
 ·have ll:¬(x<0↔y<0):=fun q=>hs (decide_eq_decide.2 q);have hc:=oW (G:=G) x.natAbs y.natAbs (by omega) (by omega);by_cases aH:x.natAbs<y.natAbs
  ·rw[Q0 aH] at hc;refine AE (decide (x<0)) (decide (y<0)) (decide (y<0)) x.natAbs y.natAbs (y.natAbs-x.natAbs) _ _ (decide (x+y<0)) (x+y).natAbs fx fy rfl rfl (key _ _ (by omega) (by omega) ?_) (Or.inr (Or.inl ⟨hs,aH,rfl,hc,oV _ _ (by omega) (by omega)⟩));rw[Bool.eq_iff_iff,Bool.and_eq_true,decide_eq_true_iff,decide_eq_true_iff,decide_eq_true_iff];omega
  ·refine AE (decide (x<0)) (decide (y<0)) (decide (x<0)) x.natAbs y.natAbs (x.natAbs-y.natAbs) _ _ (decide (x+y<0)) (x+y).natAbs fx fy rfl rfl (key _ _ (by omega) (by omega) ?_) (Or.inr (Or.inr ⟨hs,rfl,⟨_,?_,hc⟩,oV _ _ (by omega) (by omega)⟩))
   ·rw[Bool.eq_iff_iff,Bool.and_eq_true,decide_eq_true_iff,decide_eq_true_iff,decide_eq_true_iff];omega
   ·rw[Q1 (by omega)];split<;>omega
def kE(x y:Int):Int:=if x<y then -1 else if y<x then 1 else 0
theorem MZ(p q:Bool)(v w:Nat)(x y:A)(r:Int)
  (fx:aa Tryz.prog G 164 [x] (cE p v)) (fy:aa Tryz.prog G 164 [y] (cE q w)) (hx:x=cE p v) (hy:y=cE q w)
  (c1:aa Tryz.prog G 172 [az v,az w] (.int .i64 (eZ v w))) (c2:aa Tryz.prog G 172 [az w,az v] (.int .i64 (eZ w v)))
  (hr:r=if p=true then (if q=true then eZ w v else -1) else if q=true then 1 else eZ v w) :
  aa Tryz.prog G 121 [x,y] (.int .i64 r):=by
 subst hx hy hr;unfold cE az aF at *;generalize wW v=V at *;generalize wW w=W at *;generalize eZ v w=cvw at *;generalize eZ w v=cwv at *;cases p<;>cases q
 all_goals
  refine aa.af ak Tryz.func121 rfl rfl _ rfl ?_;(conv=>whnf);repeat' ((first|refine st ?_|(refine⟨fun h=>?_,fun h=>?_⟩<;>try simp only[ae] at h)|(refine .inl ?_;(conv=>whnf);(first|refine⟨_,fx,?_⟩|refine⟨_,fy,?_⟩|refine⟨_,c1,?_⟩|refine⟨_,c2,?_⟩))|refine wf ?_|refine ao ?_|refine nn ?_|fail)<;>conv=>whnf)
  all_goals first|contradiction|(exfalso;omega)|rfl|skip
theorem M0(x y:Int)(hx:x.natAbs<65536 ^ 32)(hy:y.natAbs<65536 ^ 32):aa Tryz.prog G 121 [cB x,cB y] (.int .i64 (kE x y)):=by
 refine MZ (decide (x<0)) (decide (y<0)) x.natAbs y.natAbs _ _ _ (wT x hx) (wT y hy) rfl rfl (oW _ _ hx hy) (oW _ _ hy hx) ?_;unfold kE eZ;by_cases a:x<0<;>by_cases b:y<0;all_goals simp only[a,b,decide_true,decide_false,if_true,if_false,Bool.false_eq_true]
 all_goals (repeat' split)<;>omega
def dX(p q:Bool)(X Y W:Nat->Nat):List A:=[.sb p,.int .u64 (X 0:Nat),.int .u64 (X 1:Nat),.int .u64 (X 2:Nat),.int .u64 (X 3:Nat),.int .u64 (X 4:Nat),.int .u64 (X 5:Nat),.int .u64 (X 6:Nat),.int .u64 (X 7:Nat),.sb q,.int .u64 (Y 0:Nat),.int .u64 (Y 1:Nat),.int .u64 (Y 2:Nat),.int .u64 (Y 3:Nat),.int .u64 (Y 4:Nat),.int .u64 (Y 5:Nat),.int .u64 (Y 6:Nat),.int .u64 (Y 7:Nat),.int .u64 (W 0:Nat),.int .u64 (W 1:Nat),.int .u64 (W 2:Nat),.int .u64 (W 3:Nat),.int .u64 (W 4:Nat),.int .u64 (W 5:Nat),.int .u64 (W 6:Nat),.int .u64 (W 7:Nat)]
def kr(x y:Int)(w:Nat):A:=.agg (dX (decide (x<0)) (decide (y<0)) (wW x.natAbs) (wW y.natAbs) (wW w))
/-- A whole number over one that divides it. -/
def qz(x:Int)(g:Nat):Int:=if x<0 then -((x.natAbs/g:Nat):Int) else ((x.natAbs/g:Nat):Int)
theorem om(x:Int)(g:Nat):(qz x g).natAbs=x.natAbs/g:=by unfold qz;generalize x.natAbs/g=k;split<;>omega
theorem AF(x:Int)(g:Nat):(decide (x<0)&&decide (x.natAbs/g≠0))=decide (qz x g<0):=by
 unfold qz;generalize x.natAbs/g=k;rw[Bool.eq_iff_iff,Bool.and_eq_true,decide_eq_true_iff,decide_eq_true_iff,decide_eq_true_iff];split<;>omega
def gg(x y:Int)(w:Nat):Nat:=Nat.gcd (Nat.gcd x.natAbs y.natAbs) w
def xG(x y:Int)(w:Nat):A:=kr (qz x (gg x y w)) (qz y (gg x y w)) (w/gg x y w)
theorem SS{z a b:Nat}(h:z<2 ^ a)(BI:a+a<=b):z*z<2 ^ b:=Nat.lt_of_lt_of_le (Nat.mul_lt_mul'' h h) (by rw[<-Nat.pow_add];exact Nat.pow_le_pow_right (by omega) BI)
theorem AG{x y:Int}{w:Nat}(h:0<w):0<gg x y w:=Nat.gcd_pos_of_pos_right _ h
theorem M7{x y:Int}{w:Nat}(h:0<w):gg x y w<=w:=Nat.le_of_dvd h (Nat.gcd_dvd_right _ _)
theorem Db(x y:Int)(w:Nat)(hx:x.natAbs<2 ^ 127)(hy:y.natAbs<2 ^ 127)(h0:0<w)(hw:w<18446744073709551616):
  aa Tryz.prog G 110 [cB x,cB y,az w] (xG x y w):=by
 have hP:=UY;have M8:(2:Nat) ^ 127=170141183460469231731687303715884105728:=by decide
 have Kt:Nat.gcd x.natAbs y.natAbs<2 ^ 127:=by
  by_cases q:x.natAbs=0
  ·rw[q,Nat.gcd_zero_left];exact hy
  ·exact Nat.lt_of_le_of_lt (Nat.le_of_dvd (by omega) (Nat.gcd_dvd_left _ _)) hx
 have c1:=MX (G:=G) x.natAbs y.natAbs hx hy;have c2:=MX (G:=G) (Nat.gcd x.natAbs y.natAbs) w Kt (by omega);have xF:=AG (x:=x) (y:=y) h0;have Ws:=M7 (x:=x) (y:=y) h0;have nx:=AF x (gg x y w);have ny:=AF y (gg x y w);have ax:=om x (gg x y w);have ay:=om y (gg x y w);unfold xG kr;rw[<-nx,<-ny,ax,ay];have e2:Nat.gcd (Nat.gcd x.natAbs y.natAbs) w=gg x y w:=rfl;rw[e2] at c2;clear nx ny ax ay e2;generalize gg x y w=g at *;have d1:=AB (G:=G) x.natAbs g (by omega) xF (by omega);have d2:=AB (G:=G) y.natAbs g (by omega) xF (by omega);have d3:=AB (G:=G) w g (by omega) xF (by omega);have f1:=AD (G:=G) (decide (x<0)) (x.natAbs/g) (Nat.lt_of_le_of_lt (Nat.div_le_self _ _) (by omega));have f2:=AD (G:=G) (decide (y<0)) (y.natAbs/g) (Nat.lt_of_le_of_lt (Nat.div_le_self _ _) (by omega));clear hx hy h0 hw hP M8 Kt xF Ws;unfold cB cE az aF dX at *;generalize (decide (x<0)&&decide (x.natAbs/g≠0))=b1 at *;generalize (decide (y<0)&&decide (y.natAbs/g≠0))=b2 at *;generalize decide (x<0)=p at *;generalize decide (y<0)=q at *;generalize wW (x.natAbs/g)=XQ at *;generalize wW (y.natAbs/g)=YQ at *;generalize wW (w/g)=WQ at *;generalize wW (x.natAbs%g)=XR at *;generalize wW (y.natAbs%g)=YR at *;generalize wW (w%g)=WR at *;generalize wW (Nat.gcd x.natAbs y.natAbs)=G1 at *;generalize wW x.natAbs=X at *;generalize wW y.natAbs=Y at *;generalize wW w=Wd at *;generalize wW g=Gv at *;refine aa.af ak Tryz.func110 rfl rfl _ rfl ?_;(conv=>whnf);repeat' ((first|refine st ?_|(refine⟨fun h=>?_,fun h=>?_⟩<;>try simp only[ae] at h)|(refine .inl ?_;(conv=>whnf);(first|refine⟨_,c1,?_⟩|refine⟨_,c2,?_⟩|refine⟨_,d1,?_⟩|refine⟨_,d2,?_⟩|refine⟨_,d3,?_⟩|refine⟨_,f1,?_⟩|refine⟨_,f2,?_⟩))|refine wf ?_|refine ao ?_|refine nn ?_|fail)<;>conv=>whnf)
 all_goals first|contradiction|(exfalso;omega)|skip
theorem Jp(x y:Int)(w:Nat)(hx:x.natAbs<2 ^ 127)(hy:y.natAbs<2 ^ 127)(h0:0<w)(hw:w<18446744073709551616):
  aa Tryz.prog G 86 [cB x,cB y,az w] (xG x y w):=by
 have hP:=UY;have M8:(2:Nat) ^ 127=170141183460469231731687303715884105728:=by decide
 have Kt:Nat.gcd x.natAbs y.natAbs<2 ^ 127:=by
  by_cases q:x.natAbs=0
  ·rw[q,Nat.gcd_zero_left];exact hy
  ·exact Nat.lt_of_le_of_lt (Nat.le_of_dvd (by omega) (Nat.gcd_dvd_left _ _)) hx
 have Ev:=SS (b:=990) hy (by decide);have ll:=SS (b:=990) (show w<2 ^ 127 by omega) (by decide);have c1:=SP (G:=G) x.natAbs y.natAbs (by omega) (by omega) Ev;have c2:=SP (G:=G) (Nat.gcd x.natAbs y.natAbs) w (by omega) (by omega) ll;have xF:=AG (x:=x) (y:=y) h0;have Ws:=M7 (x:=x) (y:=y) h0;have nx:=AF x (gg x y w);have ny:=AF y (gg x y w);have ax:=om x (gg x y w);have ay:=om y (gg x y w);unfold xG kr;rw[<-nx,<-ny,ax,ay];have e2:Nat.gcd (Nat.gcd x.natAbs y.natAbs) w=gg x y w:=rfl;rw[e2] at c2;clear nx ny ax ay e2;generalize gg x y w=g at *;have d1:=uU (G:=G) x.natAbs g (by omega) (by omega) xF;have d2:=uU (G:=G) y.natAbs g (by omega) (by omega) xF;have d3:=uU (G:=G) w g (by omega) (by omega) xF;have f1:=yB (G:=G) (decide (x<0)) (x.natAbs/g) (Nat.lt_of_le_of_lt (Nat.div_le_self _ _) (by omega));have f2:=yB (G:=G) (decide (y<0)) (y.natAbs/g) (Nat.lt_of_le_of_lt (Nat.div_le_self _ _) (by omega));clear hx hy h0 hw hP M8 Kt xF Ws Ev ll;unfold cB cE az aF dX at *;generalize (decide (x<0)&&decide (x.natAbs/g≠0))=b1 at *;generalize (decide (y<0)&&decide (y.natAbs/g≠0))=b2 at *;generalize decide (x<0)=p at *;generalize decide (y<0)=q at *;generalize wW (x.natAbs/g)=XQ at *;generalize wW (y.natAbs/g)=YQ at *;generalize wW (w/g)=WQ at *;generalize wW (x.natAbs%g)=XR at *;generalize wW (y.natAbs%g)=YR at *;generalize wW (w%g)=WR at *;generalize wW (Nat.gcd x.natAbs y.natAbs)=G1 at *;generalize wW x.natAbs=X at *;generalize wW y.natAbs=Y at *;generalize wW w=Wd at *;generalize wW g=Gv at *;refine aa.af ak Tryz.func86 rfl rfl _ rfl ?_;(conv=>whnf);repeat' ((first|refine st ?_|(refine⟨fun h=>?_,fun h=>?_⟩<;>try simp only[ae] at h)|(refine .inl ?_;(conv=>whnf);(first|refine⟨_,c1,?_⟩|refine⟨_,c2,?_⟩|refine⟨_,d1,?_⟩|refine⟨_,d2,?_⟩|refine⟨_,d3,?_⟩|refine⟨_,f1,?_⟩|refine⟨_,f2,?_⟩))|refine wf ?_|refine ao ?_|refine nn ?_|fail)<;>conv=>whnf)
 all_goals first|contradiction|(exfalso;omega)|skip
theorem HB(a b n d:Int)(ha : -1073741824<=a/\a<=1073741824)(hb : -1073741824<=b/\b<=1073741824)(hn:0<=n/\n<=d)(hd:d<=9223372036854775807):
  aa Tryz.prog G 249 [.int .i64 a,.int .i64 b,.int .i64 n,.int .i64 d] (cB (a*d+(b-a)*n)):=by
 have o1:=HA (G:=G) a (by omega) (by omega);have o2:=HA (G:=G) d (by omega) (by omega);have o3:=HA (G:=G) (b-a) (by omega) (by omega);have o4:=HA (G:=G) n (by omega) (by omega);have m1:a.natAbs*d.natAbs<=1073741824*9223372036854775807:=Nat.mul_le_mul (by omega) (by omega);have m2:(b-a).natAbs*n.natAbs<=2147483648*9223372036854775807:=Nat.mul_le_mul (by omega) (by omega);have p1:=Fq (G:=G) a d (by rw[dp];omega) (by omega) (by rw[dp];omega);have p2:=Fq (G:=G) (b-a) n (by rw[dp];omega) (by omega) (by rw[dp];omega);have s1:=U0 (G:=G) (a*d) ((b-a)*n) (by rw[dp,Int.natAbs_mul,Int.natAbs_mul];omega);clear m1 m2;generalize a*d+(b-a)*n=r at *;generalize (b-a)*n=r2 at *;generalize a*d=r1 at *;unfold cB cE at *;generalize wW a.natAbs=V1 at *;generalize wW d.natAbs=V2 at *;generalize wW (b-a).natAbs=V3 at *;generalize wW n.natAbs=V4 at *;generalize wW r.natAbs=V5 at *;generalize wW r1.natAbs=V6 at *;generalize wW r2.natAbs=V7 at *;refine aa.af ak Tryz.func249 rfl rfl _ rfl ?_;(conv=>whnf);repeat' ((first|refine st ?_|(refine⟨fun h=>?_,fun h=>?_⟩<;>try simp only[ae] at h)|(refine .inl ?_;(conv=>whnf);(first|refine⟨_,o1,?_⟩|refine⟨_,o2,?_⟩|refine⟨_,o3,?_⟩|refine⟨_,o4,?_⟩|refine⟨_,p1,?_⟩|refine⟨_,p2,?_⟩|refine⟨_,s1,?_⟩))|refine wf ?_|refine ao ?_|refine nn ?_|fail)<;>conv=>whnf)
 all_goals first|contradiction|(exfalso;omega)|skip
theorem HC(x y:Int):cE ((decide (x<0) != decide (y<0))&&decide (x.natAbs*y.natAbs≠0)) (x.natAbs*y.natAbs)=cB (x*y):=qb (Int.natAbs_mul x y).symm (by
  rw[Bool.eq_iff_iff,Bool.and_eq_true,decide_eq_true_iff,decide_eq_true_iff,<-Int.natAbs_mul];have hm:(x*y).natAbs≠0↔x≠0/\y≠0:=by rw[Ne,Int.natAbs_eq_zero,Int.mul_eq_zero];omega
  rw[hm];rcases Int.lt_or_le x 0 with a|a<;>rcases Int.lt_or_le y 0 with b|b
  ·have:=Int.mul_nonneg_of_nonpos_of_nonpos (Int.le_of_lt a) (Int.le_of_lt b);rw[decide_eq_true a,decide_eq_true b];simp;omega
  ·rw[decide_eq_true a,decide_eq_false (by omega)];constructor
   ·rintro⟨_,q1,q2⟩;exact Int.mul_neg_of_neg_of_pos a (by omega)
   ·intro q;refine⟨rfl,by omega,fun q2=>?_⟩;rw[q2,Int.mul_zero] at q;omega
  ·rw[decide_eq_false (by omega),decide_eq_true b];constructor
   ·rintro⟨_,q1,q2⟩;exact Int.mul_neg_of_pos_of_neg (by omega) b
   ·intro q;refine⟨rfl,fun q2=>?_,by omega⟩;rw[q2,Int.zero_mul] at q;omega
  ·have:=Int.mul_nonneg a b;rw[decide_eq_false (by omega),decide_eq_false (by omega)];simp;omega)
theorem HD(x y:Int):cE (AA (decide (x<0)) (decide (y<0)) x.natAbs y.natAbs&&decide (od (decide (x<0)) (decide (y<0)) x.natAbs y.natAbs≠0)) (od (decide (x<0)) (decide (y<0)) x.natAbs y.natAbs)=cB (x+y):=by
 refine qb ?_ ?_
 ·unfold od;by_cases a:x<0<;>by_cases b:y<0<;>simp only[a,b,decide_true,decide_false,if_true,if_false,Bool.false_eq_true,Bool.true_eq_false]<;>(try split)<;>omega
 ·rw[Bool.eq_iff_iff,Bool.and_eq_true,decide_eq_true_iff,decide_eq_true_iff];unfold od AA;by_cases a:x<0<;>by_cases b:y<0<;>simp only[a,b,decide_true,decide_false,if_true,if_false,Bool.false_eq_true,Bool.true_eq_false]<;>(try split)<;>simp only[Bool.false_eq_true,false_and,true_and,false_iff,iff_true,true_iff]<;>omega
theorem SU(a b n d:Int)(ha : -1073741824<=a/\a<=1073741824)(hb : -1073741824<=b/\b<=1073741824)(hn:0<=n/\n<=d)(hd:d<=9223372036854775807):
  aa Tryz.prog G 274 [.int .i64 a,.int .i64 b,.int .i64 n,.int .i64 d] (cB (a*d+(b-a)*n)):=by
 have er:a*(d-n)+b*n=a*d+(b-a)*n:=by rw[Int.mul_sub,Int.sub_mul];omega
 have o1:=CV (G:=G) a (by omega) (by omega);have o2:=CV (G:=G) (d-n) (by omega) (by omega);have o3:=CV (G:=G) b (by omega) (by omega);have o4:=CV (G:=G) n (by omega) (by omega);have m1:a.natAbs*(d-n).natAbs<=1073741824*9223372036854775807:=Nat.mul_le_mul (by omega) (by omega);have m2:b.natAbs*n.natAbs<=1073741824*9223372036854775807:=Nat.mul_le_mul (by omega) (by omega);have p1:=Az (G:=G) (decide (a<0)) (decide (d-n<0)) a.natAbs (d-n).natAbs (by rw[dp];omega) (by rw[dp];omega) (by rw[dp];omega);have p2:=Az (G:=G) (decide (b<0)) (decide (n<0)) b.natAbs n.natAbs (by rw[dp];omega) (by rw[dp];omega) (by rw[dp];omega);rw[HC] at p1 p2;have s1:=MH (G:=G) (decide (a*(d-n)<0)) (decide (b*n<0)) (a*(d-n)).natAbs (b*n).natAbs (by rw[dp,Int.natAbs_mul];omega) (by rw[dp,Int.natAbs_mul];omega) (by rw[dp,Int.natAbs_mul,Int.natAbs_mul];omega);rw[HD,er] at s1;clear m1 m2;generalize a*d+(b-a)*n=r at *;generalize b*n=r2 at *;generalize a*(d-n)=r1 at *;unfold cB cE at *;generalize wW a.natAbs=V1 at *;generalize wW (d-n).natAbs=V2 at *;generalize wW b.natAbs=V3 at *;generalize wW n.natAbs=V4 at *;generalize wW r.natAbs=V5 at *;generalize wW r1.natAbs=V6 at *;generalize wW r2.natAbs=V7 at *;refine aa.af ak Tryz.func274 rfl rfl _ rfl ?_;(conv=>whnf);repeat' ((first|refine st ?_|(refine⟨fun h=>?_,fun h=>?_⟩<;>try simp only[ae] at h)|(refine .inl ?_;(conv=>whnf);(first|refine⟨_,o1,?_⟩|refine⟨_,o2,?_⟩|refine⟨_,o3,?_⟩|refine⟨_,o4,?_⟩|refine⟨_,p1,?_⟩|refine⟨_,p2,?_⟩|refine⟨_,s1,?_⟩))|refine wf ?_|refine ao ?_|refine nn ?_|fail)<;>conv=>whnf)
 all_goals first|contradiction|(exfalso;omega)|skip
def xS(s:Sg)(n d:Int):Int:=s.a.x*d+(s.b.x-s.a.x)*n
def yS(s:Sg)(n d:Int):Int:=s.a.y*d+(s.b.y-s.a.y)*n
def OfP(s:Sg)(n d:Int):Prop:=bQ s/\1<=d/\0<=n/\n<=d
instance (s:Sg) (n d:Int):Decidable (OfP s n d):=inferInstanceAs (Decidable (_/\_))
theorem uW{a b n d:Int}(ha:jD a)(hb:jD b)(hn:0<=n/\n<=d)(hd:d<=9223372036854775807):(a*d+(b-a)*n).natAbs<2 ^ 127:=by
 unfold jD at ha hb;have m1:a.natAbs*d.natAbs<=536870912*9223372036854775807:=Nat.mul_le_mul (by omega) (by omega);have m2:(b-a).natAbs*n.natAbs<=1073741824*9223372036854775807:=Nat.mul_le_mul (by omega) (by omega);rw[<-Int.natAbs_mul] at m1 m2;have M8:(2:Nat) ^ 127=170141183460469231731687303715884105728:=by decide
 rw[M8];omega
theorem Dc(x y:Int)(w:Nat):∃p q X Y W,xG x y w=.agg (dX p q X Y W):=⟨_,_,_,_,_,rfl⟩
theorem U1(s:Sg)(n d:Int)(h:OfP s n d)(hd:d<=9223372036854775807):aa Tryz.prog G 189 [.agg (gZ s),.int .i64 n,.int .i64 d] (.tup [xG (xS s n d) (yS s n d) d.toNat,.int .i64 0]):=by
 obtain⟨hL,h1,h2,h3⟩:=h;have hl:=iZ (G:=G) s;rw[decide_eq_true hL] at hl;obtain⟨⟨ax,ay⟩,⟨bx,E2⟩,_⟩:=hL;have c1:=HB (G:=G) s.a.x s.b.x n d (by unfold jD at ax;omega) (by unfold jD at bx;omega) ⟨h2,h3⟩ hd;have c2:=HB (G:=G) s.a.y s.b.y n d (by unfold jD at ay;omega) (by unfold jD at E2;omega) ⟨h2,h3⟩ hd;have b1:=uW ax bx ⟨h2,h3⟩ hd;have b2:=uW ay E2 ⟨h2,h3⟩ hd
 obtain⟨D,rfl⟩:∃D:Nat,d=D:=⟨d.toNat,by omega⟩;have c3:=rl (G:=G) D;have c4:=Db (G:=G) (xS s n D) (yS s n D) D b1 b2 (by omega) (by omega);have hw:=mf (b:=D) (by omega);rw[<-hw] at c3;have ex:s.a.x*(D:Int)+(s.b.x-s.a.x)*n=xS s n D:=rfl;have ey:s.a.y*(D:Int)+(s.b.y-s.a.y)*n=yS s n D:=rfl;rw[ex] at c1;rw[ey] at c2;have et:((D:Nat):Int).toNat=D:=Int.toNat_natCast D;rw[et];clear hw b1 b2 ex ey ax ay bx E2 et
 obtain⟨p,q,X,Y,W,YG⟩:=Dc (xS s n D) (yS s n D) D;rw[YG] at c4 ⊢;clear YG;unfold cB cE dX at *;unfold az aF at *;generalize decide (xS s n D<0)=p1 at *;generalize decide (yS s n D<0)=q1 at *;generalize wW (xS s n D).natAbs=V1 at *;generalize wW (yS s n D).natAbs=V2 at *;generalize wW D=V3 at *;refine aa.af ak Tryz.func189 rfl rfl _ rfl ?_;(conv=>whnf);repeat' ((first|(exact absurd (show(D:Int)<1 by assumption) (by omega))|(exact absurd (show n<0 by assumption) (by omega))|(exact absurd h3 (by assumption))|refine st ?_|(refine⟨fun h=>?_,fun h=>?_⟩<;>try simp only[ae] at h)|(refine .inl ?_;(conv=>whnf);(first|refine⟨_,hl,?_⟩|refine⟨_,c1,?_⟩|refine⟨_,c2,?_⟩|refine⟨_,c3,?_⟩|refine⟨_,c4,?_⟩))|refine wf ?_|refine ao ?_|refine nn ?_|fail)<;>conv=>whnf)
 all_goals first|contradiction|(exfalso;omega)|skip
theorem U2(s:Sg)(n d:Int)(h:OfP s n d)(hd:d<=9223372036854775807):aa Tryz.prog G 218 [.agg (gZ s),.int .i64 n,.int .i64 d] (xG (xS s n d) (yS s n d) d.toNat):=by
 obtain⟨hL,h1,h2,h3⟩:=h;obtain⟨⟨ax,ay⟩,⟨bx,E2⟩,_⟩:=hL;have c1:=SU (G:=G) s.a.x s.b.x n d (by unfold jD at ax;omega) (by unfold jD at bx;omega) ⟨h2,h3⟩ hd;have c2:=SU (G:=G) s.a.y s.b.y n d (by unfold jD at ay;omega) (by unfold jD at E2;omega) ⟨h2,h3⟩ hd;have b1:=uW ax bx ⟨h2,h3⟩ hd;have b2:=uW ay E2 ⟨h2,h3⟩ hd
 obtain⟨D,rfl⟩:∃D:Nat,d=D:=⟨d.toNat,by omega⟩;have c3:=CV (G:=G) (D:Int) (by omega) hd;have c4:=Jp (G:=G) (xS s n D) (yS s n D) D b1 b2 (by omega) (by omega);have ex:s.a.x*(D:Int)+(s.b.x-s.a.x)*n=xS s n D:=rfl;have ey:s.a.y*(D:Int)+(s.b.y-s.a.y)*n=yS s n D:=rfl;rw[ex] at c1;rw[ey] at c2;have et:((D:Nat):Int).toNat=D:=Int.toNat_natCast D;have en:((D:Nat):Int).natAbs=D:=Int.natAbs_natCast D;unfold cB cE at c3;rw[en] at c3;rw[et];clear b1 b2 ex ey ax ay bx E2 et en
 obtain⟨p,q,X,Y,W,YG⟩:=Dc (xS s n D) (yS s n D) D;rw[YG] at c4 ⊢;clear YG;unfold cB cE dX at *;unfold az aF at *;generalize decide (xS s n D<0)=p1 at *;generalize decide (yS s n D<0)=q1 at *;generalize decide ((D:Int)<0)=r1 at *;generalize wW (xS s n D).natAbs=V1 at *;generalize wW (yS s n D).natAbs=V2 at *;generalize wW D=V3 at *;refine aa.af ak Tryz.func218 rfl rfl _ rfl ?_;(conv=>whnf);repeat' ((first|refine st ?_|(refine⟨fun h=>?_,fun h=>?_⟩<;>try simp only[ae] at h)|(refine .inl ?_;(conv=>whnf);(first|refine⟨_,c1,?_⟩|refine⟨_,c2,?_⟩|refine⟨_,c3,?_⟩|refine⟨_,c4,?_⟩))|refine wf ?_|refine ao ?_|refine nn ?_|fail)<;>conv=>whnf)
 all_goals first|contradiction|(exfalso;omega)|skip
theorem U3(y L:Nat)(h0:0<y)(hy:y<18446744073709551616)(hL:1<=L)(h1:2 ^ (L-1)<=y)(h2:y<2 ^ L):aa Tryz.prog G 161 [.int .u64 y] (.int .i64 L):=by
 have c:=Hl (G:=G) y L h0 hy hL h1 h2;refine aa.af ak Tryz.func161 rfl rfl _ rfl ?_;(conv=>whnf);repeat' ((first|refine st ?_|(refine⟨fun h=>?_,fun h=>?_⟩<;>try simp only[ae] at h)|(refine .inl ?_;(conv=>whnf);refine⟨_,c,?_⟩)|refine wf ?_|refine ao ?_|refine nn ?_|fail)<;>conv=>whnf)
 all_goals first|contradiction|(exfalso;omega)|skip
theorem YH(A:Nat->Nat)(L:Nat)(hL:L<=64)(hz:∀k,0<k->k<8->A k=0)(hj:A 0≠0)(hl:aa Tryz.prog G 161 [.int .u64 (A 0:Int)] (.int .i64 (L:Int))):
  aa Tryz.prog G 108 [aF A] (.int .i64 ((64*0+L:Nat):Int)):=by
 unfold aF;refine aa.af ak Tryz.func108 rfl rfl _ rfl ?_;(conv=>whnf)
 repeat (first|(refine st ?_;conv=>whnf))
 refine ah (fun t:Nat=>t<=7) (fun t=>[(3,.int .i64 (7-(t:Int)))]) (fun t=>[l9 A]) (fun t=>8-t) 0 (by omega) ?_ ?_
 ·conv=>whnf
  repeat (first|exact fa|((first|refine fb ?_|(refine And.intro ?_ ?_;rotate_left));conv=>whnf))
 ·intro i hi;have e:i=0\/i=1\/i=2\/i=3\/i=4\/i=5\/i=6\/i=7:=by omega
  have z1:=hz 1 (by omega) (by omega);have z2:=hz 2 (by omega) (by omega);have z3:=hz 3 (by omega) (by omega);have z4:=hz 4 (by omega) (by omega);have z5:=hz 5 (by omega) (by omega);have z6:=hz 6 (by omega) (by omega);have z7:=hz 7 (by omega) (by omega);rcases e with rfl|rfl|rfl|rfl|rfl|rfl|rfl|rfl
  all_goals
   (conv=>whnf);repeat' ((first|(exact absurd (Int.ofNat_eq_zero.1 (by assumption)) hj)|(exact absurd (congrArg Nat.cast (hz _ (by omega) (by omega))) (by assumption))|refine st ?_|(refine⟨fun h=>?_,fun h=>?_⟩<;>try simp only[ae] at h)|(refine .inl ?_;(conv=>whnf);refine⟨_,hl,?_⟩)|refine wf ?_|refine ao ?_|refine nn ?_|fail)<;>conv=>whnf)
  all_goals first|contradiction|(exfalso;omega)|skip
  all_goals first|refine⟨1,by decide,by decide,?_⟩|refine⟨2,by decide,by decide,?_⟩|refine⟨3,by decide,by decide,?_⟩|refine⟨4,by decide,by decide,?_⟩|refine⟨5,by decide,by decide,?_⟩|refine⟨6,by decide,by decide,?_⟩|refine⟨7,by decide,by decide,?_⟩|skip
  all_goals first|omega|skip
  all_goals
   exact ff
theorem YI(A:Nat->Nat)(L:Nat)(hL:L<=64)(hz:∀k,1<k->k<8->A k=0)(hj:A 1≠0)(hl:aa Tryz.prog G 161 [.int .u64 (A 1:Int)] (.int .i64 (L:Int))):
  aa Tryz.prog G 108 [aF A] (.int .i64 ((64*1+L:Nat):Int)):=by
 unfold aF;refine aa.af ak Tryz.func108 rfl rfl _ rfl ?_;(conv=>whnf)
 repeat (first|(refine st ?_;conv=>whnf))
 refine ah (fun t:Nat=>t<=6) (fun t=>[(3,.int .i64 (7-(t:Int)))]) (fun t=>[l9 A]) (fun t=>8-t) 0 (by omega) ?_ ?_
 ·conv=>whnf
  repeat (first|exact fa|((first|refine fb ?_|(refine And.intro ?_ ?_;rotate_left));conv=>whnf))
 ·intro i hi;have e:i=0\/i=1\/i=2\/i=3\/i=4\/i=5\/i=6:=by omega
  have z2:=hz 2 (by omega) (by omega);have z3:=hz 3 (by omega) (by omega);have z4:=hz 4 (by omega) (by omega);have z5:=hz 5 (by omega) (by omega);have z6:=hz 6 (by omega) (by omega);have z7:=hz 7 (by omega) (by omega);rcases e with rfl|rfl|rfl|rfl|rfl|rfl|rfl
  all_goals
   (conv=>whnf);repeat' ((first|(exact absurd (Int.ofNat_eq_zero.1 (by assumption)) hj)|(exact absurd (congrArg Nat.cast (hz _ (by omega) (by omega))) (by assumption))|refine st ?_|(refine⟨fun h=>?_,fun h=>?_⟩<;>try simp only[ae] at h)|(refine .inl ?_;(conv=>whnf);refine⟨_,hl,?_⟩)|refine wf ?_|refine ao ?_|refine nn ?_|fail)<;>conv=>whnf)
  all_goals first|contradiction|(exfalso;omega)|skip
  all_goals first|refine⟨1,by decide,by decide,?_⟩|refine⟨2,by decide,by decide,?_⟩|refine⟨3,by decide,by decide,?_⟩|refine⟨4,by decide,by decide,?_⟩|refine⟨5,by decide,by decide,?_⟩|refine⟨6,by decide,by decide,?_⟩|skip
  all_goals first|omega|skip
  all_goals
   exact ff
theorem M9(A:Nat->Nat)(hz:∀k,k<8->A k=0):aa Tryz.prog G 108 [aF A] (.int .i64 0):=by
 unfold aF;refine aa.af ak Tryz.func108 rfl rfl _ rfl ?_;(conv=>whnf)
 repeat (first|(refine st ?_;conv=>whnf))
 refine ah (fun t:Nat=>t<=8) (fun t=>[(3,.int .i64 (7-(t:Int)))]) (fun t=>[l9 A]) (fun t=>8-t) 0 (by omega) ?_ ?_
 ·conv=>whnf
  repeat (first|exact fa|((first|refine fb ?_|(refine And.intro ?_ ?_;rotate_left));conv=>whnf))
 ·intro i hi;have e:i=0\/i=1\/i=2\/i=3\/i=4\/i=5\/i=6\/i=7\/i=8:=by omega
  have z0:=hz 0 (by omega);have z1:=hz 1 (by omega);have z2:=hz 2 (by omega);have z3:=hz 3 (by omega);have z4:=hz 4 (by omega);have z5:=hz 5 (by omega);have z6:=hz 6 (by omega);have z7:=hz 7 (by omega);rcases e with rfl|rfl|rfl|rfl|rfl|rfl|rfl|rfl|rfl
  all_goals
   (conv=>whnf);repeat' ((first|(exact absurd (congrArg Nat.cast (hz _ (by omega))) (by assumption))|refine st ?_|(refine⟨fun h=>?_,fun h=>?_⟩<;>try simp only[ae] at h)|refine wf ?_|refine ao ?_|refine nn ?_|fail)<;>conv=>whnf)
  all_goals first|contradiction|(exfalso;omega)|skip
  all_goals first|refine⟨1,by decide,by decide,?_⟩|refine⟨2,by decide,by decide,?_⟩|refine⟨3,by decide,by decide,?_⟩|refine⟨4,by decide,by decide,?_⟩|refine⟨5,by decide,by decide,?_⟩|refine⟨6,by decide,by decide,?_⟩|refine⟨7,by decide,by decide,?_⟩|refine⟨8,by decide,by decide,?_⟩
  all_goals
   conv=>whnf
   repeat (first|exact fa|((first|refine fb ?_|(refine And.intro ?_ ?_;rotate_left));conv=>whnf))
theorem jO{v:Nat}(h:v<2 ^ 128){k:Nat}(hk:2<=k):wW v k=0:=by
 unfold wW
 have hp:(2:Nat) ^ 128<=18446744073709551616 ^ k:=by
  rw[show(18446744073709551616:Nat)=2 ^ 64 from rfl,<-Nat.pow_mul];exact Nat.pow_le_pow_right (by omega) (by omega)
 rw[Nat.div_eq_of_lt (Nat.lt_of_lt_of_le h hp)]
/-- A number below 2^120 has 120 bits at most. -/
theorem Fs(v:Nat)(hv:v<2 ^ 120):∃L:Nat,L<=120/\aa Tryz.prog G 108 [az v] (.int .i64 (L:Int)):=by
 have Q2:v<2 ^ 128:=Nat.lt_trans hv (by decide);have h512:v<65536 ^ 32:=Nat.lt_trans hv (by decide);have hx:=cP (bS v);rw[dh h512,jO Q2 (k:=2) (by omega),jO Q2 (k:=3) (by omega),jO Q2 (k:=4) (by omega),jO Q2 (k:=5) (by omega),jO Q2 (k:=6) (by omega),jO Q2 (k:=7) (by omega)] at hx;have w0:=bS v 0;have w1:=bS v 1
 have lg:∀y:Nat,y≠0->y<18446744073709551616->∃L:Nat,1<=L/\L<=64/\2 ^ (L-1)<=y/\aa Tryz.prog G 161 [.int .u64 y] (.int .i64 L):=fun y h0 hy=>by
  have a:=Nat.log2_self_le h0;have b:=Nat.lt_log2_self (n:=y);refine⟨y.log2+1,by omega,?_,by rw[Nat.add_sub_cancel];exact a,U3 y _ (by omega) hy (by omega) (by rw[Nat.add_sub_cancel];exact a) b⟩;have:2 ^ y.log2<2 ^ 64:=Nat.lt_of_le_of_lt a hy;have:=(Nat.pow_lt_pow_iff_right (a:=2) (by omega)).1 this;omega
 by_cases h1:wW v 1=0
 ·by_cases h0:wW v 0=0
  ·refine⟨0,by omega,M9 (wW v) fun k hk=>?_⟩;by_cases q:2<=k
   ·exact jO Q2 q
   ·have:k=0\/k=1:=by omega
    rcases this with rfl|rfl
    ·exact h0
    ·exact h1
  ·obtain⟨L,l1,l2,l3,l4⟩:=lg _ h0 w0;refine⟨64*0+L,by omega,YH (wW v) L l2 (fun k Bm hk=>?_) h0 l4⟩;by_cases q:2<=k
   ·exact jO Q2 q
   ·obtain rfl:k=1:=by omega
    exact h1
 ·obtain⟨L,l1,l2,l3,l4⟩:=lg _ h1 w1;refine⟨64*1+L,?_,YI (wW v) L l2 (fun k Bm hk=>jO Q2 (by omega)) h1 l4⟩
  have hle:18446744073709551616*2 ^ (L-1)<=v:=by
   have:=Nat.mul_le_mul_left 18446744073709551616 l3;omega
  have h2:2 ^ (64+(L-1))<2 ^ 120:=by
   rw[Nat.pow_add];exact Nat.lt_of_le_of_lt hle hv
  have:=(Nat.pow_lt_pow_iff_right (a:=2) (by omega)).1 h2;omega
/-- In lowest terms, and not too great. -/
def rn(a b:Int)(c:Nat):Prop:=gg a b c=1/\a.natAbs<2 ^ 119/\b.natAbs<2 ^ 119/\0<c/\c<18446744073709551616
theorem M'(x:Int):qz x 1=x:=by unfold qz;rw[Nat.div_one];split<;>omega
theorem Na{a b:Int}{c:Nat}(h:rn a b c):xG a b c=kr a b c:=by
 unfold xG;rw[h.1,M',M',Nat.div_one]
theorem Dd{x y:Int}{w:Nat}(hx:x.natAbs<2 ^ 119)(hy:y.natAbs<2 ^ 119)(h0:0<w)(hw:w<18446744073709551616):rn (qz x (gg x y w)) (qz y (gg x y w)) (w/gg x y w):=by
 have xF:=AG (x:=x) (y:=y) h0;have Ws:=M7 (x:=x) (y:=y) h0;have d1:gg x y w ∣ x.natAbs:=Nat.dvd_trans (Nat.gcd_dvd_left _ _) (Nat.gcd_dvd_left _ _);have d2:gg x y w ∣ y.natAbs:=Nat.dvd_trans (Nat.gcd_dvd_left _ _) (Nat.gcd_dvd_right _ _);have d3:gg x y w ∣ w:=Nat.gcd_dvd_right _ _;refine⟨?_,?_,?_,Nat.div_pos Ws xF,Nat.lt_of_le_of_lt (Nat.div_le_self _ _) hw⟩
 ·have e:gg x y w=Nat.gcd (Nat.gcd x.natAbs y.natAbs) w:=rfl;unfold gg at *;rw[om,om,Nat.gcd_div d1 d2,Nat.gcd_div (Nat.gcd_dvd_left _ _) d3];exact Nat.div_self xF
 ·rw[om];exact Nat.lt_of_le_of_lt (Nat.div_le_self _ _) hx
 ·rw[om];exact Nat.lt_of_le_of_lt (Nat.div_le_self _ _) hy
theorem Ft(a b:Int)(c:Nat)(h:rn a b c):aa Tryz.prog G 72 [kr a b c] (.sb true):=by
 have U4:(2:Nat) ^ 119<2 ^ 127:=by decide
 have U5:(2:Nat) ^ 119<2 ^ 120:=by decide
 have Yv:(18446744073709551616:Nat)<2 ^ 120:=by decide
 have ud:=Db (G:=G) a b c (Nat.lt_trans h.2.1 U4) (Nat.lt_trans h.2.2.1 U4) h.2.2.2.1 h.2.2.2.2;rw[Na h] at ud;obtain⟨hn,ha,hb,D0,hc⟩:=h;obtain⟨L1,l1,k1⟩:=Fs (G:=G) a.natAbs (Nat.lt_trans ha U5);obtain⟨L2,l2,k2⟩:=Fs (G:=G) b.natAbs (Nat.lt_trans hb U5);obtain⟨L3,l3,k3⟩:=Fs (G:=G) c (Nat.lt_trans hc Yv);have hz:=kq (G:=G) c (by rw[dp];omega);rw[decide_eq_false (by omega)] at hz;clear ha hb hn U4 U5 Yv hc D0;unfold kr cB cE dX at *;unfold az aF at *;generalize decide (a<0)=p at *;generalize decide (b<0)=q at *;generalize wW a.natAbs=X at *;generalize wW b.natAbs=Y at *;generalize wW c=W at *;refine aa.af ak Tryz.func72 rfl rfl _ rfl ?_;(conv=>whnf);repeat' ((first|refine st ?_|(refine⟨fun h=>?_,fun h=>?_⟩<;>try simp only[ae] at h)|refine wf ?_|refine ao ?_|refine nn ?_|fail)<;>conv=>whnf)
 all_goals first|contradiction|(exfalso;omega)|skip
 refine ah (fun i:Nat=>i<=3) (fun i=>[(15,.int .i64 (i:Int))]) (fun i=>[.box 57 (dX p q X Y W),.row 53 8 3 (fun i=>il 8 (List.drop (i*8) [.int .u64 (X 0:Nat),.int .u64 (X 1:Nat),.int .u64 (X 2:Nat),.int .u64 (X 3:Nat),.int .u64 (X 4:Nat),.int .u64 (X 5:Nat),.int .u64 (X 6:Nat),.int .u64 (X 7:Nat),.int .u64 (Y 0:Nat),.int .u64 (Y 1:Nat),.int .u64 (Y 2:Nat),.int .u64 (Y 3:Nat),.int .u64 (Y 4:Nat),.int .u64 (Y 5:Nat),.int .u64 (Y 6:Nat),.int .u64 (Y 7:Nat),.int .u64 (W 0:Nat),.int .u64 (W 1:Nat),.int .u64 (W 2:Nat),.int .u64 (W 3:Nat),.int .u64 (W 4:Nat),.int .u64 (W 5:Nat),.int .u64 (W 6:Nat),.int .u64 (W 7:Nat)]))]) (fun i=>3-i) 0 (by omega) ?_ ?_
 ·conv=>whnf
  repeat (first|exact fa|((first|refine fb ?_|(refine And.intro ?_ ?_;rotate_left));conv=>whnf))
 ·intro i hi;have e:i=0\/i=1\/i=2\/i=3:=by omega
  rcases e with rfl|rfl|rfl|rfl
  ·(conv=>whnf);repeat' ((first|refine st ?_|(refine⟨fun h=>?_,fun h=>?_⟩<;>try simp only[ae] at h)|(refine .inl ?_;(conv=>whnf);refine⟨_,k1,?_⟩)|refine wf ?_|refine ao ?_|refine nn ?_|fail)<;>conv=>whnf)
   all_goals first|contradiction|(exfalso;omega)|skip
   refine⟨1,(by show 1<=3;omega),(by show 3-1<3-0;omega),?_⟩;(conv=>whnf)
   repeat (first|exact fa|((first|refine fb ?_|(refine And.intro ?_ ?_;rotate_left));conv=>whnf))
  ·(conv=>whnf);repeat' ((first|refine st ?_|(refine⟨fun h=>?_,fun h=>?_⟩<;>try simp only[ae] at h)|(refine .inl ?_;(conv=>whnf);refine⟨_,k2,?_⟩)|refine wf ?_|refine ao ?_|refine nn ?_|fail)<;>conv=>whnf)
   all_goals first|contradiction|(exfalso;omega)|skip
   refine⟨2,(by show 2<=3;omega),(by show 3-2<3-1;omega),?_⟩;(conv=>whnf)
   repeat (first|exact fa|((first|refine fb ?_|(refine And.intro ?_ ?_;rotate_left));conv=>whnf))
  ·(conv=>whnf);repeat' ((first|refine st ?_|(refine⟨fun h=>?_,fun h=>?_⟩<;>try simp only[ae] at h)|(refine .inl ?_;(conv=>whnf);refine⟨_,k3,?_⟩)|refine wf ?_|refine ao ?_|refine nn ?_|fail)<;>conv=>whnf)
   all_goals first|contradiction|(exfalso;omega)|skip
   refine⟨3,(by show 3<=3;omega),(by show 3-3<3-2;omega),?_⟩;(conv=>whnf)
   repeat (first|exact fa|((first|refine fb ?_|(refine And.intro ?_ ?_;rotate_left));conv=>whnf))
  ·(conv=>whnf);repeat' ((first|refine st ?_|(refine⟨fun h=>?_,fun h=>?_⟩<;>try simp only[ae] at h)|(refine .inl ?_;(conv=>whnf);(first|refine⟨_,hz,?_⟩|refine⟨_,ud,?_⟩))|refine wf ?_|refine ao ?_|refine nn ?_|fail)<;>conv=>whnf)
   all_goals first|contradiction|(exfalso;omega)|(simp;done)|skip
theorem Nb(w:Nat):cB (w:Int)=cE false w:=by
 unfold cB;rw[decide_eq_false (by omega),Int.natAbs_natCast]
theorem uX(a:Int)(w:Nat)(ha:a.natAbs<2 ^ 119)(hw:w<18446744073709551616):aa Tryz.prog G 203 [cB a,az w] (cB (a*w)):=by
 have Fu:(2:Nat) ^ 119=664613997892457936451903530140172288:=by decide
 rw[Fu] at ha;have m:a.natAbs*w<=664613997892457936451903530140172288*18446744073709551616:=Nat.mul_le_mul (by omega) (by omega);have c:=Fq (G:=G) a (w:Int) (by rw[dp];omega) (by rw[Int.natAbs_natCast];exact hw) (by rw[Int.natAbs_natCast,dp];omega);rw[Nb w] at c;clear m Fu ha hw;unfold cB cE at *;unfold az aF;generalize a*(w:Int)=r at *;generalize wW a.natAbs=X at *;generalize wW w=W at *;generalize wW r.natAbs=Z at *;generalize decide (a<0)=p at *;generalize decide (r<0)=q at *
 have c:=c.fit (qO:=[.agg [.sb p,.int .u64 (X 0:Nat),.int .u64 (X 1:Nat),.int .u64 (X 2:Nat),.int .u64 (X 3:Nat),.int .u64 (X 4:Nat),.int .u64 (X 5:Nat),.int .u64 (X 6:Nat),.int .u64 (X 7:Nat)],.agg [.bool false,.int .u64 (W 0:Nat),.int .u64 (W 1:Nat),.int .u64 (W 2:Nat),.int .u64 (W 3:Nat),.int .u64 (W 4:Nat),.int .u64 (W 5:Nat),.int .u64 (W 6:Nat),.int .u64 (W 7:Nat)]]) (by
  conv=>whnf
  repeat (first|exact fa|((first|refine fb ?_|(refine And.intro ?_ ?_;rotate_left));conv=>whnf)))
 refine aa.af ak Tryz.func203 rfl rfl _ rfl ?_;(conv=>whnf);repeat' ((first|refine st ?_|(refine⟨fun h=>?_,fun h=>?_⟩<;>try simp only[ae] at h)|(refine .inl ?_;(conv=>whnf);refine⟨_,c,?_⟩)|refine wf ?_|refine ao ?_|refine nn ?_|fail)<;>conv=>whnf)
 all_goals first|contradiction|(exfalso;omega)|skip
def De(a b:Int)(c:Nat)(a' b':Int)(c':Nat):Int:=cO [kE (a*c') (a'*c),kE (b*c') (b'*c)]
theorem yC(a b:Int)(c:Nat)(a' b':Int)(c':Nat)(h:rn a b c)(h':rn a' b' c'):aa Tryz.prog G 146 [kr a b c,kr a' b' c'] (.int .i64 (De a b c a' b' c')):=by
 obtain⟨_,ha,hb,D0,hc⟩:=h;obtain⟨_,WD,fN,hc0',YJ⟩:=h';have t1:=uX (G:=G) a c' ha YJ;have t2:=uX (G:=G) a' c WD hc;have t3:=uX (G:=G) b c' hb YJ;have t4:=uX (G:=G) b' c fN hc;have Fu:(2:Nat) ^ 119=664613997892457936451903530140172288:=by decide
 rw[Fu] at ha hb WD fN
 have bd:∀(x:Int) (w:Nat),x.natAbs<664613997892457936451903530140172288->w<18446744073709551616->(x*w).natAbs<65536 ^ 32:=fun x w h1 h2=>by
  rw[Int.natAbs_mul,Int.natAbs_natCast,dp];have m:x.natAbs*w<=664613997892457936451903530140172288*18446744073709551616:=Nat.mul_le_mul (by omega) (by omega);omega
 have k1:=M0 (G:=G) (a*c') (a'*c) (bd _ _ ha YJ) (bd _ _ WD hc);have k2:=M0 (G:=G) (b*c') (b'*c) (bd _ _ hb YJ) (bd _ _ fN hc);have ko:=LA (G:=G) [kE (a*c') (a'*c),kE (b*c') (b'*c)] (by simp);unfold De;generalize kE (a*c') (a'*c)=z1 at *;generalize kE (b*c') (b'*c)=z2 at *;generalize cO [z1,z2]=z at *
 have ko:=ko.fit (qO:=[.sl 2 1 (fun i=>il 1 (List.drop (i*1) [.int .i64 z1,.int .i64 z2]))]) (by
  conv=>whnf
  repeat (first|exact fa|((first|refine fb ?_|(refine And.intro ?_ ?_;rotate_left));conv=>whnf))
  all_goals (refine Or.inl fun i hi=>?_;rcases i with _|_|_|_|i<;>first|rfl|omega))
 clear bd Fu ha hb WD fN hc YJ D0 hc0';unfold kr cB cE dX at *;unfold az aF at *;generalize decide (a<0)=p1 at *;generalize decide (b<0)=p2 at *;generalize decide (a'<0)=p3 at *;generalize decide (b'<0)=p4 at *;generalize decide (a*(c':Int)<0)=p5 at *;generalize decide (b*(c':Int)<0)=p6 at *;generalize decide (a'*(c:Int)<0)=p7 at *;generalize decide (b'*(c:Int)<0)=p8 at *;generalize wW a.natAbs=V1 at *;generalize wW b.natAbs=V2 at *;generalize wW a'.natAbs=V3 at *;generalize wW b'.natAbs=V4 at *;generalize wW (a*(c':Int)).natAbs=V5 at *;generalize wW (b*(c':Int)).natAbs=V6 at *;generalize wW (a'*(c:Int)).natAbs=V7 at *;generalize wW (b'*(c:Int)).natAbs=V8 at *;generalize wW c=V9 at *;generalize wW c'=V0 at *;refine aa.af ak Tryz.func146 rfl rfl _ rfl ?_;(conv=>whnf);repeat' ((first|refine st ?_|(refine⟨fun h=>?_,fun h=>?_⟩<;>try simp only[ae] at h)|(refine .inl ?_;(conv=>whnf);(first|refine⟨_,t1,?_⟩|refine⟨_,t2,?_⟩|refine⟨_,t3,?_⟩|refine⟨_,t4,?_⟩|refine⟨_,k1,?_⟩|refine⟨_,k2,?_⟩|refine⟨_,ko,?_⟩))|(refine .inr (.inr (.inl ?_));(conv=>whnf);refine⟨_,ko,?_⟩)|((first|refine .inr (.inr (.inr ?_))|refine .inr ?_);(conv=>whnf);refine⟨_,_,ko,?_⟩)|refine wf ?_|refine ao ?_|refine nn ?_|fail)<;>conv=>whnf)
 all_goals first|contradiction|(exfalso;omega)|skip
theorem Q3(a b:Int)(c:Nat)(a' b':Int)(c':Nat)(h:rn a b c)(h':rn a' b' c'):aa Tryz.prog G 111 [kr a b c,kr a' b' c'] (.tup [.int .i64 (De a b c a' b' c'),.int .i64 0]):=by
 have m1:=Ft (G:=G) a b c h;have m2:=Ft (G:=G) a' b' c' h';have k:=yC (G:=G) a b c a' b' c' h h';generalize De a b c a' b' c'=z at *;unfold kr dX at *;generalize decide (a<0)=p1 at *;generalize decide (b<0)=p2 at *;generalize decide (a'<0)=p3 at *;generalize decide (b'<0)=p4 at *;generalize wW a.natAbs=V1 at *;generalize wW b.natAbs=V2 at *;generalize wW a'.natAbs=V3 at *;generalize wW b'.natAbs=V4 at *;generalize wW c=V9 at *;generalize wW c'=V0 at *;refine aa.af ak Tryz.func111 rfl rfl _ rfl ?_;(conv=>whnf);repeat' ((first|refine st ?_|(refine⟨fun h=>?_,fun h=>?_⟩<;>try simp only[ae] at h)|(refine .inl ?_;(conv=>whnf);(first|refine⟨_,m1,?_⟩|refine⟨_,m2,?_⟩|refine⟨_,k,?_⟩))|refine wf ?_|refine ao ?_|refine nn ?_|fail)<;>conv=>whnf)
 all_goals first|contradiction|(exfalso;omega)|skip
end Go.Proofs.YtijddijloelacaaGreat
namespace Go.Proofs.YtijddijloelacaaGreat
open Go.Proofs.YtijddijloelacaaGreat.Am Go.Sort Go.Proofs
variable [Inhabited cF]
variable {G:aK}
theorem Q4{s t:Sg}(hT:cM s t)(hA:jE s t){f l:Pt}(h:Yn s t f l)(e:f=l):(f=s.a\/f=s.b)/\(f=t.a\/f=t.b):=by
 have hs:=hT.1;have ht:=hT.2.1;obtain⟨f1,f2,l1,l2,KB⟩:=h;subst e;obtain⟨hL,hne,iq⟩:=GZ hA;have z:aI s.a s.b s.a=0:=by unfold aI;grind
 obtain⟨fm,fc,fd⟩:=sN f2.1
 have key:∀q,q∈cm s t->eQ s t q->aI s.a s.b q=aI s.a s.b f:=fun q hq hb=>by
  have:=KB q hq hb;have e1:=(sN hb.1).2.2;omega
 obtain⟨ia,ib⟩:=iq f fm fc;have jf:=ia.1 f2.1;have kf:=ib.1 f2.2;have ca:eP s.a s.b t.a=0:=by have:=hA.2.2.1;rwa [dD (bF hs ht.1)] at this
 have cb:eP s.a s.b t.b=0:=by have:=hA.2.2.2;rwa [dD (bF hs ht.2.1)] at this
 have ka:(aI s.a s.b t.a<=0/\0<=aI s.a s.b t.b)\/(aI s.a s.b t.b<=0/\0<=aI s.a s.b t.a)->0=aI s.a s.b f:=fun h=>by
  have q:=(iq s.a hs.1 (wh hs).2.2.1).2.2 (by rw[z];exact h);have:=key s.a (by simp[cm]) ⟨wh hs,q⟩;omega
 have kb:(aI s.a s.b t.a<=aI s.a s.b s.b/\aI s.a s.b s.b<=aI s.a s.b t.b)\/(aI s.a s.b t.b<=aI s.a s.b s.b/\aI s.a s.b s.b<=aI s.a s.b t.a)->aI s.a s.b s.b=aI s.a s.b f:=fun h=>by
  have q:=(iq s.b hs.2.1 (O9 hs).2.2.1).2.2 h;exact key s.b (by simp[cm]) ⟨O9 hs,q⟩
 have kc:0<=aI s.a s.b t.a/\aI s.a s.b t.a<=aI s.a s.b s.b->aI s.a s.b t.a=aI s.a s.b f:=fun h =>
  key t.a (by simp[cm]) ⟨(iq t.a ht.1 ca).1.2 h,wh ht⟩
 have kd:0<=aI s.a s.b t.b/\aI s.a s.b t.b<=aI s.a s.b s.b->aI s.a s.b t.b=aI s.a s.b f:=fun h =>
  key t.b (by simp[cm]) ⟨(iq t.b ht.2.1 cb).1.2 h,O9 ht⟩
 have g1:aI s.a s.b f=0\/aI s.a s.b f=aI s.a s.b s.b:=by omega
 have g2:aI s.a s.b f=aI s.a s.b t.a\/aI s.a s.b f=aI s.a s.b t.b:=by omega
 constructor
 ·rcases g1 with g|g
  ·exact Or.inl (jN hs fc (wh hs).2.2.1 (by omega))
  ·exact Or.inr (jN hs fc (O9 hs).2.2.1 g)
 ·rcases g2 with g|g
  ·exact Or.inl (jN hs fc ca g)
  ·exact Or.inr (jN hs fc cb g)
theorem Fv(ux uy vx vy wx wy ax:Int):ux*(wx*vy-wy*vx)+ax*(ux*vy-uy*vx)=vx*(wx*uy-wy*ux)+(wx+ax)*(ux*vy-uy*vx):=by grind
theorem Nc(a b c d e f g:Int)(h:a*b+c*d=e*f+g*d):a * -b+c * -d=e * -f+g * -d:=by grind
/-- Both lines tell the same place. -/
theorem qc(s t:Sg)(h:(aT s t).k=1):cM s t/\0<=(aT s t).n/\0<=(aT s t).m/\0<(aT s t).d/\(aT s t).n<=(aT s t).d/\(aT s t).m<=(aT s t).d /\
  (aT s t).d<=9223372036854775807 /\
  (s.b.x-s.a.x)*(aT s t).n+s.a.x*(aT s t).d=(t.b.x-t.a.x)*(aT s t).m+t.a.x*(aT s t).d:=by
 unfold aT at *;by_cases hT:cM s t
 ·rw[if_pos hT] at *;refine⟨hT,?_⟩;by_cases hd:rD s t=0
  ·rw[if_pos hd] at *;have hA:=(lW s t hT).2 hd;obtain⟨f,l,hE,hR⟩:=exts hT hA;rw[hR] at h ⊢;unfold Z1 at h ⊢;by_cases hf:f=l
   ·rw[if_neg (fun q=>q hf)] at h ⊢;obtain⟨o1,o2⟩:=Q4 hT hA hE hf;have ns:s.a≠s.b:=fun e=>hT.1.2.2 (by rw[e];exact⟨rfl,rfl⟩);have nt:t.a≠t.b:=fun e=>hT.2.1.2.2 (by rw[e];exact⟨rfl,rfl⟩);refine⟨?_,?_,Int.zero_lt_one,?_,?_,(by show(1:Int)<=9223372036854775807;decide),?_⟩
    ·dsimp only;split<;>omega
    ·dsimp only;split<;>omega
    ·dsimp only;split<;>omega
    ·dsimp only;split<;>omega
    ·dsimp only
     rcases o1 with o1|o1
     ·rw[if_neg (fun q=>ns (o1.symm.trans q))];rcases o2 with o2|o2
      ·rw[if_neg (fun q=>nt (o2.symm.trans q)),<-o1,<-o2];omega
      ·rw[if_pos o2,<-o1,<-o2];omega
     ·rw[if_pos o1];rcases o2 with o2|o2
      ·rw[if_neg (fun q=>nt (o2.symm.trans q)),<-o1,<-o2];omega
      ·rw[if_pos o2,<-o1,<-o2];omega
   ·rw[if_pos hf] at h;exact absurd (show(2:Int)=1 from h) (by decide)
  ·rw[if_neg hd] at *;obtain⟨b1,b2,b3,b4,_⟩:=wm hT hd;obtain⟨_,_,b5,b6⟩:=rbd hT.1 hT.2.1;have hbd : -9223372036854775807<=rD s t/\rD s t<=9223372036854775807:=by unfold rD;omega
   have e:=Fv (s.b.x-s.a.x) (s.b.y-s.a.y) (t.b.x-t.a.x) (t.b.y-t.a.y) (t.a.x-s.a.x) (t.a.y-s.a.y) s.a.x;rw[show t.a.x-s.a.x+s.a.x=t.a.x by omega] at e;have e':(s.b.x-s.a.x)*rN s t+s.a.x*rD s t=(t.b.x-t.a.x)*rM s t+t.a.x*rD s t:=e;by_cases hn:rD s t<0
   ·have eq:bR s t=⟨1,-(rN s t),-(rM s t),-(rD s t),⟨0,0⟩,⟨0,0⟩⟩:=by unfold bR;rw[if_pos hn]
    rw[eq] at b1 b2 b3 b4 ⊢
    dsimp only at b1 b2 b3 b4 ⊢
    refine⟨b1,b3,by omega,b2,b4,by omega,Nc _ _ _ _ _ _ _ e'⟩
   ·have eq:bR s t=⟨1,rN s t,rM s t,rD s t,⟨0,0⟩,⟨0,0⟩⟩:=by unfold bR;rw[if_neg hn]
    rw[eq] at b1 b2 b3 b4 ⊢
    dsimp only at b1 b2 b3 b4 ⊢
    refine⟨b1,b3,by omega,b2,b4,by omega,e'⟩
 ·rw[if_neg hT] at h;exact absurd h (by decide)
end Go.Proofs.YtijddijloelacaaGreat
namespace Go.Proofs.YtijddijloelacaaGreat
open Go.Proofs.YtijddijloelacaaGreat.Am
variable [Inhabited cF]
variable {G:aK}
theorem Nd{x:Int}{g:Nat}(h:g ∣ x.natAbs):qz x g*g=x:=by
 have e:=Nat.div_mul_cancel h;unfold qz;split
 ·rw[Int.neg_mul,<-Int.natCast_mul,e];omega
 ·rw[<-Int.natCast_mul,e];omega
theorem U6(x y:Int)(w:Nat):gg x y w ∣ x.natAbs/\gg x y w ∣ y.natAbs/\gg x y w ∣ w :=
 ⟨Nat.dvd_trans (Nat.gcd_dvd_left _ _) (Nat.gcd_dvd_left _ _),Nat.dvd_trans (Nat.gcd_dvd_left _ _) (Nat.gcd_dvd_right _ _),Nat.gcd_dvd_right _ _⟩
theorem rp{a b n d:Int}(ha:jD a)(hb:jD b)(hn:0<=n/\n<=d)(hd:d<=9223372036854775807):(a*d+(b-a)*n).natAbs<2 ^ 119:=by
 unfold jD at ha hb;have m1:a.natAbs*d.natAbs<=536870912*9223372036854775807:=Nat.mul_le_mul (by omega) (by omega);have m2:(b-a).natAbs*n.natAbs<=1073741824*9223372036854775807:=Nat.mul_le_mul (by omega) (by omega);rw[<-Int.natAbs_mul] at m1 m2;have Fu:(2:Nat) ^ 119=664613997892457936451903530140172288:=by decide
 rw[Fu];omega
end Go.Proofs.YtijddijloelacaaGreat
namespace Go.Proofs.YtijddijloelacaaGreat.Am
open Go.Shelf Go.RowKit Go.Lib Go.Sort Go.Proofs
section
variable {P:Program}
theorem Df(w:World)(t e ty:TypeId)(z:Value)(ht:P.underlying t=some (.slice e))(hv:∀w,(zeroValue e).run P w=.ok z w)(b o n c:Nat)(hn:0<n)(zs:List Value)(hz:(Builtin.zeroCells z.cells n).toList=zs)(h1:∀v∈zs,v.oneCell'=true)
  (hc:∀j,j<zs.length->(w.cell? ⟨b,o+j,none⟩).isSome=true) (hf:∀j,j<zs.length->w.frozen? ⟨b,o+j,none⟩=false) :
  (Builtin.clear_ #[t] ty #[.slice (some ⟨b,o,none⟩) n c]).run P w=.ok (.tuple #[]) (w.setCells b o zs):=by
 have rY:=run_storeCells_cells (P:=P) b o zs 0 w (by simpa using hc) (by simpa using hf) h1;simp only[Nat.add_zero] at rY;obtain⟨m,rfl⟩:∃m,n=m+1:=⟨n-1,by omega⟩;simp[Builtin.clear_,run_underlying ht,hv,hz,rY]
end
structure HE (P:Program) (ρ:Go.Shelf.Ren):Prop where
 mixed:P.follows .mixedOrders=true
 f43:Bears P (ρ.f 43) (SlBodyN.n43 ρ)
 t0:P.underlying (ρ.t 0)=some (TypeDesc.tuple #[])
 a0:∀w,(isAgg (ρ.t 0)).run P w=.ok false w
 z0:∀w,(Go.sizeOf (ρ.t 0)).run P w=.ok 1 w
 v0:∀w,(zeroValue (ρ.t 0)).run P w=.ok (Value.tuple #[]) w
 t3:P.underlying (ρ.t 3)=some (TypeDesc.int IntKind.i64)
 a3:∀w,(isAgg (ρ.t 3)).run P w=.ok false w
 z3:∀w,(Go.sizeOf (ρ.t 3)).run P w=.ok 1 w
 v3:∀w,(zeroValue (ρ.t 3)).run P w=.ok (Value.int IntKind.i64 0) w
 t4:P.underlying (ρ.t 4)=some (TypeDesc.bool)
 a4:∀w,(isAgg (ρ.t 4)).run P w=.ok false w
 z4:∀w,(Go.sizeOf (ρ.t 4)).run P w=.ok 1 w
 v4:∀w,(zeroValue (ρ.t 4)).run P w=.ok (Value.bool false) w
 t22:P.underlying (ρ.t 22)=some (TypeDesc.slice (ρ.t 23))
 a22:∀w,(isAgg (ρ.t 22)).run P w=.ok false w
 z22:∀w,(Go.sizeOf (ρ.t 22)).run P w=.ok 1 w
 v22:∀w,(zeroValue (ρ.t 22)).run P w=.ok (Value.slice none 0 0) w
section
variable {α : Type} [Inhabited α]
theorem tR:∀(u v:List Value) (F:Array Value) (s:Nat),Go.Sort.setMany F s (u++v)=Go.Sort.setMany (Go.Sort.setMany F s u) (s+u.length) v
 | [],v,F,s=>rfl
 | x::u,v,F,s=>by
  rw[List.cons_append,Go.Sort.setMany,Go.Sort.setMany,tR u v]
  congr 1
  simp;omega
theorem tS(enc:α->List Value)(k:Nat)(hk:∀x,(enc x).length=k)(d:Array α)(i:Nat)(x:α)(hi:i<d.size):Go.Sort.setMany (flatK enc k d) (i*k) (enc x)=flatK enc k (d.setIfInBounds i x):=by
 refine ext_get! (by simp) fun t ht=>?_;have Fw:t<d.size*k:=by simpa using ht
 have k0:0<k:=by
  rcases Nat.eq_zero_or_pos k with h|h
  ·subst h;simp at Fw
  ·exact h
 rw[get_setMany _ _ _ t (by simpa using Fw),get_flatK _ _ _ t Fw,get_flatK _ _ _ t (by simpa using Fw),hk];by_cases a:t/k=i
 ·rw[if_pos ((blk_iff k i t k0).2 a)];have e:(d.setIfInBounds i x)[t/k]! = x:=by rw[a];simp[hi]
  rw[e,show t-i*k=t%k by subst a;rw[Nat.mod_eq_sub_div_mul]]
 ·rw[if_neg (fun h=>a ((blk_iff k i t k0).1 h))]
  have e:(d.setIfInBounds i x)[t/k]! = d[t/k]!:=by
   simp only[Array.getElem!_eq_getD,Array.getD_eq_getD_getElem?,Array.getElem?_setIfInBounds];rw[if_neg (fun h=>a h.symm)]
  rw[e]
theorem tT(enc:α->List Value)(k:Nat)(hk:∀x,(enc x).length=k):∀(xs:List α) (d:Array α) (i:Nat),i+xs.length<=d.size->Go.Sort.setMany (flatK enc k d) (i*k) (xs.flatMap enc)=flatK enc k (lay d i xs)
 | [],d,i,_=>rfl
 | x::xs,d,i,h=>by
  have h:i+(xs.length+1)<=d.size:=h;rw[List.flatMap_cons,tR,tS enc k hk d i x (by omega),hk,show i*k+k=(i+1)*k by rw[Nat.add_mul,Nat.one_mul],tT enc k hk xs _ (i+1) (by simp;omega),lay]
theorem rq(enc:α->List Value)(k:Nat)(hk:∀x,(enc x).length=k):∀xs:List α,(xs.flatMap enc).length=xs.length*k
 | []=>by simp
 | x::xs=>by rw[List.flatMap_cons,List.length_append,hk,rq enc k hk xs,List.length_cons,Nat.add_mul];omega
variable {P:Program} {ρ : Go.Shelf.Ren} [DecidableEq α]
theorem Jq(L:HE P ρ)(k:Nat)(k0:0<k)(aE:∀w,(isAgg (ρ.t 23)).run P w=.ok true w)(zE:∀w,(Go.sizeOf (ρ.t 23)).run P w=.ok k w)(enc:α->List Value)(hk:∀x,(enc x).length=k)(h1:∀x,∀v∈enc x,v.oneCell'=true)
  (YK:∀(x y:α) (w:World),Sem.run P (binOp .eql (ρ.t 23) (.agg (enc x).toArray) (.agg (enc y).toArray)) w=.ok (.bool (decide (x=y))) w)
  (YL:∀(x y:α) (w:World),Sem.run P (binOp .neq (ρ.t 23) (.agg (enc x).toArray) (.agg (enc y).toArray)) w=.ok (.bool (!decide (x=y))) w)
  (YM:∀(op:BinOp) (a b:Operand) (x y:α) (w:World),Sem.run P (eqGuard op (ρ.t 23) a b (.agg (enc x).toArray) (.agg (enc y).toArray)) w=.ok () w)
  (zr:α) (zv:Value) (v23:∀w,(zeroValue (ρ.t 23)).run P w=.ok zv w) (hz:∀n,(Builtin.zeroCells zv.cells n).toList=(List.replicate n zr).flatMap enc)
  (aq off cap:Nat) (d:Array α) (w:World) (hH:HoldsK enc k w aq off d) (cj:d.size<=4611686018427387904) (mw:d.size<=cap) :
  Calls P (ρ.f 43) #[.slice (some ⟨aq,off,none⟩) d.size cap] w fun e w'=>e=.returned (.slice (some ⟨aq,off,none⟩) (compactUpTo d d.size).length cap)/\∃q,w'=putRowK enc k (Sort.ahead w q) aq off (compactUpTo d d.size++List.replicate (d.size-(compactUpTo d d.size).length) zr).toArray:=by
 have mixed:=L.mixed;have t0:=L.t0;have a0:=L.a0;have z0:=L.z0;have v0:=L.v0;have t3:=L.t3;have a3:=L.a3;have z3:=L.z3;have v3:=L.v3;have t4:=L.t4;have a4:=L.a4;have z4:=L.z4;have v4:=L.v4;have t22:=L.t22;have a22:=L.a22;have z22:=L.z22;have v22:=L.v22;have Ea:Hid (∀x,(enc x).length=k):=hk;have H11:Hid (∀x,∀v∈enc x,v.oneCell'=true):=h1;have HZ:Hid (∀n,(Builtin.zeroCells zv.cells n).toList=(List.replicate n zr).flatMap enc):=hz
 have same:∀q,(∀j,j<d.size->keeps d j=true)->(compactUpTo d d.size).length=d.size/\w.drewN q=putRowK enc k (Sort.ahead w q) aq off (compactUpTo d d.size++List.replicate (d.size-(compactUpTo d d.size).length) zr).toArray:=by
  intro q iq;have e:compactUpTo d d.size=d.toList:=by rw[compactUpTo_all d _ iq,range_map_get]
  rw[e];refine⟨by simp,?_⟩;simp only[Array.length_toList,Nat.sub_self,List.replicate_zero,List.append_nil,Array.toArray_toList];exact(putRowK_self enc k (Sort.ahead w q) aq off d (holdsK_ahead enc k w q aq off d hH)).symm
 have HS:Aside (∀q,(∀j,j<d.size->keeps d j=true)->(compactUpTo d d.size).length=d.size/\w.drewN q=putRowK enc k (Sort.ahead w q) aq off (compactUpTo d d.size++List.replicate (d.size-(compactUpTo d d.size).length) zr).toArray):=same;clear same hk h1 hz
 have y9:Hid (∀x n,x<n->x*k+k<=n*k):=fun x n hx=>by
  have:=Nat.mul_le_mul_right k (show x+1<=n from hx);rwa [Nat.add_mul,Nat.one_mul] at this
 by_cases h2:d.size<2
 ·have HH:Aside (HoldsK enc k w aq off d):=hH;clear hH;obtain⟨_,_,FG⟩:=L.f43
  go_enter FG,SlBodyN.n43_ntmps ρ
  go_wp2
  go_ret
  obtain⟨e1,e2⟩:=HS.out 0 (fun j hj=>keeps_lt_one d j (by omega));exact⟨by rw[e1];rfl,0,e2⟩
 ·obtain⟨_,_,FG⟩:=L.f43
  go_enter FG,SlBodyN.n43_ntmps ρ
  have HH:Aside (HoldsK enc k w aq off d):=hH;clear hH
  go_wp2
  go_loopg [3] d.size (fun g s3 wr=>∃kk q:Nat,1<=kk/\kk<=d.size/\d.size-kk<=g/\s3=.int .i64 kk/\wr=w.drewN q/\Aside (∀j,j<kk->keeps d j=true))
  case atStart=>exact⟨1,0,Nat.le_refl _,by omega,by omega,rfl,rfl,keeps_lt_one d⟩
  case round =>
   obtain⟨kk,q,Bm,hkd,hg,rfl,rfl,A⟩:=hrel;by_cases aH:kk<d.size
   ·have g1:∀m,Sem.run P (loadCellsFrom ⟨aq,off+kk*k,none⟩ 0 k #[]) ((w.drewN q).drewN m)=.ok (enc d[kk]!).toArray ((w.drewN q).drewN m):=fun m=>run_loadCellsFrom_list P _ _ _ k (Ea.out _) (fun c v hv=>by rw[World.cell?_drewN,World.cell?_drewN];exact HoldsK.cells HH.out Ea.out aH c v hv);have g2:∀m,Sem.run P (loadCellsFrom ⟨aq,off+(kk-1)*k,none⟩ 0 k #[]) ((w.drewN q).drewN m)=.ok (enc d[kk-1]!).toArray ((w.drewN q).drewN m):=fun m=>run_loadCellsFrom_list P _ _ _ k (Ea.out _) (fun c v hv=>by rw[World.cell?_drewN,World.cell?_drewN];exact HoldsK.cells HH.out Ea.out (by omega) c v hv);generalize hx:d[kk]! = x at g1;generalize hy:d[kk-1]! = y at g2;generalize hwq:w.drewN q=wq at g1 g2 ⊢;have B:Aside (d[kk]! = x/\d[kk-1]! = y):=⟨hx,hy⟩;have BQ:Aside (w.drewN q=wq):=hwq;clear hx hy hwq;have Xs:IntKind.i64.wrap ((kk:Int)-1)=((kk-1:Nat):Int):=by rw[IntKind.wrap_i64];omega
    have oI:kk-1<d.size:=by omega
    by_cases YN:x=y
    ·subst YN
     go_wp2_with fail
     go_quiet_o (fail)
     go_wp2
     clear g1 g2 Xs oI
     go_loopg [3,5] d.size (fun g s3 s5 wr=>∃(jj k2 q2:Nat) (dk:Array α),s3=.int .i64 jj/\s5=.int .i64 k2/\1<=k2/\kk+k2<=d.size/\d.size-(kk+k2)<=g/\Aside (wr=putRowK enc k (Sort.ahead w q2) aq off dk)/\Aside (CompInv d (kk+k2) jj dk))
     case atStart=>exact⟨kk,1,q+nq,d,rfl,rfl,Nat.le_refl _,by omega,by omega,(show Aside (wq.drewN nq=putRowK enc k (Sort.ahead w (q+nq)) aq off d) from(by rw[<-BQ.out,World.drewN_drewN];exact(putRowK_self enc k (Sort.ahead w (q+nq)) aq off d (holdsK_ahead enc k w (q+nq) aq off d HH.out)).symm)),(show Aside _ from CompInv.start A.out (keeps_neg (by omega) (by rw[B.out.1,B.out.2])))⟩
     case round =>
      obtain⟨jj,k2,q2,dk,rfl,rfl,h21,hle,ua,W2,I2⟩:=hrel;have Eu:=I2.out.lt;have YO:=I2.out.size;have Z6:Aside (HoldsK enc k wr aq off dk):=(show HoldsK enc k wr aq off dk by rw[W2.out];exact holdsK_putRowK enc k _ aq off d dk (holdsK_ahead enc k w q2 aq off d HH.out) YO);by_cases ID:kk+k2<d.size
      ·have e1:off+kk*k+k2*k=off+(kk+k2)*k:=by rw[Nat.add_mul];omega
       have e2:off+kk*k+(k2-1)*k=off+(kk+k2-1)*k:=by rw[show kk+k2-1=kk+(k2-1) by omega,Nat.add_mul];omega
       have e3:d[kk+k2]! = dk[kk+k2]!:=(I2.out.high (kk+k2) (by omega)).symm;have e4:d[kk+k2-1]! = dk[kk+k2-1]!:=(I2.out.high (kk+k2-1) (by omega)).symm
       have g1:∀m,Sem.run P (loadCellsFrom ⟨aq,off+kk*k+k2*k,none⟩ 0 k #[]) (wr.drewN m)=.ok (enc d[kk+k2]!).toArray (wr.drewN m):=fun m=>run_loadCellsFrom_list P _ _ _ k (Ea.out _) (fun c v hv=>by
        rw[e3] at hv;rw[World.cell?_drewN,e1];exact HoldsK.cells Z6.out Ea.out (by omega) c v hv)
       have g2:∀m,Sem.run P (loadCellsFrom ⟨aq,off+kk*k+(k2-1)*k,none⟩ 0 k #[]) (wr.drewN m)=.ok (enc d[kk+k2-1]!).toArray (wr.drewN m):=fun m=>run_loadCellsFrom_list P _ _ _ k (Ea.out _) (fun c v hv=>by
        rw[e4] at hv;rw[World.cell?_drewN,e2];exact HoldsK.cells Z6.out Ea.out (by omega) c v hv)
       clear e1 e2 e3 e4;generalize hu:d[kk+k2]! = u at g1;generalize hv:d[kk+k2-1]! = v at g2;have C:Aside (d[kk+k2]! = u/\d[kk+k2-1]! = v):=⟨hu,hv⟩;clear hu hv;have Xs:IntKind.i64.wrap ((k2:Int)-1)=((k2-1:Nat):Int):=by rw[IntKind.wrap_i64];omega
       have oI:k2-1<d.size-kk:=by omega
       have mr:k2<d.size-kk:=by omega
       by_cases huv:u=v
       ·subst huv
        go_wp2_with fail
        go_quiet_o (fail)
        go_wp2
        go_roundg (d.size-(kk+(k2+1)))
        case measure=>omega
        case rel=>exact⟨jj,k2+1,q2+nq,dk,rfl,by go_num,by omega,by omega,Nat.le_refl _,(show Aside (wr.drewN nq=putRowK enc k (Sort.ahead w (q2+nq)) aq off dk) from(by rw[W2.out,putRowK_drewN];exact rfl)),(show Aside _ from I2.out.skip (keeps_neg (by omega) (by rw[C.out.1,C.out.2])))⟩
       ·have st:∀m,Sem.run P (storeCells ⟨aq,off+jj*k,none⟩ (enc u) 0) (wr.drewN m)=.ok () ((wr.drewN m).setCells aq (off+jj*k) (enc u)):=fun m =>
         stores_of_holds P (W:=wr.drewN m) (F:=flatK enc k dk) (by
          have:HoldsK enc k (wr.drewN m) aq off dk:=by rw[W2.out,putRowK_drewN];exact holdsK_putRowK enc k _ aq off d dk (holdsK_ahead enc k w _ aq off d HH.out) YO
          exact this) (jj*k) _ (by rw[Ea.out,size_flatK];exact y9.out jj dk.size (by omega)) (H11.out u)
        have hle2:(enc u).length=k:=Ea.out u;have qB:jj<d.size:=by omega
        go_wp2_with fail
        go_quiet_o (fail)
        go_wp2
        go_roundg (d.size-(kk+(k2+1)))
        case measure=>omega
        case rel=>exact⟨jj+1,k2+1,q2+nq,dk.setIfInBounds jj u,by go_num,by go_num,by omega,by omega,Nat.le_refl _,(show Aside ((wr.drewN nq).setCells aq (off+jj*k) (enc u)=putRowK enc k (Sort.ahead w (q2+nq)) aq off (dk.setIfInBounds jj u)) from(by
         rw[W2.out,putRowK_drewN];unfold putRowK;rw[setCells_putRow _ _ _ _ _ _ (by rw[Ea.out,size_flatK];exact y9.out jj dk.size (by omega)),tS enc k Ea.out dk jj u (by omega)];exact rfl)),(show Aside _ from(by have:=I2.out.keep ID (keeps_pos (by rw[C.out.1,C.out.2];exact huv));rwa [C.out.1] at this))⟩
      ·have UM:kk+k2=d.size:=by omega
       have Iq:∀ty,(Builtin.clear_ #[ρ.t 22] ty #[.slice (some ⟨aq,off+jj*k,none⟩) (d.size-jj) (cap-jj)]).run P wr=.ok (.tuple #[]) (wr.setCells aq (off+jj*k) ((List.replicate (d.size-jj) zr).flatMap enc)):=fun ty =>
        Df wr _ _ ty _ t22 v23 aq (off+jj*k) _ _ (by omega) _ (HZ.out _) (fun v hv=>by
         obtain⟨x,_,hx⟩:=List.mem_flatMap.1 hv;exact H11.out x v hx)
         (fun j hj=>by
          rw[rq enc k Ea.out,List.length_replicate] at hj;have:=Z6.out (jj*k+j) (by rw[size_flatK,YO];have:=Nat.mul_le_mul_right k (show jj<=d.size by omega);rw[Nat.sub_mul] at hj;omega);rw[Nat.add_assoc,this.1];rfl)
         (fun j hj=>by
          rw[rq enc k Ea.out,List.length_replicate] at hj;have:=Z6.out (jj*k+j) (by rw[size_flatK,YO];have:=Nat.mul_le_mul_right k (show jj<=d.size by omega);rw[Nat.sub_mul] at hj;omega);rw[Nat.add_assoc];exact this.2)
       have qB:jj<=d.size:=by omega
       go_wp2
       go_ret
       have hI:=I2.out;rw[UM] at hI;refine⟨by rw[hI.len];rfl,q2,?_⟩;rw[hI.len,<-hI.done zr,W2.out];unfold putRowK;rw[setCells_putRow _ _ _ _ _ _ (by rw[rq enc k Ea.out,List.length_replicate,size_flatK,YO,<-Nat.add_mul,show jj+(d.size-jj)=d.size by omega];exact Nat.le_refl _),tT enc k Ea.out _ dk jj (by rw[List.length_replicate];omega)]
    ·go_wp2_with fail
     go_quiet_o (fail)
     go_wp2
     go_roundg (d.size-(kk+1))
     case measure=>omega
     case rel =>
      refine⟨kk+1,q+nq,by omega,by omega,Nat.le_refl _,by go_num,by rw[<-BQ.out,World.drewN_drewN],(show Aside _ from fun j hj=>?_)⟩;by_cases e:j=kk
      ·subst e;exact keeps_pos (by rw[B.out.1,B.out.2];exact YN)
      ·exact A.out j (by omega)
   ·have:kk=d.size:=by omega
    subst this
    go_wp2
    go_ret
    obtain⟨e1,e2⟩:=HS.out q A.out;exact⟨by rw[e1];rfl,q,e2⟩
end
end Go.Proofs.YtijddijloelacaaGreat.Am

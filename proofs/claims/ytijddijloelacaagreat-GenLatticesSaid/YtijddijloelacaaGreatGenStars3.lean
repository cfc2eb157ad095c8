/-
  The walks and plain laws, part 3.
-/
import Derived.Test.YtijddijloelacaaGreatGenStars2
import Derived.Test.YtijddijloelacaaGreatGenStarsm3
import Derived.Shelf.Spec.BitsCarry
import Derived.WalkKit
import Derived.Lib.Walk
import Derived.Shelf.SlLaysE
import Derived.Shelf.SlicesE.Kit
import Derived.Shelf.SlicesE.Equal
import Derived.Shelf.SlicesQ.Load
import Derived.Shelf.SlicesQ.Reverse
import Derived.Shelf.GgSortFunc.RowK
import Derived.Shelf.RegionOpenPlain
import Derived.Deep.LoopGhost
import Derived.Deep.Draws
import Derived.Sort.WalkB12
import Derived.Lib.SliceRun
import Derived.Lib.SlicesCompact
import Derived.Test.YtijddijloelacaaGreatGenStarsm1
set_option linter.unusedSimpArgs false
set_option linter.unusedSectionVars false
set_option linter.unusedVariables false
set_option maxRecDepth 1000000
set_option maxHeartbeats 8000000
namespace Go.Proofs.YtijddijloelacaaGreat
open Go.Proofs.YtijddijloelacaaGreat.Am
variable [Inhabited bY]
variable {G:aG}
def aD(w:Nat->Nat):A:=.agg [.int .u64 (w 0:Nat),.int .u64 (w 1:Nat),.int .u64 (w 2:Nat),.int .u64 (w 3:Nat),.int .u64 (w 4:Nat),.int .u64 (w 5:Nat),.int .u64 (w 6:Nat),.int .u64 (w 7:Nat)]
def dW(w:Nat->Nat):List Nat:=qI (w 0)++(qI (w 1)++(qI (w 2)++(qI (w 3)++(qI (w 4)++(qI (w 5)++(qI (w 6)++qI (w 7)))))))
def cS(w:Nat->Nat):Prop:=∀i,w i<18446744073709551616
theorem Oo(f:Nat->Nat)(n m:Nat):vf f (n+m)=vf f n+vf (fun i=>f (n+i)) m*65536 ^ n:=by
 induction m with
 | zero=>show vf f n=_;rw[vf,Nat.zero_mul,Nat.add_zero]
 | succ m ih =>
  show vf f (n+m+1)=_;rw[vf,vf,ih,Nat.add_mul,Nat.pow_add,Nat.mul_assoc,Nat.mul_comm (65536 ^ m),Nat.add_assoc]
def wv(w:Nat->Nat):Nat:=val (dW w)
theorem AQ(a b:List Nat):val (a++b)=val a+val b*65536 ^ a.length:=by
 rw[val,List.length_append,Oo]
 congr 1
 ·refine yc fun i hi=>?_;rw[List.getD_eq_getElem?_getD,List.getD_eq_getElem?_getD,List.getElem?_append_left hi]
 ·congr 1
  refine yc fun i hi=>?_;rw[List.getD_eq_getElem?_getD,List.getD_eq_getElem?_getD,List.getElem?_append_right (by omega),Nat.add_sub_cancel_left]
theorem sn{a:Nat}(_:a<18446744073709551616):val (qI a)=a:=by
 simp[val,vf,qI];omega
theorem cA(a:Nat)(l:List Nat)(h:a<18446744073709551616):val (qI a++l)=a+18446744073709551616*val l:=by
 have hl:(qI a).length=4:=rfl;have hp:(65536:Nat) ^ 4=18446744073709551616:=by decide
 rw[AQ,sn h,hl,Nat.mul_comm,hp]
theorem cc{w:Nat->Nat}(h:cS w):wv w=w 0+18446744073709551616*(w 1+18446744073709551616*(w 2+18446744073709551616*(w 3+18446744073709551616*(w 4+18446744073709551616*(w 5+18446744073709551616*(w 6+18446744073709551616*w 7)))))):=by
 unfold wv dW;rw[cA _ _ (h 0),cA _ _ (h 1),cA _ _ (h 2),cA _ _ (h 3),cA _ _ (h 4),cA _ _ (h 5),cA _ _ (h 6),sn (h 7)]
def wW(v:Nat):Nat->Nat:=fun j=>v/18446744073709551616 ^ j%18446744073709551616
theorem cj(v:Nat):cS (wW v):=fun _=>Nat.mod_lt _ (by omega)
theorem gQ(v j:Nat):v/18446744073709551616 ^ (j+1)=v/18446744073709551616 ^ j/18446744073709551616:=by
 rw[Nat.pow_succ,Nat.div_div_eq_div_mul]
theorem kq{v x t:Nat}(h:v=x+18446744073709551616*t)(hx:x<18446744073709551616):v%18446744073709551616=x/\v/18446744073709551616=t:=by omega
theorem Rq{w:Nat->Nat}(h:cS w):∀j,j<8->wW (wv w) j=w j:=by
 have e:=cc h;generalize wv w=v at *;have d0:v/18446744073709551616 ^ 0=v:=by rw[Nat.pow_zero,Nat.div_one]
 have s0:=kq (d0.trans e) (h 0);have d1:=(gQ v 0).trans s0.2;have s1:=kq d1 (h 1);have d2:=(gQ v 1).trans s1.2;have s2:=kq d2 (h 2);have d3:=(gQ v 2).trans s2.2;have s3:=kq d3 (h 3);have d4:=(gQ v 3).trans s3.2;have s4:=kq d4 (h 4);have d5:=(gQ v 4).trans s4.2;have s5:=kq d5 (h 5);have d6:=(gQ v 5).trans s5.2;have s6:=kq d6 (h 6);have d7:=(gQ v 6).trans s6.2;intro j hj
 match j,hj with
 | 0,_=>exact s0.1
 | 1,_=>exact s1.1
 | 2,_=>exact s2.1
 | 3,_=>exact s3.1
 | 4,_=>exact s4.1
 | 5,_=>exact s5.1
 | 6,_=>exact s6.1
 | 7,_ =>
  show v/18446744073709551616 ^ 7%18446744073709551616=w 7;rw[d7];exact Nat.mod_eq_of_lt (h 7)
theorem qY{w:Nat->Nat}(h:cS w):aD w=aD (wW (wv w)):=by
 have e:=Rq h;unfold aD;rw[e 0 (by omega),e 1 (by omega),e 2 (by omega),e 3 (by omega),e 4 (by omega),e 5 (by omega),e 6 (by omega),e 7 (by omega)]
theorem eI{v:Nat}(h:v<65536 ^ 32):wv (wW v)=v:=by
 rw[cc (cj v)]
 have key:∀j,v/18446744073709551616 ^ j=wW v j+18446744073709551616*(v/18446744073709551616 ^ (j+1)):=by
  intro j;rw[gQ];have:=Nat.div_add_mod (v/18446744073709551616 ^ j) 18446744073709551616;show _=v/18446744073709551616 ^ j%18446744073709551616+_;omega
 have h8:v/18446744073709551616 ^ 8=0:=Nat.div_eq_of_lt h;have k7:=key 7;rw[h8,Nat.mul_zero,Nat.add_zero] at k7;rw[<-k7,<-key 6,<-key 5,<-key 4,<-key 3,<-key 2,<-key 1,<-key 0,Nat.pow_zero,Nat.div_one]
/-- A number as eight words. -/
def aB(v:Nat):A:=aD (wW v)
theorem KY{b:Nat}(h:b<65536 ^ 32)(h0:wW b 0=0)(h1:wW b 1=0)(h2:wW b 2=0)(h3:wW b 3=0)(h4:wW b 4=0)(h5:wW b 5=0)(h6:wW b 6=0)(h7:wW b 7=0):b=0:=by
 have e:=cc (cj b);rw[eI h,h0,h1,h2,h3,h4,h5,h6,h7] at e;exact e
def eJ(neg:Bool)(v:Nat):A:=.agg [.sb neg,.int .u64 (wW v 0:Nat),.int .u64 (wW v 1:Nat),.int .u64 (wW v 2:Nat),.int .u64 (wW v 3:Nat),.int .u64 (wW v 4:Nat),.int .u64 (wW v 5:Nat),.int .u64 (wW v 6:Nat),.int .u64 (wW v 7:Nat)]
def eK(z:Int):A:=eJ (decide (z<0)) z.natAbs
theorem GM{v:Nat}(h:v<18446744073709551616)(j:Nat):wW v j=if j=0 then v else 0:=by
 unfold wW;split
 ·rename_i e;subst e;rw[Nat.pow_zero,Nat.div_one,Nat.mod_eq_of_lt h]
 ·rename_i e;have:18446744073709551616 ^ 1<=18446744073709551616 ^ j:=Nat.pow_le_pow_right (by omega) (by omega);rw[Nat.div_eq_of_lt (by omega)]
theorem KZ(n:Int)(h1 : -9223372036854775808<=n)(h2:n<=9223372036854775807):aa Tryz.prog G 230 [.int .i64 n] (.tup [.sb (decide (n<0)),.int .u64 (n.natAbs:Int)]):=by
 refine aa.aj ak Tryz.func230 rfl rfl _ rfl ?_;(conv=>whnf);repeat' ((first|refine st ?_|(refine⟨fun h=>?_,fun h=>?_⟩<;>try simp only[af] at h)|refine wf ?_|refine aA ?_|refine nn ?_|fail)<;>conv=>whnf)
 all_goals first|omega|(simp only[IntKind.wrap_u64];omega)
theorem jE(x y:Nat)(hx:x<18446744073709551616)(hy:y<18446744073709551616):
  aa Tryz.prog G 198 [.int .u64 x,.int .u64 y] (.tup [.int .u64 ((x*y/18446744073709551616:Nat):Int),.int .u64 ((x*y%18446744073709551616:Nat):Int)]):=by
 have hc:=KO (G:=G) x y hx hy;generalize x*y/18446744073709551616=a at *;generalize x*y%18446744073709551616=b at *;refine aa.aj ak Tryz.func198 rfl rfl _ rfl ?_;(conv=>whnf);repeat' ((first|refine st ?_|(refine⟨fun h=>?_,fun h=>?_⟩<;>try simp only[af] at h)|(refine .inl ?_;(conv=>whnf);refine⟨_,hc,?_⟩)|refine wf ?_|refine aA ?_|refine nn ?_|fail)<;>conv=>whnf)
theorem yd(hi lo y:Nat)(qH:lo<18446744073709551616)(hy:y<18446744073709551616)(hh:hi<y):
  aa Tryz.prog G 268 [.int .u64 hi,.int .u64 lo,.int .u64 y] (.tup [.int .u64 (((hi*18446744073709551616+lo)/y:Nat):Int),.int .u64 (((hi*18446744073709551616+lo)%y:Nat):Int),.sb true]):=by
 have hc:=KX (G:=G) hi lo y qH hy hh;generalize (hi*18446744073709551616+lo)/y=a at *;generalize (hi*18446744073709551616+lo)%y=b at *;refine aa.aj ak Tryz.func268 rfl rfl _ rfl ?_;(conv=>whnf);repeat' ((first|refine st ?_|(refine⟨fun h=>?_,fun h=>?_⟩<;>try simp only[af] at h)|(refine .inl ?_;(conv=>whnf);refine⟨_,hc,?_⟩)|refine wf ?_|refine aA ?_|refine nn ?_|fail)<;>conv=>whnf)
 all_goals first|(exfalso;omega)
end Go.Proofs.YtijddijloelacaaGreat
namespace Go.Proofs.YtijddijloelacaaGreat
open Go.Shelf Go.RowKit Go.Lib Go.Proofs.YtijddijloelacaaGreat.Am
variable [Inhabited bY]
variable {G:aG}
theorem GN(x y c:Nat)(hc:c<=1)(w:World):Calls Tryz.prog 282 #[.int .u64 x,.int .u64 y,.int .u64 c] w fun e w'=>e=.returned (.tuple #[.int .u64 (((x+y+c)%18446744073709551616:Nat):Int),.int .u64 (((x+y+c)/18446744073709551616:Nat):Int)])/\w'=w:=by
 have hm:min (c:Int) 1=c:=by omega
 have hA:(callFunc 314 #[.int .u64 x,.int .u64 y,.int .u64 c]).run Tryz.prog w=.ok (.value (.tuple #[.int .u64 (((x+y+c)%18446744073709551616:Nat):Int),.int .u64 (((x+y+c)/18446744073709551616:Nat):Int)])) w:=by
  rw[run_callFunc_extern Tryz.func314 (by kernel_rfl) (by kernel_rfl) (by kernel_rfl) (e:=add64Entry) (by kernel_rfl),run_add64 x y c (by omega) (by omega) (by omega) (by omega)];simp only[Result.andThen]
  congr 5<;>omega
 go_enter Tryz.func282,Tryz.ntmps282
 go_wp2
 go_ret2
 exact⟨rfl,rfl⟩
theorem GO(x y c:Nat)(hc:c<=1)(w:World):Calls Tryz.prog 281 #[.int .u64 x,.int .u64 y,.int .u64 c] w fun e w'=>e=.returned (.tuple #[.int .u64 (((x+18446744073709551616-y-c)%18446744073709551616:Nat):Int),.int .u64 ((if x<y+c then 1 else 0:Nat):Int)])/\w'=w:=by
 have hm:min (c:Int) 1=c:=by omega
 have hA:(callFunc 313 #[.int .u64 x,.int .u64 y,.int .u64 c]).run Tryz.prog w=.ok (.value (.tuple #[.int .u64 (((x+18446744073709551616-y-c)%18446744073709551616:Nat):Int),.int .u64 ((if x<y+c then 1 else 0:Nat):Int)])) w:=by
  rw[run_callFunc_extern Tryz.func313 (by kernel_rfl) (by kernel_rfl) (by kernel_rfl) (e:=sub64Entry) (by kernel_rfl),run_sub64 x y c hc];rfl
 go_enter Tryz.func281,Tryz.ntmps281
 go_wp2
 all_goals (go_ret2;exact⟨rfl,rfl⟩)
theorem jF{im:Nat->Prop}{w:World}{k:IntKind}{n:Int}{v:Value}(h:aw im w (.int k n) v):v=.int k n:=by cases h;rfl
theorem ye{im:Nat->Prop}{w:World}{a b:A}{u v:Value}(h1:aw im w a u)(h2:aw im w b v):aw im w (.tup [a,b]) (.tuple #[u,v]) :=
 .tup [a,b] [u,v] rfl fun j h _=>by
  match j,h with
  | 0,_=>exact h1
  | 1,_=>exact h2
theorem AR(x y c:Nat)(hc:c<=1):aa Tryz.prog G 282 [.int .u64 (x:Int),.int .u64 (y:Int),.int .u64 (c:Int)] (.tup [.int .u64 (((x+y+c)%18446744073709551616:Nat):Int),.int .u64 (((x+y+c)/18446744073709551616:Nat):Int)]):=by
 refine⟨⟨_,_,Tryz.func282,rfl,by kernel_rfl⟩,?_⟩;intro im w vs uc hG hl hr
 match vs,hl with
 | [a,b,d],_ =>
  have h0:aw im w (.int .u64 (x:Int)) a:=hr 0 (by simp) (by simp);have h1:aw im w (.int .u64 (y:Int)) b:=hr 1 (by simp) (by simp);have h2:aw im w (.int .u64 (c:Int)) d:=hr 2 (by simp) (by simp);obtain rfl:=jF h0;obtain rfl:=jF h1;obtain rfl:=jF h2;refine bg (GN x y c hc w) ?_;rintro e w' ⟨rfl,rfl⟩;exact⟨_,rfl,ye (.int _ _) (.int _ _),Bw.refl _ _⟩
theorem Oq(x y c:Nat)(hc:c<=1):aa Tryz.prog G 281 [.int .u64 (x:Int),.int .u64 (y:Int),.int .u64 (c:Int)] (.tup [.int .u64 (((x+18446744073709551616-y-c)%18446744073709551616:Nat):Int),.int .u64 ((if x<y+c then 1 else 0:Nat):Int)]):=by
 refine⟨⟨_,_,Tryz.func281,rfl,by kernel_rfl⟩,?_⟩;intro im w vs uc hG hl hr
 match vs,hl with
 | [a,b,d],_ =>
  have h0:aw im w (.int .u64 (x:Int)) a:=hr 0 (by simp) (by simp);have h1:aw im w (.int .u64 (y:Int)) b:=hr 1 (by simp) (by simp);have h2:aw im w (.int .u64 (c:Int)) d:=hr 2 (by simp) (by simp);obtain rfl:=jF h0;obtain rfl:=jF h1;obtain rfl:=jF h2;refine bg (GO x y c hc w) ?_;rintro e w' ⟨rfl,rfl⟩;exact⟨_,rfl,ye (.int _ _) (.int _ _),Bw.refl _ _⟩
end Go.Proofs.YtijddijloelacaaGreat
namespace Go.Proofs.YtijddijloelacaaGreat
open Go.Proofs.YtijddijloelacaaGreat.Am
variable [Inhabited bY]
variable {G:aG}
def jG(f:Nat->Nat):aq:=.box 53 [.int .u64 (f 0:Int),.int .u64 (f 1:Int),.int .u64 (f 2:Int),.int .u64 (f 3:Int),.int .u64 (f 4:Int),.int .u64 (f 5:Int),.int .u64 (f 6:Int),.int .u64 (f 7:Int)]
def MY(S:Nat->Nat)(i j:Nat):Nat:=if j<i then S j else 0
theorem yf(A B S C:Nat->Nat)(h0:C 0=0)(hw:∀i,i<8->aa Tryz.prog G 282 [.int .u64 (A i:Int),.int .u64 (B i:Int),.int .u64 (C i:Int)] (.tup [.int .u64 (S i:Int),.int .u64 (C (i+1):Int)])):
  aa Tryz.prog G 229 [aD A,aD B] (.tup [aD S,.sb ((C 8:Int)==0)]):=by
 unfold aD;refine aa.aj ak Tryz.func229 rfl rfl _ rfl ?_;(conv=>whnf)
 repeat (first|(refine st ?_;conv=>whnf))
 refine al (fun i:Nat=>i<=8) (fun i=>[(7,.int .u64 (C i:Int)),(9,.int .i64 (i:Int))]) (fun i=>[jG A,jG B,jG (fun _=>0),jG (MY S i)]) (fun i=>8-i) 0 (by omega) ?_ ?_
 ·conv=>whnf
  repeat (first|exact fa|((first|refine fb ?_|(refine And.intro ?_ ?_;rotate_left));conv=>whnf))
  all_goals first|exact(congrArg Nat.cast h0).symm
 ·intro i hi;have e:i=0\/i=1\/i=2\/i=3\/i=4\/i=5\/i=6\/i=7\/i=8:=by omega
  rcases e with rfl|rfl|rfl|rfl|rfl|rfl|rfl|rfl|rfl
  all_goals
   (conv=>whnf);repeat' ((first|refine st ?_|(refine⟨fun h=>?_,fun h=>?_⟩<;>try simp only[af] at h)|(refine .inl ?_;(conv=>whnf);refine⟨_,hw _ (by omega),?_⟩)|refine wf ?_|refine aA ?_|refine nn ?_|fail)<;>conv=>whnf)
  all_goals first|contradiction|(exfalso;omega)|skip
  all_goals first|refine⟨1,by decide,by decide,?_⟩|refine⟨2,by decide,by decide,?_⟩|refine⟨3,by decide,by decide,?_⟩|refine⟨4,by decide,by decide,?_⟩|refine⟨5,by decide,by decide,?_⟩|refine⟨6,by decide,by decide,?_⟩|refine⟨7,by decide,by decide,?_⟩|refine⟨8,by decide,by decide,?_⟩
  all_goals
   exact ff
theorem yg(A B S C:Nat->Nat)(h0:C 0=0)(hw:∀i,i<8->aa Tryz.prog G 281 [.int .u64 (A i:Int),.int .u64 (B i:Int),.int .u64 (C i:Int)] (.tup [.int .u64 (S i:Int),.int .u64 (C (i+1):Int)])):
  aa Tryz.prog G 227 [aD A,aD B] (.tup [aD S,.sb ((C 8:Int)==0)]):=by
 unfold aD;refine aa.aj ak Tryz.func227 rfl rfl _ rfl ?_;(conv=>whnf)
 repeat (first|(refine st ?_;conv=>whnf))
 refine al (fun i:Nat=>i<=8) (fun i=>[(7,.int .u64 (C i:Int)),(9,.int .i64 (i:Int))]) (fun i=>[jG A,jG B,jG (fun _=>0),jG (MY S i)]) (fun i=>8-i) 0 (by omega) ?_ ?_
 ·conv=>whnf
  repeat (first|exact fa|((first|refine fb ?_|(refine And.intro ?_ ?_;rotate_left));conv=>whnf))
  all_goals first|exact(congrArg Nat.cast h0).symm
 ·intro i hi;have e:i=0\/i=1\/i=2\/i=3\/i=4\/i=5\/i=6\/i=7\/i=8:=by omega
  rcases e with rfl|rfl|rfl|rfl|rfl|rfl|rfl|rfl|rfl
  all_goals
   (conv=>whnf);repeat' ((first|refine st ?_|(refine⟨fun h=>?_,fun h=>?_⟩<;>try simp only[af] at h)|(refine .inl ?_;(conv=>whnf);refine⟨_,hw _ (by omega),?_⟩)|refine wf ?_|refine aA ?_|refine nn ?_|fail)<;>conv=>whnf)
  all_goals first|contradiction|(exfalso;omega)|skip
  all_goals first|refine⟨1,by decide,by decide,?_⟩|refine⟨2,by decide,by decide,?_⟩|refine⟨3,by decide,by decide,?_⟩|refine⟨4,by decide,by decide,?_⟩|refine⟨5,by decide,by decide,?_⟩|refine⟨6,by decide,by decide,?_⟩|refine⟨7,by decide,by decide,?_⟩|refine⟨8,by decide,by decide,?_⟩
  all_goals
   exact ff
def qJ(A B:Nat->Nat):Nat->Nat
 | 0=>0
 | i+1=>(A i+B i+qJ A B i)/18446744073709551616
def Ek(A B:Nat->Nat)(i:Nat):Nat:=(A i+B i+qJ A B i)%18446744073709551616
def oH(A B:Nat->Nat):Nat->Nat
 | 0=>0
 | i+1=>if A i<B i+oH A B i then 1 else 0
def El(A B:Nat->Nat)(i:Nat):Nat:=(A i+18446744073709551616-B i-oH A B i)%18446744073709551616
theorem GP(A B:Nat->Nat):cS (Ek A B):=fun _=>Nat.mod_lt _ (by omega)
theorem jo(A B:Nat->Nat):cS (El A B):=fun _=>Nat.mod_lt _ (by omega)
theorem GQ{A B:Nat->Nat}(hA:cS A)(hB:cS B):∀i,qJ A B i<=1
 | 0=>Nat.zero_le _
 | i+1=>by
  have h:=GQ hA hB i;have a:=hA i;have b:=hB i;show(A i+B i+qJ A B i)/18446744073709551616<=1;omega
theorem GR(A B:Nat->Nat):∀i,oH A B i<=1
 | 0=>Nat.zero_le _
 | i+1=>by
  show(if A i<B i+oH A B i then 1 else 0)<=1;split<;>omega
theorem gy:(65536:Nat) ^ 32=13407807929942597099574024998205846127479365820592393377723561443721764030073546976801874298166903427690031858186486050853753882811946569946433649006084096:=by decide
theorem K0{A B:Nat->Nat}(hA:cS A)(hB:cS B)(h:wv A+wv B<65536 ^ 32):wv (Ek A B)=wv A+wv B/\qJ A B 8=0:=by
 have eA:=cc hA;have eB:=cc hB;have eS:=cc (GP A B);have e:∀i,A i+B i+qJ A B i=Ek A B i+18446744073709551616*qJ A B (i+1):=fun i=>(Nat.mod_add_div _ _).symm;have e0:A 0+B 0+qJ A B 0=Ek A B 0+18446744073709551616*qJ A B 1:=e 0;have e1:A 1+B 1+qJ A B 1=Ek A B 1+18446744073709551616*qJ A B 2:=e 1;have e2:A 2+B 2+qJ A B 2=Ek A B 2+18446744073709551616*qJ A B 3:=e 2;have e3:A 3+B 3+qJ A B 3=Ek A B 3+18446744073709551616*qJ A B 4:=e 3;have e4:A 4+B 4+qJ A B 4=Ek A B 4+18446744073709551616*qJ A B 5:=e 4;have e5:A 5+B 5+qJ A B 5=Ek A B 5+18446744073709551616*qJ A B 6:=e 5;have e6:A 6+B 6+qJ A B 6=Ek A B 6+18446744073709551616*qJ A B 7:=e 6;have e7:A 7+B 7+qJ A B 7=Ek A B 7+18446744073709551616*qJ A B 8:=e 7;have c0:qJ A B 0=0:=rfl;rw[gy] at h;generalize wv (Ek A B)=s at *;generalize wv A=a at *;generalize wv B=b at *;omega
theorem K1{A B:Nat->Nat}(hA:cS A)(hB:cS B)(h:wv B<=wv A):wv (El A B)=wv A-wv B/\oH A B 8=0:=by
 have eA:=cc hA;have eB:=cc hB;have eS:=cc (jo A B)
 have e:∀i,A i+18446744073709551616*oH A B (i+1)=B i+oH A B i+El A B i:=fun i=>by
  have a:=hA i;have b:=hB i;have c:=GR A B i;show A i+18446744073709551616*(if A i<B i+oH A B i then 1 else 0)=B i+oH A B i+(A i+18446744073709551616-B i-oH A B i)%18446744073709551616;split<;>omega
 have e0:A 0+18446744073709551616*oH A B 1=B 0+oH A B 0+El A B 0:=e 0;have e1:A 1+18446744073709551616*oH A B 2=B 1+oH A B 1+El A B 1:=e 1;have e2:A 2+18446744073709551616*oH A B 3=B 2+oH A B 2+El A B 2:=e 2;have e3:A 3+18446744073709551616*oH A B 4=B 3+oH A B 3+El A B 3:=e 3;have e4:A 4+18446744073709551616*oH A B 5=B 4+oH A B 4+El A B 4:=e 4;have e5:A 5+18446744073709551616*oH A B 6=B 5+oH A B 5+El A B 5:=e 5;have e6:A 6+18446744073709551616*oH A B 7=B 6+oH A B 6+El A B 6:=e 6;have e7:A 7+18446744073709551616*oH A B 8=B 7+oH A B 7+El A B 7:=e 7;have c0:oH A B 0=0:=rfl;have d0:=jo A B 0;have d1:=jo A B 1;have d2:=jo A B 2;have d3:=jo A B 3;have d4:=jo A B 4;have d5:=jo A B 5;have d6:=jo A B 6;have d7:=jo A B 7;generalize wv (El A B)=s at *;generalize wv A=a at *;generalize wv B=b at *;omega
theorem Em(v u:Nat)(h:v+u<65536 ^ 32):aa Tryz.prog G 229 [aB v,aB u] (.tup [aB (v+u),.sb true]):=by
 have hv:v<65536 ^ 32:=by omega
 have hu:u<65536 ^ 32:=by omega
 obtain⟨h1,h2⟩:=K0 (cj v) (cj u) (by rw[eI hv,eI hu];exact h);rw[eI hv,eI hu] at h1;have g:=yf (G:=G) (wW v) (wW u) (Ek (wW v) (wW u)) (qJ (wW v) (wW u)) rfl (fun i _=>AR _ _ _ (GQ (cj v) (cj u) i));rw[h2,qY (GP _ _),h1] at g;exact g
theorem mg(v u:Nat)(hv:v<65536 ^ 32)(h:u<=v):aa Tryz.prog G 227 [aB v,aB u] (.tup [aB (v-u),.sb true]):=by
 have hu:u<65536 ^ 32:=by omega
 obtain⟨h1,h2⟩:=K1 (cj v) (cj u) (by rw[eI hv,eI hu];exact h);rw[eI hv,eI hu] at h1;have g:=yg (G:=G) (wW v) (wW u) (El (wW v) (wW u)) (oH (wW v) (wW u)) rfl (fun i _=>Oq _ _ _ (GR (wW v) (wW u) i));rw[h2,qY (jo _ _),h1] at g;exact g
theorem K2(A C H L K Z:Nat->Nat)(b:Nat)(h0:C 0=0)(h8:C 8=0)(hc:∀i,i<8->C (i+1)=H i+K i/\H i+K i<18446744073709551616)
  (h1:∀i,i<8->aa Tryz.prog G 198 [.int .u64 (A i:Int),.int .u64 (b:Int)] (.tup [.int .u64 (H i:Int),.int .u64 (L i:Int)]))
  (h2:∀i,i<8->aa Tryz.prog G 282 [.int .u64 (L i:Int),.int .u64 (C i:Int),.int .u64 0] (.tup [.int .u64 (Z i:Int),.int .u64 (K i:Int)]))
  (h3:∀i,i<8->aa Tryz.prog G 282 [.int .u64 (Z i:Int),.int .u64 0,.int .u64 0] (.tup [.int .u64 (Z i:Int),.int .u64 0])) :
  aa Tryz.prog G 283 [aD (fun _=>0),aD A,.int .u64 (b:Int),.int .i64 0] (.tup [aD Z,.sb true]):=by
 unfold aD;refine aa.aj ak Tryz.func283 rfl rfl _ rfl ?_;(conv=>whnf)
 repeat (first|refine cB ?_|refine bm ?_|((first|refine aS ak ?_|refine bI ak mixed ?_|refine bJ ?_|refine bK ?_|refine bL ?_|refine cC ?_);conv=>whnf))
 refine al (fun i:Nat=>i<=8) (fun i=>[(10,.int .u64 (C i:Int)),(11,.bool true),(20,.int .i64 (i:Int))]) (fun i=>[jG (MY Z i),jG A,jG (fun _=>0)]) (fun i=>8-i) 0 (by omega) ?_ ?_
 ·conv=>whnf
  repeat (first|exact rfl|exact trivial|exact Or.inl (fun _ _=>rfl)|exact(fun _=>rfl)|exact(fun _ _=>rfl)|exact Or.inl (fun _ hi=>absurd hi (Nat.not_lt_zero _))|((first|refine And.intro rfl ?_|refine And.intro (Or.inl (fun _ _=>rfl)) ?_|refine And.intro (fun _=>rfl) ?_|refine And.intro (fun _ _=>rfl) ?_|(refine And.intro ?_ ?_;rotate_left));conv=>whnf))
  all_goals first|exact(congrArg Nat.cast h0).symm
 ·intro i hi;have e:i=0\/i=1\/i=2\/i=3\/i=4\/i=5\/i=6\/i=7\/i=8:=by omega
  obtain⟨k0,m0⟩:=hc 0 (by omega);have k0:C 1=H 0+K 0:=k0;obtain⟨k1,m1⟩:=hc 1 (by omega);have k1:C 2=H 1+K 1:=k1;obtain⟨k2,m2⟩:=hc 2 (by omega);have k2:C 3=H 2+K 2:=k2;obtain⟨k3,m3⟩:=hc 3 (by omega);have k3:C 4=H 3+K 3:=k3;obtain⟨k4,m4⟩:=hc 4 (by omega);have k4:C 5=H 4+K 4:=k4;obtain⟨k5,m5⟩:=hc 5 (by omega);have k5:C 6=H 5+K 5:=k5;obtain⟨k6,m6⟩:=hc 6 (by omega);have k6:C 7=H 6+K 6:=k6;obtain⟨k7,m7⟩:=hc 7 (by omega);have k7:C 8=H 7+K 7:=k7;clear hc;rcases e with rfl|rfl|rfl|rfl|rfl|rfl|rfl|rfl|rfl
  all_goals
   (conv=>whnf);repeat' (first|refine cB ?_|refine bm ?_|((first|refine aS ak ?_|refine bI ak mixed ?_|refine bJ ?_|refine bK ?_|refine bL ?_|refine cC ?_);conv=>whnf)|(refine And.intro (fun h=>?_) (fun h=>?_)<;>(try simp only[af] at h)<;>conv=>whnf)|(refine Or.inl ?_;(conv=>whnf);refine⟨_,h1 _ (by omega),?_⟩;conv=>whnf)|(refine Or.inr (Or.inr (Or.inl ?_));(conv=>whnf);refine⟨_,h1 _ (by omega),?_⟩;conv=>whnf)|(refine Exists.intro _ (And.intro (h1 _ (by omega)) ?_);conv=>whnf)|(refine Or.inl ?_;(conv=>whnf);refine⟨_,h2 _ (by omega),?_⟩;conv=>whnf)|(refine Or.inr (Or.inr (Or.inl ?_));(conv=>whnf);refine⟨_,h2 _ (by omega),?_⟩;conv=>whnf)|(refine Exists.intro _ (And.intro (h2 _ (by omega)) ?_);conv=>whnf)|(refine Or.inl ?_;(conv=>whnf);refine⟨_,h3 _ (by omega),?_⟩;conv=>whnf)|(refine Or.inr (Or.inr (Or.inl ?_));(conv=>whnf);refine⟨_,h3 _ (by omega),?_⟩;conv=>whnf)|(refine Exists.intro _ (And.intro (h3 _ (by omega)) ?_);conv=>whnf)|(refine cM ?_ ?_;(focus (first|exact cN (by omega)|exact cO (by omega)|exact eG (by omega)|exact cW (by omega)|exact cX (by omega)));conv=>whnf)|((first|refine b9 ?_|(refine And.intro (a:=bG _ _=true) ?_ ?_;(focus kernel_rfl))|refine And.intro rfl ?_|(refine And.intro ?_ ?_;(focus (first|omega|decide|(dsimp only;omega)|(simp at *;omega)))));conv=>whnf))
  all_goals first|contradiction|(exfalso;omega)|(rw[h8];rfl)|skip
  all_goals first|refine⟨1,by decide,by decide,?_⟩|refine⟨2,by decide,by decide,?_⟩|refine⟨3,by decide,by decide,?_⟩|refine⟨4,by decide,by decide,?_⟩|refine⟨5,by decide,by decide,?_⟩|refine⟨6,by decide,by decide,?_⟩|refine⟨7,by decide,by decide,?_⟩|refine⟨8,by decide,by decide,?_⟩
  all_goals
   conv=>whnf
   repeat (first|exact rfl|exact trivial|exact Or.inl (fun _ _=>rfl)|exact(fun _=>rfl)|exact(fun _ _=>rfl)|exact Or.inl (fun _ hi=>absurd hi (Nat.not_lt_zero _))|((first|refine And.intro rfl ?_|refine And.intro (Or.inl (fun _ _=>rfl)) ?_|refine And.intro (fun _=>rfl) ?_|refine And.intro (fun _ _=>rfl) ?_|(refine And.intro ?_ ?_;rotate_left));conv=>whnf))
   all_goals first|omega
def jH(b:Nat):A:=.agg [.int .u64 (b:Int),.int .u64 0,.int .u64 0,.int .u64 0,.int .u64 0,.int .u64 0,.int .u64 0,.int .u64 0]
def Rr(b:Nat):aq:=.box 53 [.int .u64 (b:Int),.int .u64 0,.int .u64 0,.int .u64 0,.int .u64 0,.int .u64 0,.int .u64 0,.int .u64 0]
theorem K3(A Z:Nat->Nat)(b:Nat)(hb:b≠0)(dC:aa Tryz.prog G 283 [aD (fun _=>0),aD A,.int .u64 (b:Int),.int .i64 0] (.tup [aD Z,.sb true])):
  aa Tryz.prog G 233 [aD A,jH b] (.tup [aD Z,.sb true]):=by
 unfold aD jH at *;refine aa.aj ak Tryz.func233 rfl rfl _ rfl ?_;(conv=>whnf)
 repeat (first|refine cB ?_|refine bm ?_|((first|refine aS ak ?_|refine bI ak mixed ?_|refine bJ ?_|refine bK ?_|refine bL ?_|refine cC ?_);conv=>whnf))
 refine al (fun x:Nat×(Nat->Nat)=>x.1<=8/\(x.1=0/\x.2=(fun _=>0)\/1<=x.1/\x.2=Z)) (fun x=>match x with|(i,_)=>[(7,.sb true),(13,.int .i64 (i:Int))]) (fun x=>match x with|(_,O)=>[jG A,Rr b,jG (fun _=>0),jG O]) (fun x=>8-x.1) (0,fun _=>0) ⟨by show 0<=8;omega,Or.inl ⟨rfl,rfl⟩⟩ ?_ ?_
 ·conv=>whnf
  repeat (first|exact rfl|exact trivial|exact Or.inl (fun _ _=>rfl)|exact(fun _=>rfl)|exact(fun _ _=>rfl)|exact Or.inl (fun _ hi=>absurd hi (Nat.not_lt_zero _))|((first|refine And.intro rfl ?_|refine And.intro (Or.inl (fun _ _=>rfl)) ?_|refine And.intro (fun _=>rfl) ?_|refine And.intro (fun _ _=>rfl) ?_|(refine And.intro ?_ ?_;rotate_left));conv=>whnf))
 ·rintro⟨i,O⟩ ⟨hi,hO⟩;have hi:i<=8:=hi;have hO:i=0/\O=(fun _=>0)\/1<=i/\O=Z:=hO;rcases hO with⟨rfl,rfl⟩|⟨hO,rfl⟩
  ·(conv=>whnf);repeat' (first|(exact absurd (show(b:Int)=0 by assumption) (by omega))|refine cB ?_|refine bm ?_|((first|refine aS ak ?_|refine bI ak mixed ?_|refine bJ ?_|refine bK ?_|refine bL ?_|refine cC ?_);conv=>whnf)|(refine And.intro (fun h=>?_) (fun h=>?_)<;>(try simp only[af] at h)<;>conv=>whnf)|(refine Or.inl ?_;(conv=>whnf);refine⟨_,dC,?_⟩;conv=>whnf)|(refine Or.inr (Or.inr (Or.inl ?_));(conv=>whnf);refine⟨_,dC,?_⟩;conv=>whnf)|(refine Exists.intro _ (And.intro (dC) ?_);conv=>whnf)|(refine cM ?_ ?_;(focus (first|exact cN (by omega)|exact cO (by omega)|exact eG (by omega)|exact cW (by omega)|exact cX (by omega)));conv=>whnf)|((first|refine b9 ?_|(refine And.intro (a:=bG _ _=true) ?_ ?_;(focus kernel_rfl))|refine And.intro rfl ?_|(refine And.intro ?_ ?_;(focus (first|omega|decide|(dsimp only;omega)|(simp at *;omega)))));conv=>whnf))
   all_goals first|contradiction|(exfalso;omega)|skip
   all_goals
    refine⟨(1,Z),⟨Nat.le_of_ble_eq_true rfl,Or.inr ⟨Nat.le_of_ble_eq_true rfl,rfl⟩⟩,Nat.le_of_ble_eq_true rfl,?_⟩;(conv=>whnf)
    repeat (first|exact rfl|exact trivial|exact Or.inl (fun _ _=>rfl)|exact(fun _=>rfl)|exact(fun _ _=>rfl)|exact Or.inl (fun _ hi=>absurd hi (Nat.not_lt_zero _))|((first|refine And.intro rfl ?_|refine And.intro (Or.inl (fun _ _=>rfl)) ?_|refine And.intro (fun _=>rfl) ?_|refine And.intro (fun _ _=>rfl) ?_|(refine And.intro ?_ ?_;rotate_left));conv=>whnf))
  ·have e:i=1\/i=2\/i=3\/i=4\/i=5\/i=6\/i=7\/i=8:=by omega
   rcases e with rfl|rfl|rfl|rfl|rfl|rfl|rfl|rfl
   all_goals
    (conv=>whnf);repeat' (first|(exact absurd (rfl:(0:Int)=0) (by assumption))|refine cB ?_|refine bm ?_|((first|refine aS ak ?_|refine bI ak mixed ?_|refine bJ ?_|refine bK ?_|refine bL ?_|refine cC ?_);conv=>whnf)|(refine And.intro (fun h=>?_) (fun h=>?_)<;>(try simp only[af] at h)<;>conv=>whnf)|(refine cM ?_ ?_;(focus (first|exact cN (by omega)|exact cO (by omega)|exact eG (by omega)|exact cW (by omega)|exact cX (by omega)));conv=>whnf)|((first|refine b9 ?_|(refine And.intro (a:=bG _ _=true) ?_ ?_;(focus kernel_rfl))|refine And.intro rfl ?_|(refine And.intro ?_ ?_;(focus (first|omega|decide|(dsimp only;omega)|(simp at *;omega)))));conv=>whnf))
   all_goals first|contradiction|(exfalso;omega)|skip
   all_goals first|refine⟨(2,O),⟨Nat.le_of_ble_eq_true rfl,Or.inr ⟨Nat.le_of_ble_eq_true rfl,rfl⟩⟩,Nat.le_of_ble_eq_true rfl,?_⟩|refine⟨(3,O),⟨Nat.le_of_ble_eq_true rfl,Or.inr ⟨Nat.le_of_ble_eq_true rfl,rfl⟩⟩,Nat.le_of_ble_eq_true rfl,?_⟩|refine⟨(4,O),⟨Nat.le_of_ble_eq_true rfl,Or.inr ⟨Nat.le_of_ble_eq_true rfl,rfl⟩⟩,Nat.le_of_ble_eq_true rfl,?_⟩|refine⟨(5,O),⟨Nat.le_of_ble_eq_true rfl,Or.inr ⟨Nat.le_of_ble_eq_true rfl,rfl⟩⟩,Nat.le_of_ble_eq_true rfl,?_⟩|refine⟨(6,O),⟨Nat.le_of_ble_eq_true rfl,Or.inr ⟨Nat.le_of_ble_eq_true rfl,rfl⟩⟩,Nat.le_of_ble_eq_true rfl,?_⟩|refine⟨(7,O),⟨Nat.le_of_ble_eq_true rfl,Or.inr ⟨Nat.le_of_ble_eq_true rfl,rfl⟩⟩,Nat.le_of_ble_eq_true rfl,?_⟩|refine⟨(8,O),⟨Nat.le_of_ble_eq_true rfl,Or.inr ⟨Nat.le_of_ble_eq_true rfl,rfl⟩⟩,Nat.le_of_ble_eq_true rfl,?_⟩
   all_goals
    conv=>whnf
    repeat (first|exact rfl|exact trivial|exact Or.inl (fun _ _=>rfl)|exact(fun _=>rfl)|exact(fun _ _=>rfl)|exact Or.inl (fun _ hi=>absurd hi (Nat.not_lt_zero _))|((first|refine And.intro rfl ?_|refine And.intro (Or.inl (fun _ _=>rfl)) ?_|refine And.intro (fun _=>rfl) ?_|refine And.intro (fun _ _=>rfl) ?_|(refine And.intro ?_ ?_;rotate_left));conv=>whnf))
def lE(A:Nat->Nat)(b:Nat):Nat->Nat
 | 0=>0
 | i+1=>(A i*b+lE A b i)/18446744073709551616
def xr(A:Nat->Nat)(b i:Nat):Nat:=(A i*b+lE A b i)%18446744073709551616
theorem AS(A:Nat->Nat)(b:Nat):cS (xr A b):=fun _=>Nat.mod_lt _ (by omega)
theorem GS{a b:Nat}(ha:a<18446744073709551616)(hb:b<18446744073709551616):a*b<=18446744073709551615*18446744073709551615:=Nat.mul_le_mul (by omega) (by omega)
theorem GU{A:Nat->Nat}{b:Nat}(hA:cS A)(hb:b<18446744073709551616):∀i,lE A b i<18446744073709551616
 | 0=>by show 0<_;omega
 | i+1=>by
  have h:=GU hA hb i;have m:=GS (hA i) hb;show(A i*b+lE A b i)/18446744073709551616<18446744073709551616;generalize A i*b=p at *;omega
theorem K4{A:Nat->Nat}{b:Nat}(hA:cS A)(h:wv A*b<65536 ^ 32):wv (xr A b)=wv A*b/\lE A b 8=0:=by
 have eA:=cc hA;have eS:=cc (AS A b);have e:∀i,A i*b+lE A b i=xr A b i+18446744073709551616*lE A b (i+1):=fun i=>(Nat.mod_add_div _ _).symm;have e0:A 0*b+lE A b 0=xr A b 0+18446744073709551616*lE A b 1:=e 0;have e1:A 1*b+lE A b 1=xr A b 1+18446744073709551616*lE A b 2:=e 1;have e2:A 2*b+lE A b 2=xr A b 2+18446744073709551616*lE A b 3:=e 2;have e3:A 3*b+lE A b 3=xr A b 3+18446744073709551616*lE A b 4:=e 3;have e4:A 4*b+lE A b 4=xr A b 4+18446744073709551616*lE A b 5:=e 4;have e5:A 5*b+lE A b 5=xr A b 5+18446744073709551616*lE A b 6:=e 5;have e6:A 6*b+lE A b 6=xr A b 6+18446744073709551616*lE A b 7:=e 6;have e7:A 7*b+lE A b 7=xr A b 7+18446744073709551616*lE A b 8:=e 7;have c0:lE A b 0=0:=rfl;rw[gy] at h;rw[eS];rw[eA] at h ⊢;simp only[Nat.add_mul,Nat.mul_add,Nat.mul_assoc] at h ⊢;generalize A 0*b=p0 at *;generalize A 1*b=p1 at *;generalize A 2*b=p2 at *;generalize A 3*b=p3 at *;generalize A 4*b=p4 at *;generalize A 5*b=p5 at *;generalize A 6*b=p6 at *;generalize A 7*b=p7 at *;clear eA eS e;omega
theorem jI{b:Nat}(h:b<18446744073709551616):aB b=jH b:=by
 have hl:=fun j=>GM h j;unfold aB aD jH;rw[hl 0,hl 1,hl 2,hl 3,hl 4,hl 5,hl 6,hl 7];rfl
theorem mul_zero(A:Nat->Nat):aa Tryz.prog G 233 [aD A,jH 0] (.tup [jH 0,.sb true]):=by
 unfold aD jH at *;refine aa.aj ak Tryz.func233 rfl rfl _ rfl ?_;(conv=>whnf)
 repeat (first|(refine st ?_;conv=>whnf))
 refine al (fun i:Nat=>i<=8) (fun i=>[(7,.sb true),(13,.int .i64 (i:Int))]) (fun i=>[jG A,Rr 0,jG (fun _=>0),jG (fun _=>0)]) (fun i=>8-i) 0 (by omega) ?_ ?_
 ·conv=>whnf
  repeat (first|exact fa|((first|refine fb ?_|(refine And.intro ?_ ?_;rotate_left));conv=>whnf))
 ·intro i hi;have e:i=0\/i=1\/i=2\/i=3\/i=4\/i=5\/i=6\/i=7\/i=8:=by omega
  rcases e with rfl|rfl|rfl|rfl|rfl|rfl|rfl|rfl|rfl
  all_goals
   (conv=>whnf);repeat' ((first|(exact absurd (rfl:(0:Int)=0) (by assumption))|(exact absurd (rfl:((0:Nat):Int)=0) (by assumption))|refine st ?_|(refine⟨fun h=>?_,fun h=>?_⟩<;>try simp only[af] at h)|refine wf ?_|refine aA ?_|refine nn ?_|fail)<;>conv=>whnf)
  all_goals first|contradiction|(exfalso;omega)|skip
  all_goals first|refine⟨1,by decide,by decide,?_⟩|refine⟨2,by decide,by decide,?_⟩|refine⟨3,by decide,by decide,?_⟩|refine⟨4,by decide,by decide,?_⟩|refine⟨5,by decide,by decide,?_⟩|refine⟨6,by decide,by decide,?_⟩|refine⟨7,by decide,by decide,?_⟩|refine⟨8,by decide,by decide,?_⟩
  all_goals
   conv=>whnf
   repeat (first|exact fa|((first|refine fb ?_|(refine And.intro ?_ ?_;rotate_left));conv=>whnf))
theorem En(v b:Nat)(hv:v<65536 ^ 32)(hb:b<18446744073709551616)(h:v*b<65536 ^ 32):aa Tryz.prog G 233 [aB v,aB b] (.tup [aB (v*b),.sb true]):=by
 by_cases h0:b=0
 ·subst h0;have h1:aB 0=jH 0:=jI (by omega);rw[Nat.mul_zero,h1];exact mul_zero (wW v)
 ·obtain⟨h1,h2⟩:=K4 (b:=b) (cj v) (by rw[eI hv];exact h);rw[eI hv] at h1
  have hr:=K2 (G:=G) (wW v) (lE (wW v) b) (fun i=>wW v i*b/18446744073709551616) (fun i=>wW v i*b%18446744073709551616) (fun i=>(wW v i*b%18446744073709551616+lE (wW v) b i)/18446744073709551616) (xr (wW v) b) b rfl h2
   (fun i _=>by
    have m:=GS (cj v i) hb;have c:=GU (cj v) hb i;show(wW v i*b+lE (wW v) b i)/18446744073709551616=wW v i*b/18446744073709551616+(wW v i*b%18446744073709551616+lE (wW v) b i)/18446744073709551616/\wW v i*b/18446744073709551616+(wW v i*b%18446744073709551616+lE (wW v) b i)/18446744073709551616<18446744073709551616;generalize wW v i*b=p at *;generalize lE (wW v) b i=q at *;omega)
   (fun i _=>jE _ _ (cj v i) hb)
   (fun i _=>by
    have k:=AR (G:=G) (wW v i*b%18446744073709551616) (lE (wW v) b i) 0 (by omega);rw[show wW v i*b%18446744073709551616+lE (wW v) b i+0=wW v i*b%18446744073709551616+lE (wW v) b i from rfl] at k
    have e:(wW v i*b%18446744073709551616+lE (wW v) b i)%18446744073709551616=xr (wW v) b i:=by
     unfold xr;generalize wW v i*b=p;generalize lE (wW v) b i=q;omega
    rw[e] at k;exact k)
   (fun i _=>by
    have k:=AR (G:=G) (xr (wW v) b i) 0 0 (by omega);have z:=AS (wW v) b i;rw[show xr (wW v) b i+0+0=xr (wW v) b i from rfl,Nat.mod_eq_of_lt z,Nat.div_eq_of_lt z] at k;exact k)
  have g:=K3 (wW v) (xr (wW v) b) b h0 hr;rw[jI hb];rw[qY (AS _ _),h1] at g;exact g
theorem nN(b:Nat):aa Tryz.prog G 166 [.int .u64 (b:Int)] (jH b):=by
 unfold jH;refine aa.aj ak Tryz.func166 rfl rfl _ rfl ?_;(conv=>whnf);repeat' ((first|refine st ?_|(refine⟨fun h=>?_,fun h=>?_⟩<;>try simp only[af] at h)|refine wf ?_|refine aA ?_|refine nn ?_|fail)<;>conv=>whnf)
theorem iH(v:Nat)(hv:v<65536 ^ 32):aa Tryz.prog G 109 [aB v] (.sb (decide (v=0))):=by
 have key:((((wW v 0:Nat):Int)==0&&(((wW v 1:Nat):Int)==0&&(((wW v 2:Nat):Int)==0&&(((wW v 3:Nat):Int)==0&&(((wW v 4:Nat):Int)==0&&(((wW v 5:Nat):Int)==0&&(((wW v 6:Nat):Int)==0&&(((wW v 7:Nat):Int)==0&&true))))))))=decide (v=0)):=by
  rw[Bool.eq_iff_iff,decide_eq_true_iff];simp only[Bool.and_eq_true,beq_iff_eq,and_true];constructor
  ·rintro⟨z0,z1,z2,z3,z4,z5,z6,z7⟩;exact KY hv (by omega) (by omega) (by omega) (by omega) (by omega) (by omega) (by omega) (by omega)
  ·rintro rfl;simp[wW]
 unfold aB aD;generalize wW v=V at *;generalize decide (v=0)=z at *;refine aa.aj ak Tryz.func109 rfl rfl _ rfl ?_;(conv=>whnf);repeat' ((first|refine st ?_|(refine⟨fun h=>?_,fun h=>?_⟩<;>try simp only[af] at h)|refine wf ?_|refine aA ?_|refine nn ?_|fail)<;>conv=>whnf)
 all_goals first|exact key
def XC(Q:Nat->Nat)(t j:Nat):Nat:=if 8<=j+t then Q j else 0
theorem Eo(A Q R:Nat->Nat)(y:Nat)(h8:R 8=0)(hd:∀j,j<8->aa Tryz.prog G 268 [.int .u64 (R (j+1):Int),.int .u64 (A j:Int),.int .u64 (y:Int)] (.tup [.int .u64 (Q j:Int),.int .u64 (R j:Int),.sb true])):
  aa Tryz.prog G 228 [aD A,.int .u64 (y:Int)] (.tup [aD Q,jH (R 0)]):=by
 have ho:=nN (G:=G) (R 0);unfold aD jH at *;refine aa.aj ak Tryz.func228 rfl rfl _ rfl ?_;(conv=>whnf)
 repeat (first|(refine st ?_;conv=>whnf))
 refine al (fun t:Nat=>t<=8) (fun t=>[(6,.int .u64 (R (8-t):Int)),(7,.int .i64 (7-(t:Int)))]) (fun t=>[jG A,jG (XC Q t),jG (fun _=>0)]) (fun t=>8-t) 0 (by omega) ?_ ?_
 ·conv=>whnf
  repeat (first|exact fa|((first|refine fb ?_|(refine And.intro ?_ ?_;rotate_left));conv=>whnf))
  all_goals first|exact(congrArg Nat.cast h8).symm
 ·intro i hi;have e:i=0\/i=1\/i=2\/i=3\/i=4\/i=5\/i=6\/i=7\/i=8:=by omega
  rcases e with rfl|rfl|rfl|rfl|rfl|rfl|rfl|rfl|rfl
  all_goals
   (conv=>whnf);repeat' ((first|refine st ?_|(refine⟨fun h=>?_,fun h=>?_⟩<;>try simp only[af] at h)|(refine .inl ?_;(conv=>whnf);(first|refine⟨_,hd _ (by omega),?_⟩|refine⟨_,ho,?_⟩))|refine wf ?_|refine aA ?_|refine nn ?_|fail)<;>conv=>whnf)
  all_goals first|contradiction|(exfalso;omega)|skip
  all_goals first|refine⟨1,by decide,by decide,?_⟩|refine⟨2,by decide,by decide,?_⟩|refine⟨3,by decide,by decide,?_⟩|refine⟨4,by decide,by decide,?_⟩|refine⟨5,by decide,by decide,?_⟩|refine⟨6,by decide,by decide,?_⟩|refine⟨7,by decide,by decide,?_⟩|refine⟨8,by decide,by decide,?_⟩
  all_goals
   conv=>whnf
   repeat (first|exact fa|((first|refine fb ?_|(refine And.intro ?_ ?_;rotate_left));conv=>whnf))
/-- The rests, from the top. -/
def lF(A:Nat->Nat)(y:Nat):Nat->Nat
 | 0=>0
 | k+1=>(lF A y k*18446744073709551616+A (7-k))%y
def so(A:Nat->Nat)(y j:Nat):Nat:=(lF A y (7-j)*18446744073709551616+A j)/y
theorem AU{A:Nat->Nat}{y:Nat}(hy:0<y):∀k,lF A y k<y
 | 0=>hy
 | _+1=>Nat.mod_lt _ hy
theorem GV{A:Nat->Nat}{y:Nat}(hA:cS A)(hy:0<y)(j:Nat):so A y j<18446744073709551616:=by
 unfold so;rw[Nat.div_lt_iff_lt_mul hy];have h1:=AU (A:=A) hy (7-j);have h2:=hA j;omega
theorem Ep{A:Nat->Nat}{y:Nat}(hA:cS A)(hy:0<y):wv (so A y)=wv A/y/\lF A y 8=wv A%y:=by
 have eA:=cc hA;have eS:=cc (GV hA hy)
 have e:∀j,j<8->y*so A y j+lF A y (8-j)=lF A y (7-j)*18446744073709551616+A j:=fun j hj=>by
  have h:lF A y (8-j)=(lF A y (7-j)*18446744073709551616+A j)%y:=by
   rw[show 8-j=(7-j)+1 by omega];show(lF A y (7-j)*18446744073709551616+A (7-(7-j)))%y=_;rw[show 7-(7-j)=j by omega]
  rw[h];exact Nat.div_add_mod _ _
 have e0:y*so A y 0+lF A y 8=lF A y 7*18446744073709551616+A 0:=e 0 (by omega);have e1:y*so A y 1+lF A y 7=lF A y 6*18446744073709551616+A 1:=e 1 (by omega);have e2:y*so A y 2+lF A y 6=lF A y 5*18446744073709551616+A 2:=e 2 (by omega);have e3:y*so A y 3+lF A y 5=lF A y 4*18446744073709551616+A 3:=e 3 (by omega);have e4:y*so A y 4+lF A y 4=lF A y 3*18446744073709551616+A 4:=e 4 (by omega);have e5:y*so A y 5+lF A y 3=lF A y 2*18446744073709551616+A 5:=e 5 (by omega);have e6:y*so A y 6+lF A y 2=lF A y 1*18446744073709551616+A 6:=e 6 (by omega);have e7:y*so A y 7+lF A y 1=lF A y 0*18446744073709551616+A 7:=e 7 (by omega);have c0:lF A y 0=0:=rfl;have aI:=AU (A:=A) hy 8
 have key:wv A=y*wv (so A y)+lF A y 8:=by
  rw[eS,eA];simp only[Nat.mul_add,Nat.mul_left_comm y,Nat.add_mul,Nat.mul_assoc];generalize y*so A y 0=p0 at *;generalize y*so A y 1=p1 at *;generalize y*so A y 2=p2 at *;generalize y*so A y 3=p3 at *;generalize y*so A y 4=p4 at *;generalize y*so A y 5=p5 at *;generalize y*so A y 6=p6 at *;generalize y*so A y 7=p7 at *;clear eA eS e;omega
 rw[key];constructor
 ·rw[Nat.mul_add_div hy,Nat.div_eq_of_lt aI,Nat.add_zero]
 ·rw[Nat.mul_add_mod,Nat.mod_eq_of_lt aI]
theorem K5(v y:Nat)(hv:v<65536 ^ 32)(hy:0<y)(Er:y<18446744073709551616):aa Tryz.prog G 228 [aB v,.int .u64 (y:Int)] (.tup [aB (v/y),aB (v%y)]):=by
 obtain⟨h1,h2⟩:=Ep (cj v) hy;rw[eI hv] at h1 h2
 have g:=Eo (G:=G) (wW v) (so (wW v) y) (fun j=>lF (wW v) y (8-j)) y rfl (fun j hj=>by
  have k:=yd (G:=G) (lF (wW v) y (7-j)) (wW v j) y (cj v j) Er (AU hy _)
  have e1:lF (wW v) y (8-j)=(lF (wW v) y (7-j)*18446744073709551616+wW v j)%y:=by
   rw[show 8-j=(7-j)+1 by omega];show(lF (wW v) y (7-j)*18446744073709551616+wW v (7-(7-j)))%y=_;rw[show 7-(7-j)=j by omega]
  show aa Tryz.prog G 268 [.int .u64 ((lF (wW v) y (8-(j+1)):Nat):Int),.int .u64 ((wW v j:Nat):Int),.int .u64 (y:Int)] (.tup [.int .u64 ((so (wW v) y j:Nat):Int),.int .u64 ((lF (wW v) y (8-j):Nat):Int),.sb true]);rw[e1,show 8-(j+1)=7-j by omega];exact k)
 have hr:v%y<18446744073709551616:=Nat.lt_trans (Nat.mod_lt _ hy) Er;rw[qY (GV (cj v) hy),h1,show lF (wW v) y (8-0)=v%y from h2,<-jI hr] at g;exact g
/-- Quotient and rest by one word. -/
theorem vT(v y:Nat)(hv:v<65536 ^ 32)(hy:0<y)(Er:y<18446744073709551616):aa Tryz.prog G 163 [aB v,aB y] (.tup [aB (v/y),aB (v%y),.int .i64 0]):=by
 have hz:=iH (G:=G) y (by rw[gy];omega);rw[decide_eq_false (by omega)] at hz;have hs:=K5 (G:=G) v y hv hy Er;have ho:=nN (G:=G) y;rw[jI Er] at hz ⊢;unfold aB aD jH at *;generalize wW (v/y)=VQ at *;generalize wW (v%y)=VR at *;generalize wW v=V at *;have XD:(((y:Int)==y)&&(((0:Int)==0)&&(((0:Int)==0)&&(((0:Int)==0)&&(((0:Int)==0)&&(((0:Int)==0)&&(((0:Int)==0)&&(((0:Int)==0)&&true))))))))=true:=by simp
 refine aa.aj ak Tryz.func163 rfl rfl _ rfl ?_;(conv=>whnf);repeat' ((first|(exact Bool.noConfusion (XD.symm.trans (by assumption)))|refine st ?_|(refine⟨fun h=>?_,fun h=>?_⟩<;>try simp only[af] at h)|(refine .inl ?_;(conv=>whnf);(first|refine⟨_,hz,?_⟩|refine⟨_,hs,?_⟩|refine⟨_,ho,?_⟩))|refine wf ?_|refine aA ?_|refine nn ?_|fail)<;>conv=>whnf)
 all_goals first|contradiction|(exfalso;omega)|skip
def dJ(a b:Nat):Int:=if a<b then -1 else if b<a then 1 else 0
theorem GW{a b:Nat}:dJ a b=0↔a=b:=by
 unfold dJ;split
 ·omega
 ·split<;>omega
theorem AV(a b:Nat):aa Tryz.prog G 199 [.int .u64 (a:Int),.int .u64 (b:Int)] (.int .i64 (dJ a b)):=by
 have hn:∀z:Nat,aa Tryz.prog G 265 [.int .u64 (z:Int)] (.sb false):=fun z=>by
  refine aa.aj ak Tryz.func265 rfl rfl _ rfl ?_;(conv=>whnf);repeat' ((first|refine st ?_|(refine⟨fun h=>?_,fun h=>?_⟩<;>try simp only[af] at h)|refine wf ?_|refine aA ?_|refine nn ?_|fail)<;>conv=>whnf)
  all_goals first|contradiction|(exfalso;omega)|(simp;done)
 refine aa.aj ak Tryz.func199 rfl rfl _ rfl ?_;(conv=>whnf);repeat' ((first|refine st ?_|(refine⟨fun h=>?_,fun h=>?_⟩<;>try simp only[af] at h)|(refine .inl ?_;(conv=>whnf);(first|refine⟨_,hn a,?_⟩|refine⟨_,hn b,?_⟩))|refine wf ?_|refine aA ?_|refine nn ?_|fail)<;>conv=>whnf)
 all_goals first|contradiction|(exfalso;omega)|skip
 all_goals first|(unfold dJ;rw[if_pos (by omega)];done)|(unfold dJ;rw[if_neg (by omega),if_pos (by omega)];done)|(unfold dJ;rw[if_neg (by omega),if_neg (by omega)];done)
theorem Ot{A B:Nat->Nat}(hA:cS A)(hB:cS B)(j:Nat)(hj:j<8)(he:∀k,j<k->k<8->A k=B k)(hne:A j≠B j):dJ (A j) (B j)=dJ (wv A) (wv B):=by
 have eA:=cc hA;have eB:=cc hB;have a0:=hA 0;have a1:=hA 1;have a2:=hA 2;have a3:=hA 3;have a4:=hA 4;have a5:=hA 5;have a6:=hA 6;have b0:=hB 0;have b1:=hB 1;have b2:=hB 2;have b3:=hB 3;have b4:=hB 4;have b5:=hB 5;have b6:=hB 6
 have key:(A j<B j->wv A<wv B)/\(B j<A j->wv B<wv A):=by
  generalize wv A=a at *;generalize wv B=b at *
  match j,hj with
  | 0,_ =>
   have e1:=he 1 (by omega) (by omega);have e2:=he 2 (by omega) (by omega);have e3:=he 3 (by omega) (by omega);have e4:=he 4 (by omega) (by omega);have e5:=he 5 (by omega) (by omega);have e6:=he 6 (by omega) (by omega);have e7:=he 7 (by omega) (by omega);constructor<;>intro h<;>omega
  | 1,_ =>
   have e2:=he 2 (by omega) (by omega);have e3:=he 3 (by omega) (by omega);have e4:=he 4 (by omega) (by omega);have e5:=he 5 (by omega) (by omega);have e6:=he 6 (by omega) (by omega);have e7:=he 7 (by omega) (by omega);constructor<;>intro h<;>omega
  | 2,_ =>
   have e3:=he 3 (by omega) (by omega);have e4:=he 4 (by omega) (by omega);have e5:=he 5 (by omega) (by omega);have e6:=he 6 (by omega) (by omega);have e7:=he 7 (by omega) (by omega);constructor<;>intro h<;>omega
  | 3,_ =>
   have e4:=he 4 (by omega) (by omega);have e5:=he 5 (by omega) (by omega);have e6:=he 6 (by omega) (by omega);have e7:=he 7 (by omega) (by omega);constructor<;>intro h<;>omega
  | 4,_ =>
   have e5:=he 5 (by omega) (by omega);have e6:=he 6 (by omega) (by omega);have e7:=he 7 (by omega) (by omega);constructor<;>intro h<;>omega
  | 5,_ =>
   have e6:=he 6 (by omega) (by omega);have e7:=he 7 (by omega) (by omega);constructor<;>intro h<;>omega
  | 6,_ =>
   have e7:=he 7 (by omega) (by omega);constructor<;>intro h<;>omega
  | 7,_ =>
   constructor<;>intro h<;>omega
 unfold dJ;rcases Nat.lt_or_ge (A j) (B j) with q|q
 ·rw[if_pos q,if_pos (key.1 q)]
 ·have q2:B j<A j:=by omega
  have:=key.2 q2;rw[if_neg (by omega),if_pos q2,if_neg (by omega),if_pos this]
theorem yh(A B:Nat->Nat)(r:Int)(h1:∀j,j<8->(∀k,j<k->k<8->A k=B k)->A j≠B j->dJ (A j) (B j)=r)(h2:(∀k,k<8->A k=B k)->r=0):
  aa Tryz.prog G 172 [aD A,aD B] (.int .i64 r):=by
 have hc:=fun j=>AV (G:=G) (A j) (B j);unfold aD;refine aa.aj ak Tryz.func172 rfl rfl _ rfl ?_;(conv=>whnf)
 repeat (first|(refine st ?_;conv=>whnf))
 refine al (fun t:Nat=>t<=8/\∀k,8<=k+t->k<8->A k=B k) (fun t=>[(5,.int .i64 (7-(t:Int)))]) (fun t=>[jG A,jG B]) (fun t=>8-t) 0 ⟨by omega,fun k q1 q2=>by omega⟩ ?_ ?_
 ·conv=>whnf
  repeat (first|exact fa|((first|refine fb ?_|(refine And.intro ?_ ?_;rotate_left));conv=>whnf))
 ·rintro i ⟨hi,hE⟩;by_cases h8:i<8
  ·have g1:=h1 (7-i) (by omega) (fun k q1 q2=>hE k (by omega) q2);have g0:=GW (a:=A (7-i)) (b:=B (7-i));have c:=hc (7-i)
   have nx:A (7-i)=B (7-i)->∀k,8<=k+(i+1)->k<8->A k=B k:=fun q0 k q1 q2=>by
    by_cases q:k=7-i
    ·subst q;exact q0
    ·exact hE k (by omega) q2
   generalize dJ (A (7-i)) (B (7-i))=z at *;have e:i=0\/i=1\/i=2\/i=3\/i=4\/i=5\/i=6\/i=7:=by omega
   rcases e with rfl|rfl|rfl|rfl|rfl|rfl|rfl|rfl
   all_goals
    (conv=>whnf);repeat' ((first|refine st ?_|(refine⟨fun h=>?_,fun h=>?_⟩<;>try simp only[af] at h)|(refine .inl ?_;(conv=>whnf);refine⟨_,c,?_⟩)|refine wf ?_|refine aA ?_|refine nn ?_|fail)<;>conv=>whnf)
   all_goals first|contradiction|(exfalso;omega)|exact g1 (fun q=>absurd (g0.2 q) (by assumption))|skip
   all_goals first|refine⟨1,⟨by decide,nx (g0.1 (by assumption))⟩,by decide,?_⟩|refine⟨2,⟨by decide,nx (g0.1 (by assumption))⟩,by decide,?_⟩|refine⟨3,⟨by decide,nx (g0.1 (by assumption))⟩,by decide,?_⟩|refine⟨4,⟨by decide,nx (g0.1 (by assumption))⟩,by decide,?_⟩|refine⟨5,⟨by decide,nx (g0.1 (by assumption))⟩,by decide,?_⟩|refine⟨6,⟨by decide,nx (g0.1 (by assumption))⟩,by decide,?_⟩|refine⟨7,⟨by decide,nx (g0.1 (by assumption))⟩,by decide,?_⟩|refine⟨8,⟨by decide,nx (g0.1 (by assumption))⟩,by decide,?_⟩
   all_goals
    conv=>whnf
    repeat (first|exact fa|((first|refine fb ?_|(refine And.intro ?_ ?_;rotate_left));conv=>whnf))
  obtain rfl:i=8:=by omega
  have hr:=h2 (fun k q=>hE k (by omega) q);subst hr;(conv=>whnf);repeat' ((first|refine st ?_|(refine⟨fun h=>?_,fun h=>?_⟩<;>try simp only[af] at h)|refine wf ?_|refine aA ?_|refine nn ?_|fail)<;>conv=>whnf)
  all_goals first|contradiction|(exfalso;omega)|skip
theorem mh(v u:Nat)(hv:v<65536 ^ 32)(hu:u<65536 ^ 32):aa Tryz.prog G 172 [aB v,aB u] (.int .i64 (dJ v u)):=by
 refine yh (wW v) (wW u) _ (fun j hj he hne=>?_) (fun he=>?_)
 ·have:=Ot (cj v) (cj u) j hj he hne;rw[this,eI hv,eI hu]
 ·rw[GW];have ev:=eI hv;have eu:=eI hu;rw[<-ev,<-eu,cc (cj v),cc (cj u),he 0 (by omega),he 1 (by omega),he 2 (by omega),he 3 (by omega),he 4 (by omega),he 5 (by omega),he 6 (by omega),he 7 (by omega)]
theorem CH(a r:Nat)(ha:a<18446744073709551616)(hr:r<64):(IntKind.u64.wrap ((BitVec.ofInt IntKind.u64.bits ((a:Int).fdiv (2 ^ min (r:Int).toNat IntKind.u64.bits)) &&& BitVec.ofInt IntKind.u64.bits 1).toNat:Int)==1)=decide (a/2 ^ r%2=1):=by
 rw[nM r (by omega),lD];have hd:a/2 ^ r<18446744073709551616:=Nat.lt_of_le_of_lt (Nat.div_le_self _ _) ha;generalize a/2 ^ r=d at *
 have e1:(BitVec.ofInt IntKind.u64.bits (d:Int)).toNat=d:=by
  show(BitVec.ofInt 64 (d:Int)).toNat=d;rw[BitVec.toNat_ofInt];omega
 have e2:(BitVec.ofInt IntKind.u64.bits 1).toNat=1:=rfl
 have e3:(BitVec.ofInt IntKind.u64.bits (d:Int) &&& BitVec.ofInt IntKind.u64.bits 1).toNat=d%2:=by
  rw[BitVec.toNat_and,e1,e2,Nat.and_one_is_mod]
 rw[e3,dP _ (by omega),Bool.eq_iff_iff,beq_iff_eq,decide_eq_true_iff];omega
theorem Rs(V:Nat->Nat)(hV:cS V)(z:Int)(r:Nat)(hr:r<64)(hz:z=64*0+r):aa Tryz.prog G 278 [aD V,.int .i64 z] (.sb (decide (V 0/2 ^ r%2=1))):=by
 have t1:z.tdiv 64=0:=by rw[Int.tdiv_eq_ediv_of_nonneg (by omega)];omega
 have t2:z.tmod 64=r:=by rw[Int.tmod_eq_emod_of_nonneg (by omega)];omega
 have hb:=CH (V 0) r (hV 0) hr;unfold aD;refine aa.aj ak Tryz.func278 rfl rfl _ rfl ?_;(conv=>whnf);repeat' ((first|((rw[t1];conv=>whnf))|((rw[t2];conv=>whnf))|refine st ?_|(refine⟨fun h=>?_,fun h=>?_⟩<;>try simp only[af] at h)|refine wf ?_|refine aA ?_|refine nn ?_|fail)<;>conv=>whnf)
 all_goals first|contradiction|(exfalso;omega)|skip
 all_goals exact hb
theorem Rt(V:Nat->Nat)(hV:cS V)(z:Int)(r:Nat)(hr:r<64)(hz:z=64*1+r):aa Tryz.prog G 278 [aD V,.int .i64 z] (.sb (decide (V 1/2 ^ r%2=1))):=by
 have t1:z.tdiv 64=1:=by rw[Int.tdiv_eq_ediv_of_nonneg (by omega)];omega
 have t2:z.tmod 64=r:=by rw[Int.tmod_eq_emod_of_nonneg (by omega)];omega
 have hb:=CH (V 1) r (hV 1) hr;unfold aD;refine aa.aj ak Tryz.func278 rfl rfl _ rfl ?_;(conv=>whnf);repeat' ((first|((rw[t1];conv=>whnf))|((rw[t2];conv=>whnf))|refine st ?_|(refine⟨fun h=>?_,fun h=>?_⟩<;>try simp only[af] at h)|refine wf ?_|refine aA ?_|refine nn ?_|fail)<;>conv=>whnf)
 all_goals first|contradiction|(exfalso;omega)|skip
 all_goals exact hb
theorem Ru(v q r:Nat)(hr:r<64):wW v q/2 ^ r%2=v/2 ^ (64*q+r)%2:=by
 have hp:(18446744073709551616:Nat) ^ q=2 ^ (64*q):=by
  rw[show(18446744073709551616:Nat)=2 ^ 64 from rfl,<-Nat.pow_mul]
 have key:Nat.testBit (wW v q) r=Nat.testBit v (64*q+r):=by
  unfold wW;rw[hp,show(18446744073709551616:Nat)=2 ^ 64 from rfl,Nat.testBit_mod_two_pow,Nat.testBit_div_two_pow,decide_eq_true hr,Bool.true_and]
  try rw[Nat.add_comm]
 rw[Nat.testBit_eq_decide_div_mod_eq,Nat.testBit_eq_decide_div_mod_eq,decide_eq_decide] at key;omega
theorem Rv(v i:Nat)(hi:i<128):aa Tryz.prog G 278 [aB v,.int .i64 (i:Int)] (.sb (decide (v/2 ^ i%2=1))):=by
 by_cases h:i<64
 ·have h0:=Rs (G:=G) (wW v) (cj v) (i:Int) i h (by omega);rw[Ru v 0 i h,show 64*0+i=i by omega] at h0;exact h0
 ·have h1:=Rt (G:=G) (wW v) (cj v) (i:Int) (i-64) (by omega) (by omega);rw[Ru v 1 (i-64) (by omega),show 64*1+(i-64)=i by omega] at h1;exact h1
theorem Ou(v t:Nat)(ht:t<128)(hl:∀j,j<t->v/2 ^ j%2≠1)(hb:v/2 ^ t%2=1):aa Tryz.prog G 225 [aB v] (.int .i64 (t:Int)):=by
 have hc:=fun i h=>Rv (G:=G) v i h
 have hg:∀j,j<=t->decide (v/2 ^ j%2=1)=decide (j=t):=fun j hj=>by
  by_cases e:j=t
  ·subst e;rw[decide_eq_true hb,decide_eq_true rfl]
  ·rw[decide_eq_false (hl j (by omega)),decide_eq_false e]
 unfold aB aD at *;generalize wW v=V at *;refine aa.aj ak Tryz.func225 rfl rfl _ rfl ?_;(conv=>whnf)
 repeat (first|(refine st ?_;conv=>whnf))
 refine al (fun i:Nat=>i<=t) (fun i=>[(3,.int .i64 (i:Int))]) (fun i=>[jG V]) (fun i=>t-i) 0 (by omega) ?_ ?_
 ·conv=>whnf
  repeat (first|exact fa|((first|refine fb ?_|(refine And.intro ?_ ?_;rotate_left));conv=>whnf))
 ·intro i hi;have c:=hc i (by omega);rw[hg i hi] at c;clear hg hl hb hc;by_cases e:i=t
  ·subst e;rw[decide_eq_true rfl] at c;(conv=>whnf);repeat' ((first|refine st ?_|(refine⟨fun h=>?_,fun h=>?_⟩<;>try simp only[af] at h)|(refine .inl ?_;(conv=>whnf);refine⟨_,c,?_⟩)|refine wf ?_|refine aA ?_|refine nn ?_|fail)<;>conv=>whnf)
   all_goals first|contradiction|(exfalso;omega)|skip
  ·rw[decide_eq_false e] at c;(conv=>whnf);repeat' ((first|refine st ?_|(refine⟨fun h=>?_,fun h=>?_⟩<;>try simp only[af] at h)|(refine .inl ?_;(conv=>whnf);refine⟨_,c,?_⟩)|refine wf ?_|refine aA ?_|refine nn ?_|fail)<;>conv=>whnf)
   all_goals first|contradiction|(exfalso;omega)|skip
   refine⟨i+1,(by show i+1<=t;omega),(by show t-(i+1)<t-i;omega),?_⟩;(conv=>whnf)
   repeat (first|exact fa|((first|refine fb ?_|(refine And.intro ?_ ?_;rotate_left));conv=>whnf))
theorem lG:∀(n v:Nat),0<v->v<2 ^ n->∃t o,v=2 ^ t*o/\o%2=1/\t<n
 | 0,v,h,h2=>by rw[Nat.pow_zero] at h2;omega
 | n+1,v,h,h2=>by
  by_cases q:v%2=1
  ·exact⟨0,v,by rw[Nat.pow_zero,Nat.one_mul],q,by omega⟩
  ·obtain⟨t,o,h3,h4,h5⟩:=lG n (v/2) (by omega) (by rw[Nat.pow_succ] at h2;omega);refine⟨t+1,o,?_,h4,by omega⟩;rw[Nat.pow_succ,Nat.mul_assoc,Nat.mul_comm 2 o,<-Nat.mul_assoc,<-h3];omega
theorem yi{t o:Nat}(ho:o%2=1):(∀j,j<t->2 ^ t*o/2 ^ j%2≠1)/\2 ^ t*o/2 ^ t%2=1:=by
 constructor
 ·intro j hj;obtain⟨k,rfl⟩:∃k,t=k+1+j:=⟨t-j-1,by omega⟩;rw[Nat.pow_add,Nat.mul_comm (2 ^ (k+1)) (2 ^ j),Nat.mul_assoc,Nat.mul_div_cancel_left _ (Nat.pow_pos (by omega)),Nat.pow_succ,Nat.mul_comm (2 ^ k) 2,Nat.mul_assoc];omega
 ·rw[Nat.mul_div_cancel_left _ (Nat.pow_pos (by omega))];exact ho
theorem qZ(t o:Nat)(ht:t<128)(ho:o%2=1):aa Tryz.prog G 225 [aB (2 ^ t*o)] (.int .i64 (t:Int)) :=
 Ou _ t ht (yi ho).1 (yi ho).2
theorem FF(v k j:Nat):Nat.testBit (wW v k) j=(decide (j<64)&&Nat.testBit v (64*k+j)):=by
 have hp:(18446744073709551616:Nat) ^ k=2 ^ (64*k):=by
  rw[show(18446744073709551616:Nat)=2 ^ 64 from rfl,<-Nat.pow_mul]
 unfold wW;rw[hp,show(18446744073709551616:Nat)=2 ^ 64 from rfl,Nat.testBit_mod_two_pow,Nat.testBit_div_two_pow,Nat.add_comm j]
theorem Ov{m:Nat}(h:512<=m):65536 ^ 32<=2 ^ m:=by
 obtain⟨k,rfl⟩:∃k,m=256+(256+k):=⟨m-512,by omega⟩;have e:(65536:Nat) ^ 32=2 ^ 256*2 ^ 256:=by decide
 rw[Nat.pow_add,Nat.pow_add,e];exact Nat.mul_le_mul_left _ (Nat.le_mul_of_pos_right _ (Nat.pow_pos (Nat.zero_lt_succ 1)))
theorem CI{v m:Nat}(hv:v<65536 ^ 32)(h:512<=m):Nat.testBit v m=false:=Nat.testBit_lt_two_pow (Nat.lt_of_lt_of_le hv (Ov h))
theorem Es{v a b:Nat}(h:a=b):Nat.testBit v a=Nat.testBit v b:=by rw[h]
theorem CJ{v q r i:Nat}(hv:v<65536 ^ 32)(hr:r<64)(h:¬(0<r/\i+q+1<8))(h2:i+q<8):wW v (i+q)/2 ^ r=wW (v/2 ^ (64*q+r)) i:=by
 refine Nat.eq_of_testBit_eq fun j=>?_;rw[Nat.testBit_div_two_pow,FF,FF,Nat.testBit_div_two_pow];by_cases hj:j<64
 ·rw[decide_eq_true hj,Bool.true_and];by_cases uH:j+r<64
  ·rw[decide_eq_true uH,Bool.true_and];exact Es (by omega)
  ·rw[decide_eq_false uH,Bool.false_and];exact(CI hv (by omega)).symm
 ·rw[decide_eq_false hj,decide_eq_false (by omega)];rfl
theorem CL{v q r i:Nat}(hr:r<64)(h0:0<r):(wW v (i+q)/2 ^ r ||| wW v (i+q+1)*2 ^ (64-r)%18446744073709551616)=wW (v/2 ^ (64*q+r)) i:=by
 refine Nat.eq_of_testBit_eq fun j=>?_;rw[Nat.testBit_or,show(18446744073709551616:Nat)=2 ^ 64 from rfl,Nat.testBit_mod_two_pow,Nat.testBit_mul_two_pow,Nat.testBit_div_two_pow,FF,FF,FF,Nat.testBit_div_two_pow];by_cases hj:j<64
 ·rw[decide_eq_true hj,Bool.true_and,Bool.true_and];by_cases uH:j+r<64
  ·rw[decide_eq_true uH,decide_eq_false (show ¬64-r<=j by omega),Bool.true_and,Bool.false_and,Bool.or_false];exact Es (by omega)
  ·rw[decide_eq_false uH,decide_eq_true (show 64-r<=j by omega),decide_eq_true (show j-(64-r)<64 by omega),Bool.false_and,Bool.true_and,Bool.true_and,Bool.false_or];exact Es (by omega)
 ·rw[decide_eq_false hj,decide_eq_false (by omega)];rfl
theorem K6{v q r i:Nat}(hv:v<65536 ^ 32)(h:8<=i+q):wW (v/2 ^ (64*q+r)) i=0:=by
 refine Nat.eq_of_testBit_eq fun j=>?_;rw[FF,Nat.testBit_div_two_pow,CI hv (by omega),Bool.and_false,Nat.zero_testBit]
theorem GX{v q r i:Nat}(h:¬(0<r/\q<i))(h2:q<=i):wW v (i-q)*2 ^ r%18446744073709551616=wW (v*2 ^ (64*q+r)) i:=by
 refine Nat.eq_of_testBit_eq fun j=>?_;rw[show(18446744073709551616:Nat)=2 ^ 64 from rfl,Nat.testBit_mod_two_pow,Nat.testBit_mul_two_pow,FF,FF,Nat.testBit_mul_two_pow];by_cases hj:j<64
 ·rw[decide_eq_true hj,Bool.true_and,Bool.true_and];by_cases uH:r<=j
  ·rw[decide_eq_true uH,decide_eq_true (show j-r<64 by omega),decide_eq_true (show 64*q+r<=64*i+j by omega),Bool.true_and,Bool.true_and,Bool.true_and];exact Es (by omega)
  ·rw[decide_eq_false uH,decide_eq_false (show ¬64*q+r<=64*i+j by omega)];rfl
 ·rw[decide_eq_false hj];rfl
theorem GY{v q r i:Nat}(hr:r<64)(h0:0<r)(h:q<i):(wW v (i-q)*2 ^ r%18446744073709551616 ||| wW v (i-q-1)/2 ^ (64-r))=wW (v*2 ^ (64*q+r)) i:=by
 refine Nat.eq_of_testBit_eq fun j=>?_;rw[Nat.testBit_or,show(18446744073709551616:Nat)=2 ^ 64 from rfl,Nat.testBit_mod_two_pow,Nat.testBit_mul_two_pow,Nat.testBit_div_two_pow,FF,FF,FF,Nat.testBit_mul_two_pow];by_cases hj:j<64
 ·rw[decide_eq_true hj,Bool.true_and,Bool.true_and,decide_eq_true (show 64*q+r<=64*i+j by omega),Bool.true_and];by_cases uH:r<=j
  ·rw[decide_eq_true uH,decide_eq_true (show j-r<64 by omega),decide_eq_false (show ¬j+(64-r)<64 by omega),Bool.true_and,Bool.true_and,Bool.false_and,Bool.or_false];exact Es (by omega)
  ·rw[decide_eq_false uH,decide_eq_true (show j+(64-r)<64 by omega),Bool.false_and,Bool.true_and,Bool.false_or];exact Es (by omega)
 ·rw[decide_eq_false hj,decide_eq_false (show ¬j+(64-r)<64 by omega)];rfl
theorem Ow{v q r i:Nat}(h:i<q):wW (v*2 ^ (64*q+r)) i=0:=by
 refine Nat.eq_of_testBit_eq fun j=>?_;rw[FF,Nat.testBit_mul_two_pow,Nat.zero_testBit];by_cases hj:j<64
 ·rw[decide_eq_false (show ¬64*q+r<=64*i+j by omega)];simp
 ·rw[decide_eq_false hj];rfl
theorem bA(a r:Nat)(hr:r<64):(a:Int).fdiv (2 ^ min (r:Int).toNat IntKind.u64.bits)=((a/2 ^ r:Nat):Int):=by
 rw[nM r (by omega),lD]
theorem dg(a r:Nat)(hr:r<=64):(a:Int).fdiv (2 ^ min (64-(r:Int)).toNat IntKind.u64.bits)=((a/2 ^ (64-r):Nat):Int):=by
 rw[AO r hr,lD]
theorem bB(a r:Nat)(hr:r<64):IntKind.u64.wrap ((a:Int)*2 ^ min (r:Int).toNat IntKind.u64.bits)=((a*2 ^ r%18446744073709551616:Nat):Int):=by
 rw[nM r (by omega),<-Int.natCast_mul,CC]
theorem dh(a r:Nat)(hr:r<=64):IntKind.u64.wrap ((a:Int)*2 ^ min (64-(r:Int)).toNat IntKind.u64.bits)=((a*2 ^ (64-r)%18446744073709551616:Nat):Int):=by
 rw[AO r hr,<-Int.natCast_mul,CC]
theorem or_val{x y z:Nat}(hx:x<18446744073709551616)(hy:y<18446744073709551616)(h:(x ||| y)=z)(hz:z<18446744073709551616):IntKind.u64.wrap ((BitVec.ofInt IntKind.u64.bits (x:Int) ||| BitVec.ofInt IntKind.u64.bits (y:Int)).toNat:Int)=(z:Int):=by
 rw[Rj x y hx hy (by rw[h];exact hz),h]
theorem bF{a r:Nat}(ha:a<18446744073709551616):a/2 ^ r<18446744073709551616:=Nat.lt_of_le_of_lt (Nat.div_le_self _ _) ha
theorem GZ(V O:Nat->Nat)(hV:cS V)(hO:cS O)(z:Int)(r:Nat)(hr:r<64)(hz:z=64*0+r)
  (o1:∀i,¬(0<r/\i+0+1<8)->i+0<8->V (i+0)/2 ^ r=O i) (o2:∀i,0<r->i+0+1<8->(V (i+0)/2 ^ r ||| V (i+0+1)*2 ^ (64-r)%18446744073709551616)=O i) :
  aa Tryz.prog G 279 [aD V,.int .i64 z] (aD (MY O 8)):=by
 have t1:z.tdiv 64=0:=by rw[Int.tdiv_eq_ediv_of_nonneg (by omega)];omega
 have t2:z.tmod 64=r:=by rw[Int.tmod_eq_emod_of_nonneg (by omega)];omega
 unfold aD;refine aa.aj ak Tryz.func279 rfl rfl _ rfl ?_;(conv=>whnf);repeat' (first|((rw[t1,t2];conv=>whnf))|refine cB ?_|refine bm ?_|((first|refine aS ak ?_|refine bI ak mixed ?_|refine bJ ?_|refine bK ?_|refine bL ?_|refine cC ?_);conv=>whnf)|(refine And.intro (fun h=>?_) (fun h=>?_)<;>(try simp only[af] at h)<;>conv=>whnf)|(refine cM ?_ ?_;(focus (first|exact cN (by omega)|exact cO (by omega)|exact eG (by omega)|exact cW (by omega)|exact cX (by omega)));conv=>whnf)|((first|refine b9 ?_|(refine And.intro (a:=bG _ _=true) ?_ ?_;(focus kernel_rfl))|refine And.intro rfl ?_|(refine And.intro ?_ ?_;(focus (first|omega|decide|(dsimp only;omega)|(simp at *;omega)))));conv=>whnf))
 all_goals first|contradiction|(exfalso;omega)|skip
 refine al (fun i:Nat=>i<=8) (fun i=>[(15,.int .i64 (i:Int))]) (fun i=>[jG V,jG (fun _=>0),jG (MY O i)]) (fun i=>8-i) 0 (by omega) ?_ ?_
 ·conv=>whnf
  repeat (first|exact rfl|exact trivial|exact Or.inl (fun _ _=>rfl)|exact(fun _=>rfl)|exact(fun _ _=>rfl)|exact Or.inl (fun _ hi=>absurd hi (Nat.not_lt_zero _))|((first|refine And.intro rfl ?_|refine And.intro (Or.inl (fun _ _=>rfl)) ?_|refine And.intro (fun _=>rfl) ?_|refine And.intro (fun _ _=>rfl) ?_|(refine And.intro ?_ ?_;rotate_left));conv=>whnf))
 ·intro i hi;have e:i=0\/i=1\/i=2\/i=3\/i=4\/i=5\/i=6\/i=7\/i=8:=by omega
  have p0:¬(0<r/\1<8)->V 0/2 ^ r=O 0:=fun h=>o1 0 h (by omega);have q0:0<r->(V 0/2 ^ r ||| V 1*2 ^ (64-r)%18446744073709551616)=O 0:=fun h=>o2 0 h (by omega);have p1:¬(0<r/\2<8)->V 1/2 ^ r=O 1:=fun h=>o1 1 h (by omega);have q1:0<r->(V 1/2 ^ r ||| V 2*2 ^ (64-r)%18446744073709551616)=O 1:=fun h=>o2 1 h (by omega);have p2:¬(0<r/\3<8)->V 2/2 ^ r=O 2:=fun h=>o1 2 h (by omega);have q2:0<r->(V 2/2 ^ r ||| V 3*2 ^ (64-r)%18446744073709551616)=O 2:=fun h=>o2 2 h (by omega);have p3:¬(0<r/\4<8)->V 3/2 ^ r=O 3:=fun h=>o1 3 h (by omega);have q3:0<r->(V 3/2 ^ r ||| V 4*2 ^ (64-r)%18446744073709551616)=O 3:=fun h=>o2 3 h (by omega);have p4:¬(0<r/\5<8)->V 4/2 ^ r=O 4:=fun h=>o1 4 h (by omega);have q4:0<r->(V 4/2 ^ r ||| V 5*2 ^ (64-r)%18446744073709551616)=O 4:=fun h=>o2 4 h (by omega);have p5:¬(0<r/\6<8)->V 5/2 ^ r=O 5:=fun h=>o1 5 h (by omega);have q5:0<r->(V 5/2 ^ r ||| V 6*2 ^ (64-r)%18446744073709551616)=O 5:=fun h=>o2 5 h (by omega);have p6:¬(0<r/\7<8)->V 6/2 ^ r=O 6:=fun h=>o1 6 h (by omega);have q6:0<r->(V 6/2 ^ r ||| V 7*2 ^ (64-r)%18446744073709551616)=O 6:=fun h=>o2 6 h (by omega);have p7:¬(0<r/\8<8)->V 7/2 ^ r=O 7:=fun h=>o1 7 h (by omega);clear o1 o2;rcases e with rfl|rfl|rfl|rfl|rfl|rfl|rfl|rfl|rfl
  all_goals
   (conv=>whnf);repeat' (first|refine cB ?_|refine bm ?_|((first|refine aS ak ?_|refine bI ak mixed ?_|refine bJ ?_|refine bK ?_|refine bL ?_|refine cC ?_);conv=>whnf)|(refine And.intro (fun h=>?_) (fun h=>?_)<;>(try simp only[af] at h)<;>conv=>whnf)|(refine cM ?_ ?_;(focus (first|exact cN (by omega)|exact cO (by omega)|exact eG (by omega)|exact cW (by omega)|exact cX (by omega)));conv=>whnf)|((first|refine b9 ?_|(refine And.intro (a:=bG _ _=true) ?_ ?_;(focus kernel_rfl))|refine And.intro rfl ?_|(refine And.intro ?_ ?_;(focus (first|omega|decide|(dsimp only;omega)|(simp at *;omega)))));conv=>whnf))
  all_goals first|contradiction|(exfalso;omega)|skip
  all_goals first|refine⟨1,by decide,by decide,?_⟩|refine⟨2,by decide,by decide,?_⟩|refine⟨3,by decide,by decide,?_⟩|refine⟨4,by decide,by decide,?_⟩|refine⟨5,by decide,by decide,?_⟩|refine⟨6,by decide,by decide,?_⟩|refine⟨7,by decide,by decide,?_⟩|refine⟨8,by decide,by decide,?_⟩
  all_goals
   conv=>whnf
   repeat (first|exact rfl|exact trivial|exact Or.inl (fun _ _=>rfl)|exact(fun _=>rfl)|exact(fun _ _=>rfl)|exact Or.inl (fun _ hi=>absurd hi (Nat.not_lt_zero _))|((first|refine And.intro rfl ?_|refine And.intro (Or.inl (fun _ _=>rfl)) ?_|refine And.intro (fun _=>rfl) ?_|refine And.intro (fun _ _=>rfl) ?_|(refine And.intro ?_ ?_;rotate_left));conv=>whnf))
   all_goals first
    | (rw[bA _ _ hr,dh _ _ (by omega)];exact or_val (bF (hV 0)) (Nat.mod_lt _ (by omega)) (q0 (by omega)) (hO 0))
    | (rw[bA _ _ hr,dh _ _ (by omega)];exact or_val (bF (hV 1)) (Nat.mod_lt _ (by omega)) (q1 (by omega)) (hO 1))
    | (rw[bA _ _ hr,dh _ _ (by omega)];exact or_val (bF (hV 2)) (Nat.mod_lt _ (by omega)) (q2 (by omega)) (hO 2))
    | (rw[bA _ _ hr,dh _ _ (by omega)];exact or_val (bF (hV 3)) (Nat.mod_lt _ (by omega)) (q3 (by omega)) (hO 3))
    | (rw[bA _ _ hr,dh _ _ (by omega)];exact or_val (bF (hV 4)) (Nat.mod_lt _ (by omega)) (q4 (by omega)) (hO 4))
    | (rw[bA _ _ hr,dh _ _ (by omega)];exact or_val (bF (hV 5)) (Nat.mod_lt _ (by omega)) (q5 (by omega)) (hO 5))
    | (rw[bA _ _ hr,dh _ _ (by omega)];exact or_val (bF (hV 6)) (Nat.mod_lt _ (by omega)) (q6 (by omega)) (hO 6))
    | (rw[bA _ _ hr];exact congrArg Nat.cast (p0 (by omega)))
    | (rw[bA _ _ hr];exact congrArg Nat.cast (p1 (by omega)))
    | (rw[bA _ _ hr];exact congrArg Nat.cast (p2 (by omega)))
    | (rw[bA _ _ hr];exact congrArg Nat.cast (p3 (by omega)))
    | (rw[bA _ _ hr];exact congrArg Nat.cast (p4 (by omega)))
    | (rw[bA _ _ hr];exact congrArg Nat.cast (p5 (by omega)))
    | (rw[bA _ _ hr];exact congrArg Nat.cast (p6 (by omega)))
    | (rw[bA _ _ hr];exact congrArg Nat.cast (p7 (by omega)))
       
theorem G0(V O:Nat->Nat)(hV:cS V)(hO:cS O)(z:Int)(r:Nat)(hr:r<64)(hz:z=64*1+r)
  (o1:∀i,¬(0<r/\i+1+1<8)->i+1<8->V (i+1)/2 ^ r=O i) (o2:∀i,0<r->i+1+1<8->(V (i+1)/2 ^ r ||| V (i+1+1)*2 ^ (64-r)%18446744073709551616)=O i) :
  aa Tryz.prog G 279 [aD V,.int .i64 z] (aD (MY O 7)):=by
 have t1:z.tdiv 64=1:=by rw[Int.tdiv_eq_ediv_of_nonneg (by omega)];omega
 have t2:z.tmod 64=r:=by rw[Int.tmod_eq_emod_of_nonneg (by omega)];omega
 unfold aD;refine aa.aj ak Tryz.func279 rfl rfl _ rfl ?_;(conv=>whnf);repeat' (first|((rw[t1,t2];conv=>whnf))|refine cB ?_|refine bm ?_|((first|refine aS ak ?_|refine bI ak mixed ?_|refine bJ ?_|refine bK ?_|refine bL ?_|refine cC ?_);conv=>whnf)|(refine And.intro (fun h=>?_) (fun h=>?_)<;>(try simp only[af] at h)<;>conv=>whnf)|(refine cM ?_ ?_;(focus (first|exact cN (by omega)|exact cO (by omega)|exact eG (by omega)|exact cW (by omega)|exact cX (by omega)));conv=>whnf)|((first|refine b9 ?_|(refine And.intro (a:=bG _ _=true) ?_ ?_;(focus kernel_rfl))|refine And.intro rfl ?_|(refine And.intro ?_ ?_;(focus (first|omega|decide|(dsimp only;omega)|(simp at *;omega)))));conv=>whnf))
 all_goals first|contradiction|(exfalso;omega)|skip
 refine al (fun i:Nat=>i<=7) (fun i=>[(15,.int .i64 (i:Int))]) (fun i=>[jG V,jG (fun _=>0),jG (MY O i)]) (fun i=>7-i) 0 (by omega) ?_ ?_
 ·conv=>whnf
  repeat (first|exact rfl|exact trivial|exact Or.inl (fun _ _=>rfl)|exact(fun _=>rfl)|exact(fun _ _=>rfl)|exact Or.inl (fun _ hi=>absurd hi (Nat.not_lt_zero _))|((first|refine And.intro rfl ?_|refine And.intro (Or.inl (fun _ _=>rfl)) ?_|refine And.intro (fun _=>rfl) ?_|refine And.intro (fun _ _=>rfl) ?_|(refine And.intro ?_ ?_;rotate_left));conv=>whnf))
 ·intro i hi;have e:i=0\/i=1\/i=2\/i=3\/i=4\/i=5\/i=6\/i=7:=by omega
  have p0:¬(0<r/\2<8)->V 1/2 ^ r=O 0:=fun h=>o1 0 h (by omega);have q0:0<r->(V 1/2 ^ r ||| V 2*2 ^ (64-r)%18446744073709551616)=O 0:=fun h=>o2 0 h (by omega);have p1:¬(0<r/\3<8)->V 2/2 ^ r=O 1:=fun h=>o1 1 h (by omega);have q1:0<r->(V 2/2 ^ r ||| V 3*2 ^ (64-r)%18446744073709551616)=O 1:=fun h=>o2 1 h (by omega);have p2:¬(0<r/\4<8)->V 3/2 ^ r=O 2:=fun h=>o1 2 h (by omega);have q2:0<r->(V 3/2 ^ r ||| V 4*2 ^ (64-r)%18446744073709551616)=O 2:=fun h=>o2 2 h (by omega);have p3:¬(0<r/\5<8)->V 4/2 ^ r=O 3:=fun h=>o1 3 h (by omega);have q3:0<r->(V 4/2 ^ r ||| V 5*2 ^ (64-r)%18446744073709551616)=O 3:=fun h=>o2 3 h (by omega);have p4:¬(0<r/\6<8)->V 5/2 ^ r=O 4:=fun h=>o1 4 h (by omega);have q4:0<r->(V 5/2 ^ r ||| V 6*2 ^ (64-r)%18446744073709551616)=O 4:=fun h=>o2 4 h (by omega);have p5:¬(0<r/\7<8)->V 6/2 ^ r=O 5:=fun h=>o1 5 h (by omega);have q5:0<r->(V 6/2 ^ r ||| V 7*2 ^ (64-r)%18446744073709551616)=O 5:=fun h=>o2 5 h (by omega);have p6:¬(0<r/\8<8)->V 7/2 ^ r=O 6:=fun h=>o1 6 h (by omega);clear o1 o2;rcases e with rfl|rfl|rfl|rfl|rfl|rfl|rfl|rfl
  all_goals
   (conv=>whnf);repeat' (first|refine cB ?_|refine bm ?_|((first|refine aS ak ?_|refine bI ak mixed ?_|refine bJ ?_|refine bK ?_|refine bL ?_|refine cC ?_);conv=>whnf)|(refine And.intro (fun h=>?_) (fun h=>?_)<;>(try simp only[af] at h)<;>conv=>whnf)|(refine cM ?_ ?_;(focus (first|exact cN (by omega)|exact cO (by omega)|exact eG (by omega)|exact cW (by omega)|exact cX (by omega)));conv=>whnf)|((first|refine b9 ?_|(refine And.intro (a:=bG _ _=true) ?_ ?_;(focus kernel_rfl))|refine And.intro rfl ?_|(refine And.intro ?_ ?_;(focus (first|omega|decide|(dsimp only;omega)|(simp at *;omega)))));conv=>whnf))
  all_goals first|contradiction|(exfalso;omega)|skip
  all_goals first|refine⟨1,by decide,by decide,?_⟩|refine⟨2,by decide,by decide,?_⟩|refine⟨3,by decide,by decide,?_⟩|refine⟨4,by decide,by decide,?_⟩|refine⟨5,by decide,by decide,?_⟩|refine⟨6,by decide,by decide,?_⟩|refine⟨7,by decide,by decide,?_⟩
  all_goals
   conv=>whnf
   repeat (first|exact rfl|exact trivial|exact Or.inl (fun _ _=>rfl)|exact(fun _=>rfl)|exact(fun _ _=>rfl)|exact Or.inl (fun _ hi=>absurd hi (Nat.not_lt_zero _))|((first|refine And.intro rfl ?_|refine And.intro (Or.inl (fun _ _=>rfl)) ?_|refine And.intro (fun _=>rfl) ?_|refine And.intro (fun _ _=>rfl) ?_|(refine And.intro ?_ ?_;rotate_left));conv=>whnf))
   all_goals first
    | (rw[bA _ _ hr,dh _ _ (by omega)];exact or_val (bF (hV 1)) (Nat.mod_lt _ (by omega)) (q0 (by omega)) (hO 0))
    | (rw[bA _ _ hr,dh _ _ (by omega)];exact or_val (bF (hV 2)) (Nat.mod_lt _ (by omega)) (q1 (by omega)) (hO 1))
    | (rw[bA _ _ hr,dh _ _ (by omega)];exact or_val (bF (hV 3)) (Nat.mod_lt _ (by omega)) (q2 (by omega)) (hO 2))
    | (rw[bA _ _ hr,dh _ _ (by omega)];exact or_val (bF (hV 4)) (Nat.mod_lt _ (by omega)) (q3 (by omega)) (hO 3))
    | (rw[bA _ _ hr,dh _ _ (by omega)];exact or_val (bF (hV 5)) (Nat.mod_lt _ (by omega)) (q4 (by omega)) (hO 4))
    | (rw[bA _ _ hr,dh _ _ (by omega)];exact or_val (bF (hV 6)) (Nat.mod_lt _ (by omega)) (q5 (by omega)) (hO 5))
    | (rw[bA _ _ hr];exact congrArg Nat.cast (p0 (by omega)))
    | (rw[bA _ _ hr];exact congrArg Nat.cast (p1 (by omega)))
    | (rw[bA _ _ hr];exact congrArg Nat.cast (p2 (by omega)))
    | (rw[bA _ _ hr];exact congrArg Nat.cast (p3 (by omega)))
    | (rw[bA _ _ hr];exact congrArg Nat.cast (p4 (by omega)))
    | (rw[bA _ _ hr];exact congrArg Nat.cast (p5 (by omega)))
    | (rw[bA _ _ hr];exact congrArg Nat.cast (p6 (by omega)))
       
theorem G'(v n:Nat)(hv:v<65536 ^ 32)(hn:n<128):aa Tryz.prog G 279 [aB v,.int .i64 (n:Int)] (aB (v/2 ^ n)):=by
 have Et:=hv;by_cases h:n<64
 ·have g:=GZ (G:=G) (wW v) (wW (v/2 ^ n)) (cj v) (cj _) (n:Int) n h (by omega)
   (fun i h1 h2=>by have:=CJ (q:=0) Et h h1 h2;rw[show 64*0+n=n by omega] at this;exact this)
   (fun i h1 h2=>by have:=CL (v:=v) (q:=0) (i:=i) h h1;rw[show 64*0+n=n by omega] at this;exact this)
  exact g
 ·have e:64*1+(n-64)=n:=by omega
  have g:=G0 (G:=G) (wW v) (wW (v/2 ^ n)) (cj v) (cj _) (n:Int) (n-64) (by omega) (by omega)
   (fun i h1 h2=>by have:=CJ (q:=1) Et (show n-64<64 by omega) h1 h2;rw[e] at this;exact this)
   (fun i h1 h2=>by have:=CL (v:=v) (q:=1) (i:=i) (show n-64<64 by omega) h1;rw[e] at this;exact this)
  have z:wW (v/2 ^ n) 7=0:=by have:=K6 (v:=v) (q:=1) (r:=n-64) (i:=7) Et (by omega);rw[e] at this;exact this
  have ew:aD (MY (wW (v/2 ^ n)) 7)=aB (v/2 ^ n):=by
   unfold aB aD;rw[z];rfl
  rw[ew] at g;exact g
def Rw(O:Nat->Nat)(q i j:Nat):Nat:=if q<=j/\j<i then O j else 0
theorem K7(V O:Nat->Nat)(hV:cS V)(hO:cS O)(z:Int)(r:Nat)(hr:r<64)(hz:z=64*0+r)
  (o1:∀i,¬(0<r/\0<i)->0<=i->V (i-0)*2 ^ r%18446744073709551616=O i) (o2:∀i,0<r->0<i->(V (i-0)*2 ^ r%18446744073709551616 ||| V (i-0-1)/2 ^ (64-r))=O i) :
  aa Tryz.prog G 280 [aD V,.int .i64 z] (aD (Rw O 0 8)):=by
 have t1:z.tdiv 64=0:=by rw[Int.tdiv_eq_ediv_of_nonneg (by omega)];omega
 have t2:z.tmod 64=r:=by rw[Int.tmod_eq_emod_of_nonneg (by omega)];omega
 unfold aD;refine aa.aj ak Tryz.func280 rfl rfl _ rfl ?_;(conv=>whnf);repeat' (first|((rw[t1,t2];conv=>whnf))|refine cB ?_|refine bm ?_|((first|refine aS ak ?_|refine bI ak mixed ?_|refine bJ ?_|refine bK ?_|refine bL ?_|refine cC ?_);conv=>whnf)|(refine And.intro (fun h=>?_) (fun h=>?_)<;>(try simp only[af] at h)<;>conv=>whnf)|(refine cM ?_ ?_;(focus (first|exact cN (by omega)|exact cO (by omega)|exact eG (by omega)|exact cW (by omega)|exact cX (by omega)));conv=>whnf)|((first|refine b9 ?_|(refine And.intro (a:=bG _ _=true) ?_ ?_;(focus kernel_rfl))|refine And.intro rfl ?_|(refine And.intro ?_ ?_;(focus (first|omega|decide|(dsimp only;omega)|(simp at *;omega)))));conv=>whnf))
 all_goals first|contradiction|(exfalso;omega)|skip
 refine al (fun i:Nat=>0<=i/\i<=8) (fun i=>[(8,.int .i64 (i:Int))]) (fun i=>[jG V,jG (fun _=>0),jG (Rw O 0 i)]) (fun i=>8-i) 0 ⟨by omega,by omega⟩ ?_ ?_
 ·conv=>whnf
  repeat (first|exact rfl|exact trivial|exact Or.inl (fun _ _=>rfl)|exact(fun _=>rfl)|exact(fun _ _=>rfl)|exact Or.inl (fun _ hi=>absurd hi (Nat.not_lt_zero _))|((first|refine And.intro rfl ?_|refine And.intro (Or.inl (fun _ _=>rfl)) ?_|refine And.intro (fun _=>rfl) ?_|refine And.intro (fun _ _=>rfl) ?_|(refine And.intro ?_ ?_;rotate_left));conv=>whnf))
 ·rintro i ⟨dt,hi⟩;have e:i=0\/i=1\/i=2\/i=3\/i=4\/i=5\/i=6\/i=7\/i=8:=by omega
  have p0:¬(0<r/\0<0)->V 0*2 ^ r%18446744073709551616=O 0:=fun h=>o1 0 h (by omega);have p1:¬(0<r/\0<1)->V 1*2 ^ r%18446744073709551616=O 1:=fun h=>o1 1 h (by omega);have q1:0<r->(V 1*2 ^ r%18446744073709551616 ||| V 0/2 ^ (64-r))=O 1:=fun h=>o2 1 h (by omega);have p2:¬(0<r/\0<2)->V 2*2 ^ r%18446744073709551616=O 2:=fun h=>o1 2 h (by omega);have q2:0<r->(V 2*2 ^ r%18446744073709551616 ||| V 1/2 ^ (64-r))=O 2:=fun h=>o2 2 h (by omega);have p3:¬(0<r/\0<3)->V 3*2 ^ r%18446744073709551616=O 3:=fun h=>o1 3 h (by omega);have q3:0<r->(V 3*2 ^ r%18446744073709551616 ||| V 2/2 ^ (64-r))=O 3:=fun h=>o2 3 h (by omega);have p4:¬(0<r/\0<4)->V 4*2 ^ r%18446744073709551616=O 4:=fun h=>o1 4 h (by omega);have q4:0<r->(V 4*2 ^ r%18446744073709551616 ||| V 3/2 ^ (64-r))=O 4:=fun h=>o2 4 h (by omega);have p5:¬(0<r/\0<5)->V 5*2 ^ r%18446744073709551616=O 5:=fun h=>o1 5 h (by omega);have q5:0<r->(V 5*2 ^ r%18446744073709551616 ||| V 4/2 ^ (64-r))=O 5:=fun h=>o2 5 h (by omega);have p6:¬(0<r/\0<6)->V 6*2 ^ r%18446744073709551616=O 6:=fun h=>o1 6 h (by omega);have q6:0<r->(V 6*2 ^ r%18446744073709551616 ||| V 5/2 ^ (64-r))=O 6:=fun h=>o2 6 h (by omega);have p7:¬(0<r/\0<7)->V 7*2 ^ r%18446744073709551616=O 7:=fun h=>o1 7 h (by omega);have q7:0<r->(V 7*2 ^ r%18446744073709551616 ||| V 6/2 ^ (64-r))=O 7:=fun h=>o2 7 h (by omega);clear o1 o2;rcases e with rfl|rfl|rfl|rfl|rfl|rfl|rfl|rfl|rfl
  all_goals
   (conv=>whnf);repeat' (first|refine cB ?_|refine bm ?_|((first|refine aS ak ?_|refine bI ak mixed ?_|refine bJ ?_|refine bK ?_|refine bL ?_|refine cC ?_);conv=>whnf)|(refine And.intro (fun h=>?_) (fun h=>?_)<;>(try simp only[af] at h)<;>conv=>whnf)|(refine cM ?_ ?_;(focus (first|exact cN (by omega)|exact cO (by omega)|exact eG (by omega)|exact cW (by omega)|exact cX (by omega)));conv=>whnf)|((first|refine b9 ?_|(refine And.intro (a:=bG _ _=true) ?_ ?_;(focus kernel_rfl))|refine And.intro rfl ?_|(refine And.intro ?_ ?_;(focus (first|omega|decide|(dsimp only;omega)|(simp at *;omega)))));conv=>whnf))
  all_goals first|contradiction|(exfalso;omega)|skip
  all_goals first|refine⟨1,⟨by decide,by decide⟩,by decide,?_⟩|refine⟨2,⟨by decide,by decide⟩,by decide,?_⟩|refine⟨3,⟨by decide,by decide⟩,by decide,?_⟩|refine⟨4,⟨by decide,by decide⟩,by decide,?_⟩|refine⟨5,⟨by decide,by decide⟩,by decide,?_⟩|refine⟨6,⟨by decide,by decide⟩,by decide,?_⟩|refine⟨7,⟨by decide,by decide⟩,by decide,?_⟩|refine⟨8,⟨by decide,by decide⟩,by decide,?_⟩
  all_goals
   conv=>whnf
   repeat (first|exact rfl|exact trivial|exact Or.inl (fun _ _=>rfl)|exact(fun _=>rfl)|exact(fun _ _=>rfl)|exact Or.inl (fun _ hi=>absurd hi (Nat.not_lt_zero _))|((first|refine And.intro rfl ?_|refine And.intro (Or.inl (fun _ _=>rfl)) ?_|refine And.intro (fun _=>rfl) ?_|refine And.intro (fun _ _=>rfl) ?_|(refine And.intro ?_ ?_;rotate_left));conv=>whnf))
   all_goals first
    | (rw[bB _ _ hr,dg _ _ (by omega)];exact or_val (Nat.mod_lt _ (by omega)) (bF (hV 0)) (q1 (by omega)) (hO 1))
    | (rw[bB _ _ hr,dg _ _ (by omega)];exact or_val (Nat.mod_lt _ (by omega)) (bF (hV 1)) (q2 (by omega)) (hO 2))
    | (rw[bB _ _ hr,dg _ _ (by omega)];exact or_val (Nat.mod_lt _ (by omega)) (bF (hV 2)) (q3 (by omega)) (hO 3))
    | (rw[bB _ _ hr,dg _ _ (by omega)];exact or_val (Nat.mod_lt _ (by omega)) (bF (hV 3)) (q4 (by omega)) (hO 4))
    | (rw[bB _ _ hr,dg _ _ (by omega)];exact or_val (Nat.mod_lt _ (by omega)) (bF (hV 4)) (q5 (by omega)) (hO 5))
    | (rw[bB _ _ hr,dg _ _ (by omega)];exact or_val (Nat.mod_lt _ (by omega)) (bF (hV 5)) (q6 (by omega)) (hO 6))
    | (rw[bB _ _ hr,dg _ _ (by omega)];exact or_val (Nat.mod_lt _ (by omega)) (bF (hV 6)) (q7 (by omega)) (hO 7))
    | (rw[bB _ _ hr];exact congrArg Nat.cast (p0 (by omega)))
    | (rw[bB _ _ hr];exact congrArg Nat.cast (p1 (by omega)))
    | (rw[bB _ _ hr];exact congrArg Nat.cast (p2 (by omega)))
    | (rw[bB _ _ hr];exact congrArg Nat.cast (p3 (by omega)))
    | (rw[bB _ _ hr];exact congrArg Nat.cast (p4 (by omega)))
    | (rw[bB _ _ hr];exact congrArg Nat.cast (p5 (by omega)))
    | (rw[bB _ _ hr];exact congrArg Nat.cast (p6 (by omega)))
    | (rw[bB _ _ hr];exact congrArg Nat.cast (p7 (by omega)))
       
theorem K8(V O:Nat->Nat)(hV:cS V)(hO:cS O)(z:Int)(r:Nat)(hr:r<64)(hz:z=64*1+r)
  (o1:∀i,¬(0<r/\1<i)->1<=i->V (i-1)*2 ^ r%18446744073709551616=O i) (o2:∀i,0<r->1<i->(V (i-1)*2 ^ r%18446744073709551616 ||| V (i-1-1)/2 ^ (64-r))=O i) :
  aa Tryz.prog G 280 [aD V,.int .i64 z] (aD (Rw O 1 8)):=by
 have t1:z.tdiv 64=1:=by rw[Int.tdiv_eq_ediv_of_nonneg (by omega)];omega
 have t2:z.tmod 64=r:=by rw[Int.tmod_eq_emod_of_nonneg (by omega)];omega
 unfold aD;refine aa.aj ak Tryz.func280 rfl rfl _ rfl ?_;(conv=>whnf);repeat' (first|((rw[t1,t2];conv=>whnf))|refine cB ?_|refine bm ?_|((first|refine aS ak ?_|refine bI ak mixed ?_|refine bJ ?_|refine bK ?_|refine bL ?_|refine cC ?_);conv=>whnf)|(refine And.intro (fun h=>?_) (fun h=>?_)<;>(try simp only[af] at h)<;>conv=>whnf)|(refine cM ?_ ?_;(focus (first|exact cN (by omega)|exact cO (by omega)|exact eG (by omega)|exact cW (by omega)|exact cX (by omega)));conv=>whnf)|((first|refine b9 ?_|(refine And.intro (a:=bG _ _=true) ?_ ?_;(focus kernel_rfl))|refine And.intro rfl ?_|(refine And.intro ?_ ?_;(focus (first|omega|decide|(dsimp only;omega)|(simp at *;omega)))));conv=>whnf))
 all_goals first|contradiction|(exfalso;omega)|skip
 refine al (fun i:Nat=>1<=i/\i<=8) (fun i=>[(8,.int .i64 (i:Int))]) (fun i=>[jG V,jG (fun _=>0),jG (Rw O 1 i)]) (fun i=>8-i) 1 ⟨by omega,by omega⟩ ?_ ?_
 ·conv=>whnf
  repeat (first|exact rfl|exact trivial|exact Or.inl (fun _ _=>rfl)|exact(fun _=>rfl)|exact(fun _ _=>rfl)|exact Or.inl (fun _ hi=>absurd hi (Nat.not_lt_zero _))|((first|refine And.intro rfl ?_|refine And.intro (Or.inl (fun _ _=>rfl)) ?_|refine And.intro (fun _=>rfl) ?_|refine And.intro (fun _ _=>rfl) ?_|(refine And.intro ?_ ?_;rotate_left));conv=>whnf))
 ·rintro i ⟨dt,hi⟩;have e:i=1\/i=2\/i=3\/i=4\/i=5\/i=6\/i=7\/i=8:=by omega
  have p1:¬(0<r/\1<1)->V 0*2 ^ r%18446744073709551616=O 1:=fun h=>o1 1 h (by omega);have p2:¬(0<r/\1<2)->V 1*2 ^ r%18446744073709551616=O 2:=fun h=>o1 2 h (by omega);have q2:0<r->(V 1*2 ^ r%18446744073709551616 ||| V 0/2 ^ (64-r))=O 2:=fun h=>o2 2 h (by omega);have p3:¬(0<r/\1<3)->V 2*2 ^ r%18446744073709551616=O 3:=fun h=>o1 3 h (by omega);have q3:0<r->(V 2*2 ^ r%18446744073709551616 ||| V 1/2 ^ (64-r))=O 3:=fun h=>o2 3 h (by omega);have p4:¬(0<r/\1<4)->V 3*2 ^ r%18446744073709551616=O 4:=fun h=>o1 4 h (by omega);have q4:0<r->(V 3*2 ^ r%18446744073709551616 ||| V 2/2 ^ (64-r))=O 4:=fun h=>o2 4 h (by omega);have p5:¬(0<r/\1<5)->V 4*2 ^ r%18446744073709551616=O 5:=fun h=>o1 5 h (by omega);have q5:0<r->(V 4*2 ^ r%18446744073709551616 ||| V 3/2 ^ (64-r))=O 5:=fun h=>o2 5 h (by omega);have p6:¬(0<r/\1<6)->V 5*2 ^ r%18446744073709551616=O 6:=fun h=>o1 6 h (by omega);have q6:0<r->(V 5*2 ^ r%18446744073709551616 ||| V 4/2 ^ (64-r))=O 6:=fun h=>o2 6 h (by omega);have p7:¬(0<r/\1<7)->V 6*2 ^ r%18446744073709551616=O 7:=fun h=>o1 7 h (by omega);have q7:0<r->(V 6*2 ^ r%18446744073709551616 ||| V 5/2 ^ (64-r))=O 7:=fun h=>o2 7 h (by omega);clear o1 o2;rcases e with rfl|rfl|rfl|rfl|rfl|rfl|rfl|rfl
  all_goals
   (conv=>whnf);repeat' (first|refine cB ?_|refine bm ?_|((first|refine aS ak ?_|refine bI ak mixed ?_|refine bJ ?_|refine bK ?_|refine bL ?_|refine cC ?_);conv=>whnf)|(refine And.intro (fun h=>?_) (fun h=>?_)<;>(try simp only[af] at h)<;>conv=>whnf)|(refine cM ?_ ?_;(focus (first|exact cN (by omega)|exact cO (by omega)|exact eG (by omega)|exact cW (by omega)|exact cX (by omega)));conv=>whnf)|((first|refine b9 ?_|(refine And.intro (a:=bG _ _=true) ?_ ?_;(focus kernel_rfl))|refine And.intro rfl ?_|(refine And.intro ?_ ?_;(focus (first|omega|decide|(dsimp only;omega)|(simp at *;omega)))));conv=>whnf))
  all_goals first|contradiction|(exfalso;omega)|skip
  all_goals first|refine⟨2,⟨by decide,by decide⟩,by decide,?_⟩|refine⟨3,⟨by decide,by decide⟩,by decide,?_⟩|refine⟨4,⟨by decide,by decide⟩,by decide,?_⟩|refine⟨5,⟨by decide,by decide⟩,by decide,?_⟩|refine⟨6,⟨by decide,by decide⟩,by decide,?_⟩|refine⟨7,⟨by decide,by decide⟩,by decide,?_⟩|refine⟨8,⟨by decide,by decide⟩,by decide,?_⟩
  all_goals
   conv=>whnf
   repeat (first|exact rfl|exact trivial|exact Or.inl (fun _ _=>rfl)|exact(fun _=>rfl)|exact(fun _ _=>rfl)|exact Or.inl (fun _ hi=>absurd hi (Nat.not_lt_zero _))|((first|refine And.intro rfl ?_|refine And.intro (Or.inl (fun _ _=>rfl)) ?_|refine And.intro (fun _=>rfl) ?_|refine And.intro (fun _ _=>rfl) ?_|(refine And.intro ?_ ?_;rotate_left));conv=>whnf))
   all_goals first
    | (rw[bB _ _ hr,dg _ _ (by omega)];exact or_val (Nat.mod_lt _ (by omega)) (bF (hV 0)) (q2 (by omega)) (hO 2))
    | (rw[bB _ _ hr,dg _ _ (by omega)];exact or_val (Nat.mod_lt _ (by omega)) (bF (hV 1)) (q3 (by omega)) (hO 3))
    | (rw[bB _ _ hr,dg _ _ (by omega)];exact or_val (Nat.mod_lt _ (by omega)) (bF (hV 2)) (q4 (by omega)) (hO 4))
    | (rw[bB _ _ hr,dg _ _ (by omega)];exact or_val (Nat.mod_lt _ (by omega)) (bF (hV 3)) (q5 (by omega)) (hO 5))
    | (rw[bB _ _ hr,dg _ _ (by omega)];exact or_val (Nat.mod_lt _ (by omega)) (bF (hV 4)) (q6 (by omega)) (hO 6))
    | (rw[bB _ _ hr,dg _ _ (by omega)];exact or_val (Nat.mod_lt _ (by omega)) (bF (hV 5)) (q7 (by omega)) (hO 7))
    | (rw[bB _ _ hr];exact congrArg Nat.cast (p1 (by omega)))
    | (rw[bB _ _ hr];exact congrArg Nat.cast (p2 (by omega)))
    | (rw[bB _ _ hr];exact congrArg Nat.cast (p3 (by omega)))
    | (rw[bB _ _ hr];exact congrArg Nat.cast (p4 (by omega)))
    | (rw[bB _ _ hr];exact congrArg Nat.cast (p5 (by omega)))
    | (rw[bB _ _ hr];exact congrArg Nat.cast (p6 (by omega)))
    | (rw[bB _ _ hr];exact congrArg Nat.cast (p7 (by omega)))
       
theorem K9(v n:Nat)(hn:n<128):aa Tryz.prog G 280 [aB v,.int .i64 (n:Int)] (aB (v*2 ^ n)):=by
 by_cases h:n<64
 ·have g:=K7 (G:=G) (wW v) (wW (v*2 ^ n)) (cj v) (cj _) (n:Int) n h (by omega)
   (fun i h1 h2=>by have:=GX (v:=v) (q:=0) h1 h2;rw[show 64*0+n=n by omega] at this;exact this)
   (fun i h1 h2=>by have:=GY (v:=v) (q:=0) (i:=i) h h1 h2;rw[show 64*0+n=n by omega] at this;exact this)
  exact g
 ·have e:64*1+(n-64)=n:=by omega
  have g:=K8 (G:=G) (wW v) (wW (v*2 ^ n)) (cj v) (cj _) (n:Int) (n-64) (by omega) (by omega)
   (fun i h1 h2=>by have:=GX (v:=v) (q:=1) h1 h2;rw[e] at this;exact this)
   (fun i h1 h2=>by have:=GY (v:=v) (q:=1) (i:=i) (show n-64<64 by omega) h1 h2;rw[e] at this;exact this)
  have z:wW (v*2 ^ n) 0=0:=by have:=Ow (v:=v) (q:=1) (r:=n-64) (i:=0) (by omega);rw[e] at this;exact this
  have ew:aD (Rw (wW (v*2 ^ n)) 1 8)=aB (v*2 ^ n):=by
   unfold aB aD;rw[z];rfl
  rw[ew] at g;exact g
theorem yj(v n:Nat)(hn:n<128):aa Tryz.prog G 226 [aB v,.int .i64 (n:Int)] (aB (v*2 ^ n)):=by
 have c:=K9 (G:=G) v n hn;have hm:(if (n:Int) < -512 then (-512:Int) else (n:Int))=n:=if_neg (by omega);have pQ:(if (512:Int)<(n:Int) then (512:Int) else (n:Int))=n:=if_neg (by omega);unfold aB aD at *;generalize wW v=V at *;generalize wW (v*2 ^ n)=U at *;refine aa.aj ak Tryz.func226 rfl rfl _ rfl ?_;(conv=>whnf);repeat' ((first|((rw[hm,pQ];conv=>whnf))|((rw[hm];conv=>whnf))|((rw[pQ];conv=>whnf))|refine st ?_|(refine⟨fun h=>?_,fun h=>?_⟩<;>try simp only[af] at h)|(refine .inl ?_;(conv=>whnf);refine⟨_,c,?_⟩)|refine wf ?_|refine aA ?_|refine nn ?_|fail)<;>conv=>whnf)
 all_goals first|contradiction|(exfalso;omega)|skip
theorem nO(v n:Nat)(hv:v<65536 ^ 32)(hn:n<128):aa Tryz.prog G 226 [aB v,.int .i64 (-(n:Int))] (aB (v/2 ^ n)):=by
 by_cases h0:n=0
 ·subst h0;have:=yj (G:=G) v 0 (by omega);rw[Nat.pow_zero,Nat.mul_one] at this;rw[Nat.pow_zero,Nat.div_one];exact this
 ·have c:=G' (G:=G) v n hv hn;have hm:(if -(n:Int) < -512 then (-512:Int) else -(n:Int)) = -(n:Int):=if_neg (by omega);have pQ:(if (512:Int) < -(n:Int) then (512:Int) else -(n:Int)) = -(n:Int):=if_neg (by omega);have Wj : -(-(n:Int))=n:=by omega
  clear hv;unfold aB aD at *;generalize wW v=V at *;generalize wW (v/2 ^ n)=U at *;refine aa.aj ak Tryz.func226 rfl rfl _ rfl ?_;(conv=>whnf);repeat' ((first|((rw[hm,pQ];conv=>whnf))|((rw[hm];conv=>whnf))|((rw[pQ];conv=>whnf))|((rw[Wj];conv=>whnf))|refine st ?_|(refine⟨fun h=>?_,fun h=>?_⟩<;>try simp only[af] at h)|(refine .inl ?_;(conv=>whnf);refine⟨_,c,?_⟩)|refine wf ?_|refine aA ?_|refine nn ?_|fail)<;>conv=>whnf)
  all_goals first|contradiction|(exfalso;omega)|skip
theorem Wk{a b:Nat}(ha:a<65536 ^ 32)(hb:b<65536 ^ 32):((((wW a 0:Nat):Int)==((wW b 0:Nat):Int))&&((((wW a 1:Nat):Int)==((wW b 1:Nat):Int))&&((((wW a 2:Nat):Int)==((wW b 2:Nat):Int))&&((((wW a 3:Nat):Int)==((wW b 3:Nat):Int))&&((((wW a 4:Nat):Int)==((wW b 4:Nat):Int))&&((((wW a 5:Nat):Int)==((wW b 5:Nat):Int))&&((((wW a 6:Nat):Int)==((wW b 6:Nat):Int))&&((((wW a 7:Nat):Int)==((wW b 7:Nat):Int))&&true))))))))=decide (a=b):=by
 rw[Bool.eq_iff_iff,decide_eq_true_iff];simp only[Bool.and_eq_true,beq_iff_eq,and_true];constructor
 ·rintro⟨z0,z1,z2,z3,z4,z5,z6,z7⟩;have ea:=eI ha;have eb:=eI hb;rw[cc (cj a)] at ea;rw[cc (cj b)] at eb;rw[<-ea,<-eb,Int.ofNat_inj.1 z0,Int.ofNat_inj.1 z1,Int.ofNat_inj.1 z2,Int.ofNat_inj.1 z3,Int.ofNat_inj.1 z4,Int.ofNat_inj.1 z5,Int.ofNat_inj.1 z6,Int.ofNat_inj.1 z7]
 ·rintro rfl;simp
theorem pR{a b k o:Nat}(hb:b%2=1)(AL:b<a)(hd:a-b=2 ^ k*o):Nat.gcd o b=Nat.gcd a b:=by
 have h1:Nat.gcd a b=Nat.gcd (a-b) b:=by
  have:a=(a-b)+b:=by omega
  conv=>lhs;rw[this]
  rw[Nat.gcd_add_self_left]
 rw[h1,hd]
 have h2:Nat.Coprime b 2:=by
  have:Nat.gcd b 2=Nat.gcd 2 (b%2):=by rw[Nat.gcd_comm,Nat.gcd_rec,Nat.gcd_comm]
  unfold Nat.Coprime;rw[this,hb];rfl
 have h3:Nat.Coprime (2 ^ k) b:=(Nat.Coprime.pow_right k h2).symm;exact(Nat.Coprime.gcd_mul_left_cancel o h3).symm
theorem CM{b:Nat}(k:Nat)(hb:b%2=1):Nat.Coprime (2 ^ k) b:=by
 have h2:Nat.Coprime b 2:=by
  have:Nat.gcd b 2=Nat.gcd 2 (b%2):=by rw[Nat.gcd_comm,Nat.gcd_rec,Nat.gcd_comm]
  unfold Nat.Coprime;rw[this,hb];rfl
 exact(Nat.Coprime.pow_right k h2).symm
theorem Eu{s t a b:Nat}(ha:a%2=1)(hb:b%2=1):Nat.gcd (2 ^ s*a) (2 ^ t*b)=Nat.gcd a b*2 ^ min s t:=by
 rcases Nat.le_total s t with h|h
 ·rw[Nat.min_eq_left h];obtain⟨u,rfl⟩:∃u,t=s+u:=⟨t-s,by omega⟩;rw[Nat.pow_add,Nat.mul_assoc,Nat.gcd_mul_left,Nat.gcd_comm a,Nat.Coprime.gcd_mul_left_cancel b (CM u ha),Nat.gcd_comm b,Nat.mul_comm]
 ·rw[Nat.min_eq_right h];obtain⟨u,rfl⟩:∃u,s=t+u:=⟨s-t,by omega⟩;rw[Nat.pow_add,Nat.mul_assoc,Nat.gcd_mul_left,Nat.Coprime.gcd_mul_left_cancel a (CM u hb),Nat.mul_comm]
def Ox(g:Nat)(x:Nat×Nat×(Nat->Nat)×(Nat->Nat)):Prop:=x.1%2=1/\x.2.1%2=1/\Nat.gcd x.1 x.2.1=g/\x.1<2 ^ 127/\x.2.1<2 ^ 127/\wW x.1=x.2.2.1/\wW x.2.1=x.2.2.2
theorem Rx:(2:Nat) ^ 127<65536 ^ 32:=by decide
theorem Ha(x y:Nat)(hx:x<2 ^ 127)(hy:y<2 ^ 127):aa Tryz.prog G 162 [aB x,aB y] (aB (Nat.gcd x y)):=by
 have hP:=Rx;have zx:=iH (G:=G) x (by omega);have zy:=iH (G:=G) y (by omega);by_cases x0:x=0
 ·subst x0;rw[Nat.gcd_zero_left];rw[decide_eq_true rfl] at zx;unfold aB aD at *;generalize wW 0=X at *;generalize wW y=Y at *;refine aa.aj ak Tryz.func162 rfl rfl _ rfl ?_;(conv=>whnf);repeat' ((first|refine st ?_|(refine⟨fun h=>?_,fun h=>?_⟩<;>try simp only[af] at h)|(refine .inl ?_;(conv=>whnf);refine⟨_,zx,?_⟩)|refine wf ?_|refine aA ?_|refine nn ?_|fail)<;>conv=>whnf)
  all_goals first|contradiction|(exfalso;omega)|skip
 ·rw[decide_eq_false x0] at zx;by_cases y0:y=0
  ·subst y0;rw[Nat.gcd_zero_right];rw[decide_eq_true rfl] at zy;unfold aB aD at *;generalize wW 0=Y at *;generalize wW x=X at *;refine aa.aj ak Tryz.func162 rfl rfl _ rfl ?_;(conv=>whnf);repeat' ((first|refine st ?_|(refine⟨fun h=>?_,fun h=>?_⟩<;>try simp only[af] at h)|(refine .inl ?_;(conv=>whnf);(first|refine⟨_,zx,?_⟩|refine⟨_,zy,?_⟩))|refine wf ?_|refine aA ?_|refine nn ?_|fail)<;>conv=>whnf)
   all_goals first|contradiction|(exfalso;omega)|skip
  ·rw[decide_eq_false y0] at zy;obtain⟨s,a,ex,ha,hs⟩:=lG 127 x (by omega) hx;obtain⟨t,b,ey,hb,ht⟩:=lG 127 y (by omega) hy;have tx:=qZ (G:=G) s a (by omega) ha;have ty:=qZ (G:=G) t b (by omega) hb;rw[<-ex] at tx;rw[<-ey] at ty;have sx:=nO (G:=G) x s (by omega) (by omega);have sy:=nO (G:=G) y t (by omega) (by omega);have dx:x/2 ^ s=a:=by rw[ex,Nat.mul_div_cancel_left _ (Nat.pow_pos (by omega))]
   have dy:y/2 ^ t=b:=by rw[ey,Nat.mul_div_cancel_left _ (Nat.pow_pos (by omega))]
   rw[dx] at sx;rw[dy] at sy;have hg:Nat.gcd x y=Nat.gcd a b*2 ^ min s t:=by rw[ex,ey];exact Eu ha hb
   have Y4:a<=x:=by rw[<-dx];exact Nat.div_le_self _ _
   have Al:b<=y:=by rw[<-dy];exact Nat.div_le_self _ _
   have Uq:(if (t:Int)<(s:Int) then (t:Int) else (s:Int))=((min s t:Nat):Int):=by
    split<;>omega
   rw[hg];have XE:min s t<128:=by omega
   clear hg dx dy ex ey;generalize XF:Nat.gcd a b=g at *;have Aj:=fun v=>yj (G:=G) v (min s t) XE;generalize min s t=mn at *;unfold aB aD at zx zy tx ty sx sy ⊢;generalize wW x=X at *;generalize wW y=Y at *;refine aa.aj ak Tryz.func162 rfl rfl _ rfl ?_;(conv=>whnf);repeat' ((first|((rw[Uq];conv=>whnf))|refine st ?_|(refine⟨fun h=>?_,fun h=>?_⟩<;>try simp only[af] at h)|(refine .inl ?_;(conv=>whnf);(first|refine⟨_,zx,?_⟩|refine⟨_,zy,?_⟩|refine⟨_,tx,?_⟩|refine⟨_,ty,?_⟩|refine⟨_,sx,?_⟩|refine⟨_,sy,?_⟩))|refine wf ?_|refine aA ?_|refine nn ?_|fail)<;>conv=>whnf)
   all_goals first|contradiction|(exfalso;omega)|skip
   clear zx zy tx ty sx sy;refine al (Ox g) (fun _=>[]) (fun z=>match z with|(_,_,A,B)=>[jG A,jG B,jG (fun _=>0)]) (fun z=>z.1+z.2.1) (a,b,wW a,wW b) ⟨ha,hb,XF,by show a<_;omega,by show b<_;omega,rfl,rfl⟩ ?_ ?_
   ·conv=>whnf
    repeat (first|exact fa|((first|refine fb ?_|(refine And.intro ?_ ?_;rotate_left));conv=>whnf))
   ·rintro⟨p,q,P,Q⟩ hI;obtain⟨hp,hq,Ao,MZ,CG,Oy,Qq⟩:=hI;have hp:p%2=1:=hp;have hq:q%2=1:=hq;have Ao:Nat.gcd p q=g:=Ao;have MZ:p<2 ^ 127:=MZ;have CG:q<2 ^ 127:=CG;have Oy:wW p=P:=Oy;have Qq:wW q=Q:=Qq;have he:=Wk (a:=p) (b:=q) (by omega) (by omega);rw[Oy,Qq] at he;by_cases Tj:p=q
    ·subst Tj;rw[Nat.gcd_self] at Ao;subst Ao;rw[decide_eq_true rfl] at he;have cs:=Aj p;unfold aB aD at cs;rw[Oy] at cs;generalize wW (p*2 ^ mn)=U at *;(conv=>whnf);repeat' ((first|(exact Bool.noConfusion (he.symm.trans (by assumption)))|(exact absurd he (by assumption))|refine st ?_|(refine⟨fun h=>?_,fun h=>?_⟩<;>try simp only[af] at h)|(refine .inl ?_;(conv=>whnf);refine⟨_,cs,?_⟩)|refine wf ?_|refine aA ?_|refine nn ?_|fail)<;>conv=>whnf)
     all_goals first|contradiction|(exfalso;omega)|skip
    ·rw[decide_eq_false Tj] at he;have hc:=mh (G:=G) p q (by omega) (by omega);by_cases aI:p<q
     ·have QX:dJ p q = -1:=by unfold dJ;rw[if_pos aI]
      rw[QX] at hc;obtain⟨k,o,e1,e2,e3⟩:=lG 127 (q-p) (by omega) (by omega);have c1:=mg (G:=G) q p (by omega) (by omega);have c2:=qZ (G:=G) k o (by omega) e2;rw[<-e1] at c2;have c3:=nO (G:=G) (q-p) k (by omega) (by omega);have dk:(q-p)/2 ^ k=o:=by rw[e1,Nat.mul_div_cancel_left _ (Nat.pow_pos (by omega))]
      rw[dk] at c3;have ho:o<=q-p:=by rw[<-dk];exact Nat.div_le_self _ _
      have Tq:0<p:=by omega
      have hn:Ox g (o,p,wW o,P):=⟨e2,hp,by show Nat.gcd o p=g;rw[pR hp aI e1,Nat.gcd_comm,Ao],(by show o<_;omega),MZ,rfl,Oy⟩;clear e1 dk Ao Aj;unfold aB aD at hc c1 c2 c3;rw[Oy,Qq] at hc c1;generalize wW (q-p)=D at *;generalize wW o=O at *;(conv=>whnf);repeat' ((first|(exact Bool.noConfusion (he.symm.trans (by assumption)))|refine st ?_|(refine⟨fun h=>?_,fun h=>?_⟩<;>try simp only[af] at h)|(refine .inl ?_;(conv=>whnf);(first|refine⟨_,hc,?_⟩|refine⟨_,c1,?_⟩|refine⟨_,c2,?_⟩|refine⟨_,c3,?_⟩))|refine wf ?_|refine aA ?_|refine nn ?_|fail)<;>conv=>whnf)
      all_goals first|contradiction|(exfalso;omega)|skip
      all_goals
       refine⟨(o,p,O,P),hn,(by show o+p<p+q;omega),?_⟩;(conv=>whnf)
       repeat (first|exact fa|((first|refine fb ?_|(refine And.intro ?_ ?_;rotate_left));conv=>whnf))
     ·have Ev:q<p:=by omega
      have QX:dJ p q=1:=by unfold dJ;rw[if_neg aI,if_pos Ev]
      rw[QX] at hc;obtain⟨k,o,e1,e2,e3⟩:=lG 127 (p-q) (by omega) (by omega);have c1:=mg (G:=G) p q (by omega) (by omega);have c2:=qZ (G:=G) k o (by omega) e2;rw[<-e1] at c2;have c3:=nO (G:=G) (p-q) k (by omega) (by omega);have dk:(p-q)/2 ^ k=o:=by rw[e1,Nat.mul_div_cancel_left _ (Nat.pow_pos (by omega))]
      rw[dk] at c3;have ho:o<=p-q:=by rw[<-dk];exact Nat.div_le_self _ _
      have Y5:0<q:=by omega
      have hn:Ox g (o,q,wW o,Q):=⟨e2,hq,by show Nat.gcd o q=g;rw[pR hq Ev e1,Ao],(by show o<_;omega),CG,rfl,Qq⟩;clear e1 dk Ao Aj;unfold aB aD at hc c1 c2 c3;rw[Oy,Qq] at hc c1;generalize wW (p-q)=D at *;generalize wW o=O at *;(conv=>whnf);repeat' ((first|(exact Bool.noConfusion (he.symm.trans (by assumption)))|refine st ?_|(refine⟨fun h=>?_,fun h=>?_⟩<;>try simp only[af] at h)|(refine .inl ?_;(conv=>whnf);(first|refine⟨_,hc,?_⟩|refine⟨_,c1,?_⟩|refine⟨_,c2,?_⟩|refine⟨_,c3,?_⟩))|refine wf ?_|refine aA ?_|refine nn ?_|fail)<;>conv=>whnf)
      all_goals first|contradiction|(exfalso;omega)|skip
      all_goals
       refine⟨(o,q,O,Q),hn,(by show o+q<p+q;omega),?_⟩;(conv=>whnf)
       repeat (first|exact fa|((first|refine fb ?_|(refine And.intro ?_ ?_;rotate_left));conv=>whnf))
theorem AW{x:Int}{v:Nat}{p:Bool}(h1:v=x.natAbs)(h2:p=decide (x<0)):eJ p v=eK x:=by unfold eK;rw[h1,h2]
theorem La:∀j,wW 0 j=0:=fun j=>by rw[GM (by omega)];split<;>rfl
theorem vU(p:Bool)(v:Nat)(hv:v<65536 ^ 32):aa Tryz.prog G 164 [eJ p v] (eJ (p&&decide (v≠0)) v):=by
 have hz:=iH (G:=G) v hv;by_cases h0:v=0
 ·subst h0;rw[decide_eq_true rfl] at hz;rw[decide_eq_false (by omega),Bool.and_false];unfold aB aD at hz;unfold eJ;rw[La 0,La 1,La 2,La 3,La 4,La 5,La 6,La 7] at *;refine aa.aj ak Tryz.func164 rfl rfl _ rfl ?_;(conv=>whnf);repeat' ((first|refine st ?_|(refine⟨fun h=>?_,fun h=>?_⟩<;>try simp only[af] at h)|(refine .inl ?_;(conv=>whnf);refine⟨_,hz,?_⟩)|refine wf ?_|refine aA ?_|refine nn ?_|fail)<;>conv=>whnf)
  all_goals first|contradiction|(exfalso;omega)|rfl|skip
 ·rw[decide_eq_false h0] at hz;rw[decide_eq_true h0,Bool.and_true];unfold aB aD at hz;unfold eJ;generalize wW v=V at *;refine aa.aj ak Tryz.func164 rfl rfl _ rfl ?_;(conv=>whnf);repeat' ((first|refine st ?_|(refine⟨fun h=>?_,fun h=>?_⟩<;>try simp only[af] at h)|(refine .inl ?_;(conv=>whnf);refine⟨_,hz,?_⟩)|refine wf ?_|refine aA ?_|refine nn ?_|fail)<;>conv=>whnf)
  all_goals first|contradiction|(exfalso;omega)|skip
theorem sr(x:Int)(h:x.natAbs<65536 ^ 32):aa Tryz.prog G 164 [eK x] (eK x):=by
 have c:=vU (G:=G) (decide (x<0)) x.natAbs h
 have e:eJ (decide (x<0)&&decide (x.natAbs≠0)) x.natAbs=eK x:=AW rfl (by
  rw[Bool.eq_iff_iff,Bool.and_eq_true,decide_eq_true_iff,decide_eq_true_iff];omega)
 rw[e] at c;exact c
theorem CN(n:Int)(h1 : -9223372036854775808<=n)(h2:n<=9223372036854775807):aa Tryz.prog G 165 [.int .i64 n] (eK n):=by
 have ht:=KZ (G:=G) n h1 h2;have ho:=nN (G:=G) n.natAbs;have hf:=sr (G:=G) n (by rw[gy];omega);have hw:=jI (b:=n.natAbs) (by omega);rw[<-hw] at ho;unfold eK eJ at hf ⊢;unfold aB aD at ho;generalize wW n.natAbs=V at *;clear hw;refine aa.aj ak Tryz.func165 rfl rfl _ rfl ?_;(conv=>whnf);repeat' ((first|refine st ?_|(refine⟨fun h=>?_,fun h=>?_⟩<;>try simp only[af] at h)|(refine .inl ?_;(conv=>whnf);(first|refine⟨_,ht,?_⟩|refine⟨_,ho,?_⟩|refine⟨_,hf,?_⟩))|refine wf ?_|refine aA ?_|refine nn ?_|fail)<;>conv=>whnf)
 all_goals first|contradiction|(exfalso;omega)|skip
theorem Hb(b:Bool)(u:Nat)(hu:u<65536 ^ 32):aa Tryz.prog G 234 [.sb b,aB u,.sb true] (.tup [eJ (b&&decide (u≠0)) u,.sb true]):=by
 have hf:=vU (G:=G) b u hu;unfold eJ at *;unfold aB aD;generalize wW u=U at *;refine aa.aj ak Tryz.func234 rfl rfl _ rfl ?_;(conv=>whnf);repeat' ((first|refine st ?_|(refine⟨fun h=>?_,fun h=>?_⟩<;>try simp only[af] at h)|(refine .inl ?_;(conv=>whnf);refine⟨_,hf,?_⟩)|refine wf ?_|refine aA ?_|refine nn ?_|fail)<;>conv=>whnf)
 all_goals first|contradiction|(exfalso;omega)|skip
theorem AX(x y:Int)(hx:x.natAbs<65536 ^ 32)(hy:y.natAbs<18446744073709551616)(h:x.natAbs*y.natAbs<65536 ^ 32):aa Tryz.prog G 170 [eK x,eK y] (.tup [eK (x*y),.sb true]):=by
 have c1:=En (G:=G) x.natAbs y.natAbs hx hy h;have c2:=Hb (G:=G) (decide (x<0) != decide (y<0)) (x.natAbs*y.natAbs) h
 have e:eJ ((decide (x<0) != decide (y<0))&&decide (x.natAbs*y.natAbs≠0)) (x.natAbs*y.natAbs)=eK (x*y):=AW (Int.natAbs_mul x y).symm (by
  rw[Bool.eq_iff_iff,Bool.and_eq_true,decide_eq_true_iff,decide_eq_true_iff,<-Int.natAbs_mul];have hm:(x*y).natAbs≠0↔x≠0/\y≠0:=by rw[Ne,Int.natAbs_eq_zero,Int.mul_eq_zero];omega
  rw[hm];rcases Int.lt_or_le x 0 with a|a<;>rcases Int.lt_or_le y 0 with b|b
  ·have:=Int.mul_nonneg_of_nonpos_of_nonpos (Int.le_of_lt a) (Int.le_of_lt b);rw[decide_eq_true a,decide_eq_true b];simp;omega
  ·rw[decide_eq_true a,decide_eq_false (by omega)];constructor
   ·rintro⟨_,q1,q2⟩;exact Int.mul_neg_of_neg_of_pos a (by omega)
   ·intro q;refine⟨rfl,by omega,fun q2=>?_⟩;rw[q2,Int.mul_zero] at q;omega
  ·rw[decide_eq_false (by omega),decide_eq_true b];constructor
   ·rintro⟨_,q1,q2⟩;exact Int.mul_neg_of_pos_of_neg (by omega) b
   ·intro q;refine⟨rfl,fun q2=>?_,by omega⟩;rw[q2,Int.zero_mul] at q;omega
  ·have:=Int.mul_nonneg a b;rw[decide_eq_false (by omega),decide_eq_false (by omega)];simp;omega)
 rw[e] at c2;have eX:eK x=eJ (decide (x<0)) x.natAbs:=rfl;have eY:eK y=eJ (decide (y<0)) y.natAbs:=rfl;rw[eX,eY];clear e eX eY hx hy h;unfold eK eJ at *;unfold aB aD at *;generalize wW x.natAbs=X at *;generalize wW y.natAbs=Y at *;generalize wW (x.natAbs*y.natAbs)=U at *;generalize wW (x*y).natAbs=Z at *;generalize decide (x<0)=p at *;generalize decide (y<0)=q at *;generalize decide (x*y<0)=b at *;refine aa.aj ak Tryz.func170 rfl rfl _ rfl ?_;(conv=>whnf);repeat' ((first|refine st ?_|(refine⟨fun h=>?_,fun h=>?_⟩<;>try simp only[af] at h)|(refine .inl ?_;(conv=>whnf);(first|refine⟨_,c1,?_⟩|refine⟨_,c2,?_⟩))|refine wf ?_|refine aA ?_|refine nn ?_|fail)<;>conv=>whnf)
 all_goals first|contradiction|(exfalso;omega)|skip
theorem Lb{a b:Nat}(h:a<b):dJ a b = -1:=by unfold dJ;rw[if_pos h]
theorem Lc{a b:Nat}(h:b<=a):dJ a b=(if b<a then 1 else 0):=by unfold dJ;rw[if_neg (by omega)]
/-- A sum of numbers whose signs are told. -/
theorem vV(p q b:Bool)(v w u:Nat)(x y:A)(zb:Bool)(zu:Nat)
  (fx:aa Tryz.prog G 164 [x] (eJ p v)) (fy:aa Tryz.prog G 164 [y] (eJ q w))
  (hx:x=eJ p v) (hy:y=eJ q w) (hm:aa Tryz.prog G 234 [.sb b,aB u,.sb true] (.tup [eJ zb zu,.sb true]))
  (h:p=q/\b=p/\aa Tryz.prog G 229 [aB v,aB w] (.tup [aB u,.sb true]) \/
   p≠q/\v<w/\b=q/\aa Tryz.prog G 172 [aB v,aB w] (.int .i64 (-1))/\aa Tryz.prog G 227 [aB w,aB v] (.tup [aB u,.sb true]) \/
   p≠q/\b=p/\(∃c:Int,¬c<0/\aa Tryz.prog G 172 [aB v,aB w] (.int .i64 c))/\aa Tryz.prog G 227 [aB v,aB w] (.tup [aB u,.sb true])) :
  aa Tryz.prog G 173 [x,y] (.tup [eJ zb zu,.sb true]):=by
 subst hx hy;unfold eJ aB aD at *;generalize wW v=V at *;generalize wW w=W at *;generalize wW u=U at *;generalize wW zu=Z at *;rcases h with⟨h1,h2,c1⟩|⟨h1,h2,h3,c1,c2⟩|⟨h1,h2,⟨c,hc,c1⟩,c2⟩
 ·subst h1 h2;cases b <;>
  ·refine aa.aj ak Tryz.func173 rfl rfl _ rfl ?_;(conv=>whnf);repeat' ((first|refine st ?_|(refine⟨fun h=>?_,fun h=>?_⟩<;>try simp only[af] at h)|(refine .inl ?_;(conv=>whnf);(first|refine⟨_,fx,?_⟩|refine⟨_,fy,?_⟩|refine⟨_,c1,?_⟩|refine⟨_,hm,?_⟩))|refine wf ?_|refine aA ?_|refine nn ?_|fail)<;>conv=>whnf)
   all_goals first|contradiction|(exfalso;omega)|skip
 ·subst h3;cases p<;>cases b<;>first|exact absurd rfl h1|skip
  all_goals
   refine aa.aj ak Tryz.func173 rfl rfl _ rfl ?_;(conv=>whnf);repeat' ((first|refine st ?_|(refine⟨fun h=>?_,fun h=>?_⟩<;>try simp only[af] at h)|(refine .inl ?_;(conv=>whnf);(first|refine⟨_,fx,?_⟩|refine⟨_,fy,?_⟩|refine⟨_,c1,?_⟩|refine⟨_,c2,?_⟩|refine⟨_,hm,?_⟩))|refine wf ?_|refine aA ?_|refine nn ?_|fail)<;>conv=>whnf)
   all_goals first|contradiction|(exfalso;omega)|skip
 ·subst h2;cases b<;>cases q<;>first|exact absurd rfl h1|skip
  all_goals
   refine aa.aj ak Tryz.func173 rfl rfl _ rfl ?_;(conv=>whnf);repeat' ((first|refine st ?_|(refine⟨fun h=>?_,fun h=>?_⟩<;>try simp only[af] at h)|(refine .inl ?_;(conv=>whnf);(first|refine⟨_,fx,?_⟩|refine⟨_,fy,?_⟩|refine⟨_,c1,?_⟩|refine⟨_,c2,?_⟩|refine⟨_,hm,?_⟩))|refine wf ?_|refine aA ?_|refine nn ?_|fail)<;>conv=>whnf)
   all_goals first|contradiction|(exfalso;omega)|skip
theorem Oz(x y:Int)(h:x.natAbs+y.natAbs<65536 ^ 32):aa Tryz.prog G 173 [eK x,eK y] (.tup [eK (x+y),.sb true]):=by
 have fx:=sr (G:=G) x (by omega);have fy:=sr (G:=G) y (by omega);have hu:(x+y).natAbs<65536 ^ 32:=by omega
 have key:∀(b:Bool) (u:Nat),u<65536 ^ 32->u=(x+y).natAbs->(b&&decide (u≠0))=decide (x+y<0)->aa Tryz.prog G 234 [.sb b,aB u,.sb true] (.tup [eK (x+y),.sb true]):=fun b u h1 h2 h3=>by
  have:=Hb (G:=G) b u h1;rw[h3,AW h2 rfl] at this;exact this
 by_cases hs:decide (x<0)=decide (y<0)
 ·have j7:=decide_eq_decide.1 hs;refine vV (decide (x<0)) (decide (y<0)) (decide (x<0)) x.natAbs y.natAbs (x.natAbs+y.natAbs) _ _ (decide (x+y<0)) (x+y).natAbs fx fy rfl rfl (key _ _ h (by omega) ?_) (Or.inl ⟨hs,rfl,Em _ _ h⟩);rw[Bool.eq_iff_iff,Bool.and_eq_true,decide_eq_true_iff,decide_eq_true_iff,decide_eq_true_iff];omega
 ·have j7:¬(x<0↔y<0):=fun q=>hs (decide_eq_decide.2 q);have hc:=mh (G:=G) x.natAbs y.natAbs (by omega) (by omega);by_cases aI:x.natAbs<y.natAbs
  ·rw[Lb aI] at hc;refine vV (decide (x<0)) (decide (y<0)) (decide (y<0)) x.natAbs y.natAbs (y.natAbs-x.natAbs) _ _ (decide (x+y<0)) (x+y).natAbs fx fy rfl rfl (key _ _ (by omega) (by omega) ?_) (Or.inr (Or.inl ⟨hs,aI,rfl,hc,mg _ _ (by omega) (by omega)⟩));rw[Bool.eq_iff_iff,Bool.and_eq_true,decide_eq_true_iff,decide_eq_true_iff,decide_eq_true_iff];omega
  ·refine vV (decide (x<0)) (decide (y<0)) (decide (x<0)) x.natAbs y.natAbs (x.natAbs-y.natAbs) _ _ (decide (x+y<0)) (x+y).natAbs fx fy rfl rfl (key _ _ (by omega) (by omega) ?_) (Or.inr (Or.inr ⟨hs,rfl,⟨_,?_,hc⟩,mg _ _ (by omega) (by omega)⟩))
   ·rw[Bool.eq_iff_iff,Bool.and_eq_true,decide_eq_true_iff,decide_eq_true_iff,decide_eq_true_iff];omega
   ·rw[Lc (by omega)];split<;>omega
def qK(x y:Int):Int:=if x<y then -1 else if y<x then 1 else 0
theorem Hc(p q:Bool)(v w:Nat)(x y:A)(r:Int)
  (fx:aa Tryz.prog G 164 [x] (eJ p v)) (fy:aa Tryz.prog G 164 [y] (eJ q w)) (hx:x=eJ p v) (hy:y=eJ q w)
  (c1:aa Tryz.prog G 172 [aB v,aB w] (.int .i64 (dJ v w))) (c2:aa Tryz.prog G 172 [aB w,aB v] (.int .i64 (dJ w v)))
  (hr:r=if p=true then (if q=true then dJ w v else -1) else if q=true then 1 else dJ v w) :
  aa Tryz.prog G 121 [x,y] (.int .i64 r):=by
 subst hx hy hr;unfold eJ aB aD at *;generalize wW v=V at *;generalize wW w=W at *;generalize dJ v w=Y6 at *;generalize dJ w v=Y7 at *;cases p<;>cases q
 all_goals
  refine aa.aj ak Tryz.func121 rfl rfl _ rfl ?_;(conv=>whnf);repeat' ((first|refine st ?_|(refine⟨fun h=>?_,fun h=>?_⟩<;>try simp only[af] at h)|(refine .inl ?_;(conv=>whnf);(first|refine⟨_,fx,?_⟩|refine⟨_,fy,?_⟩|refine⟨_,c1,?_⟩|refine⟨_,c2,?_⟩))|refine wf ?_|refine aA ?_|refine nn ?_|fail)<;>conv=>whnf)
  all_goals first|contradiction|(exfalso;omega)|rfl|skip
theorem Hd(x y:Int)(hx:x.natAbs<65536 ^ 32)(hy:y.natAbs<65536 ^ 32):aa Tryz.prog G 121 [eK x,eK y] (.int .i64 (qK x y)):=by
 refine Hc (decide (x<0)) (decide (y<0)) x.natAbs y.natAbs _ _ _ (sr x hx) (sr y hy) rfl rfl (mh _ _ hx hy) (mh _ _ hy hx) ?_;unfold qK dJ;by_cases a:x<0<;>by_cases b:y<0;all_goals simp only[a,b,decide_true,decide_false,if_true,if_false,Bool.false_eq_true]
 all_goals (repeat' split)<;>omega
def jJ(p q:Bool)(X Y W:Nat->Nat):List A:=[.sb p,.int .u64 (X 0:Nat),.int .u64 (X 1:Nat),.int .u64 (X 2:Nat),.int .u64 (X 3:Nat),.int .u64 (X 4:Nat),.int .u64 (X 5:Nat),.int .u64 (X 6:Nat),.int .u64 (X 7:Nat),.sb q,.int .u64 (Y 0:Nat),.int .u64 (Y 1:Nat),.int .u64 (Y 2:Nat),.int .u64 (Y 3:Nat),.int .u64 (Y 4:Nat),.int .u64 (Y 5:Nat),.int .u64 (Y 6:Nat),.int .u64 (Y 7:Nat),.int .u64 (W 0:Nat),.int .u64 (W 1:Nat),.int .u64 (W 2:Nat),.int .u64 (W 3:Nat),.int .u64 (W 4:Nat),.int .u64 (W 5:Nat),.int .u64 (W 6:Nat),.int .u64 (W 7:Nat)]
def mK(x y:Int)(w:Nat):A:=.agg (jJ (decide (x<0)) (decide (y<0)) (wW x.natAbs) (wW y.natAbs) (wW w))
/-- A whole number over one that divides it. -/
def qz(x:Int)(g:Nat):Int:=if x<0 then -((x.natAbs/g:Nat):Int) else ((x.natAbs/g:Nat):Int)
theorem oR(x:Int)(g:Nat):(qz x g).natAbs=x.natAbs/g:=by unfold qz;generalize x.natAbs/g=k;split<;>omega
theorem He(x:Int)(g:Nat):(decide (x<0)&&decide (x.natAbs/g≠0))=decide (qz x g<0):=by
 unfold qz;generalize x.natAbs/g=k;rw[Bool.eq_iff_iff,Bool.and_eq_true,decide_eq_true_iff,decide_eq_true_iff,decide_eq_true_iff];split<;>omega
def gg(x y:Int)(w:Nat):Nat:=Nat.gcd (Nat.gcd x.natAbs y.natAbs) w
def AY(x y:Int)(w:Nat):A:=mK (qz x (gg x y w)) (qz y (gg x y w)) (w/gg x y w)
theorem Hf{x y:Int}{w:Nat}(h:0<w):0<gg x y w:=Nat.gcd_pos_of_pos_right _ h
theorem M0{x y:Int}{w:Nat}(h:0<w):gg x y w<=w:=Nat.le_of_dvd h (Nat.gcd_dvd_right _ _)
theorem yk(x y:Int)(w:Nat)(hx:x.natAbs<2 ^ 127)(hy:y.natAbs<2 ^ 127)(h0:0<w)(hw:w<18446744073709551616):
  aa Tryz.prog G 110 [eK x,eK y,aB w] (AY x y w):=by
 have hP:=Rx;have OA:(2:Nat) ^ 127=170141183460469231731687303715884105728:=by decide
 have Km:Nat.gcd x.natAbs y.natAbs<2 ^ 127:=by
  by_cases q:x.natAbs=0
  ·rw[q,Nat.gcd_zero_left];exact hy
  ·exact Nat.lt_of_le_of_lt (Nat.le_of_dvd (by omega) (Nat.gcd_dvd_left _ _)) hx
 have c1:=Ha (G:=G) x.natAbs y.natAbs hx hy;have c2:=Ha (G:=G) (Nat.gcd x.natAbs y.natAbs) w Km (by omega);have Ao:=Hf (x:=x) (y:=y) h0;have Tr:=M0 (x:=x) (y:=y) h0;have nx:=He x (gg x y w);have ny:=He y (gg x y w);have ax:=oR x (gg x y w);have ay:=oR y (gg x y w);unfold AY mK;rw[<-nx,<-ny,ax,ay];have e2:Nat.gcd (Nat.gcd x.natAbs y.natAbs) w=gg x y w:=rfl;rw[e2] at c2;clear nx ny ax ay e2;generalize gg x y w=g at *;have d1:=vT (G:=G) x.natAbs g (by omega) Ao (by omega);have d2:=vT (G:=G) y.natAbs g (by omega) Ao (by omega);have d3:=vT (G:=G) w g (by omega) Ao (by omega);have f1:=vU (G:=G) (decide (x<0)) (x.natAbs/g) (Nat.lt_of_le_of_lt (Nat.div_le_self _ _) (by omega));have f2:=vU (G:=G) (decide (y<0)) (y.natAbs/g) (Nat.lt_of_le_of_lt (Nat.div_le_self _ _) (by omega));clear hx hy h0 hw hP OA Km Ao Tr;unfold eK eJ aB aD jJ at *;generalize (decide (x<0)&&decide (x.natAbs/g≠0))=b1 at *;generalize (decide (y<0)&&decide (y.natAbs/g≠0))=b2 at *;generalize decide (x<0)=p at *;generalize decide (y<0)=q at *;generalize wW (x.natAbs/g)=XQ at *;generalize wW (y.natAbs/g)=YQ at *;generalize wW (w/g)=WQ at *;generalize wW (x.natAbs%g)=XR at *;generalize wW (y.natAbs%g)=YR at *;generalize wW (w%g)=WR at *;generalize wW (Nat.gcd x.natAbs y.natAbs)=G1 at *;generalize wW x.natAbs=X at *;generalize wW y.natAbs=Y at *;generalize wW w=Wd at *;generalize wW g=Gv at *;refine aa.aj ak Tryz.func110 rfl rfl _ rfl ?_;(conv=>whnf);repeat' ((first|refine st ?_|(refine⟨fun h=>?_,fun h=>?_⟩<;>try simp only[af] at h)|(refine .inl ?_;(conv=>whnf);(first|refine⟨_,c1,?_⟩|refine⟨_,c2,?_⟩|refine⟨_,d1,?_⟩|refine⟨_,d2,?_⟩|refine⟨_,d3,?_⟩|refine⟨_,f1,?_⟩|refine⟨_,f2,?_⟩))|refine wf ?_|refine aA ?_|refine nn ?_|fail)<;>conv=>whnf)
 all_goals first|contradiction|(exfalso;omega)|skip
theorem CO(a b n d:Int)(ha : -1073741824<=a/\a<=1073741824)(hb : -1073741824<=b/\b<=1073741824)(hn:0<=n/\n<=d)(hd:d<=9223372036854775807):
  aa Tryz.prog G 249 [.int .i64 a,.int .i64 b,.int .i64 n,.int .i64 d] (eK (a*d+(b-a)*n)):=by
 have o1:=CN (G:=G) a (by omega) (by omega);have o2:=CN (G:=G) d (by omega) (by omega);have o3:=CN (G:=G) (b-a) (by omega) (by omega);have o4:=CN (G:=G) n (by omega) (by omega);have m1:a.natAbs*d.natAbs<=1073741824*9223372036854775807:=Nat.mul_le_mul (by omega) (by omega);have m2:(b-a).natAbs*n.natAbs<=2147483648*9223372036854775807:=Nat.mul_le_mul (by omega) (by omega);have p1:=AX (G:=G) a d (by rw[gy];omega) (by omega) (by rw[gy];omega);have p2:=AX (G:=G) (b-a) n (by rw[gy];omega) (by omega) (by rw[gy];omega);have s1:=Oz (G:=G) (a*d) ((b-a)*n) (by rw[gy,Int.natAbs_mul,Int.natAbs_mul];omega);clear m1 m2;generalize a*d+(b-a)*n=r at *;generalize (b-a)*n=r2 at *;generalize a*d=r1 at *;unfold eK eJ at *;generalize wW a.natAbs=V1 at *;generalize wW d.natAbs=V2 at *;generalize wW (b-a).natAbs=V3 at *;generalize wW n.natAbs=V4 at *;generalize wW r.natAbs=V5 at *;generalize wW r1.natAbs=V6 at *;generalize wW r2.natAbs=V7 at *;refine aa.aj ak Tryz.func249 rfl rfl _ rfl ?_;(conv=>whnf);repeat' ((first|refine st ?_|(refine⟨fun h=>?_,fun h=>?_⟩<;>try simp only[af] at h)|(refine .inl ?_;(conv=>whnf);(first|refine⟨_,o1,?_⟩|refine⟨_,o2,?_⟩|refine⟨_,o3,?_⟩|refine⟨_,o4,?_⟩|refine⟨_,p1,?_⟩|refine⟨_,p2,?_⟩|refine⟨_,s1,?_⟩))|refine wf ?_|refine aA ?_|refine nn ?_|fail)<;>conv=>whnf)
 all_goals first|contradiction|(exfalso;omega)|skip
def xS(s:Sg)(n d:Int):Int:=s.a.x*d+(s.b.x-s.a.x)*n
def yS(s:Sg)(n d:Int):Int:=s.a.y*d+(s.b.y-s.a.y)*n
def Wl(s:Sg)(n d:Int):Prop:=bU s/\1<=d/\0<=n/\n<=d
instance (s:Sg) (n d:Int):Decidable (Wl s n d):=inferInstanceAs (Decidable (_/\_))
theorem CQ{a b n d:Int}(ha:lj a)(hb:lj b)(hn:0<=n/\n<=d)(hd:d<=9223372036854775807):(a*d+(b-a)*n).natAbs<2 ^ 127:=by
 unfold lj at ha hb;have m1:a.natAbs*d.natAbs<=536870912*9223372036854775807:=Nat.mul_le_mul (by omega) (by omega);have m2:(b-a).natAbs*n.natAbs<=1073741824*9223372036854775807:=Nat.mul_le_mul (by omega) (by omega);rw[<-Int.natAbs_mul] at m1 m2;have OA:(2:Nat) ^ 127=170141183460469231731687303715884105728:=by decide
 rw[OA];omega
theorem Hg(x y:Int)(w:Nat):∃p q X Y W,AY x y w=.agg (jJ p q X Y W):=⟨_,_,_,_,_,rfl⟩
theorem OB(s:Sg)(n d:Int)(h:Wl s n d)(hd:d<=9223372036854775807):aa Tryz.prog G 189 [.agg (j9 s),.int .i64 n,.int .i64 d] (.tup [AY (xS s n d) (yS s n d) d.toNat,.int .i64 0]):=by
 obtain⟨hL,h1,h2,h3⟩:=h;have hl:=gG (G:=G) s;rw[decide_eq_true hL] at hl;obtain⟨⟨ax,ay⟩,⟨bx,Ky⟩,_⟩:=hL;have c1:=CO (G:=G) s.a.x s.b.x n d (by unfold lj at ax;omega) (by unfold lj at bx;omega) ⟨h2,h3⟩ hd;have c2:=CO (G:=G) s.a.y s.b.y n d (by unfold lj at ay;omega) (by unfold lj at Ky;omega) ⟨h2,h3⟩ hd;have b1:=CQ ax bx ⟨h2,h3⟩ hd;have b2:=CQ ay Ky ⟨h2,h3⟩ hd
 obtain⟨D,rfl⟩:∃D:Nat,d=D:=⟨d.toNat,by omega⟩;have c3:=nN (G:=G) D;have c4:=yk (G:=G) (xS s n D) (yS s n D) D b1 b2 (by omega) (by omega);have hw:=jI (b:=D) (by omega);rw[<-hw] at c3;have ex:s.a.x*(D:Int)+(s.b.x-s.a.x)*n=xS s n D:=rfl;have ey:s.a.y*(D:Int)+(s.b.y-s.a.y)*n=yS s n D:=rfl;rw[ex] at c1;rw[ey] at c2;have et:((D:Nat):Int).toNat=D:=Int.toNat_natCast D;rw[et];clear hw b1 b2 ex ey ax ay bx Ky et
 obtain⟨p,q,X,Y,W,Wm⟩:=Hg (xS s n D) (yS s n D) D;rw[Wm] at c4 ⊢;clear Wm;unfold eK eJ jJ at *;unfold aB aD at *;generalize decide (xS s n D<0)=p1 at *;generalize decide (yS s n D<0)=q1 at *;generalize wW (xS s n D).natAbs=V1 at *;generalize wW (yS s n D).natAbs=V2 at *;generalize wW D=V3 at *;refine aa.aj ak Tryz.func189 rfl rfl _ rfl ?_;(conv=>whnf);repeat' ((first|(exact absurd (show(D:Int)<1 by assumption) (by omega))|(exact absurd (show n<0 by assumption) (by omega))|(exact absurd h3 (by assumption))|refine st ?_|(refine⟨fun h=>?_,fun h=>?_⟩<;>try simp only[af] at h)|(refine .inl ?_;(conv=>whnf);(first|refine⟨_,hl,?_⟩|refine⟨_,c1,?_⟩|refine⟨_,c2,?_⟩|refine⟨_,c3,?_⟩|refine⟨_,c4,?_⟩))|refine wf ?_|refine aA ?_|refine nn ?_|fail)<;>conv=>whnf)
 all_goals first|contradiction|(exfalso;omega)|skip
theorem OC(y L:Nat)(h0:0<y)(hy:y<18446744073709551616)(hL:1<=L)(h1:2 ^ (L-1)<=y)(h2:y<2 ^ L):aa Tryz.prog G 161 [.int .u64 y] (.int .i64 L):=by
 have c:=CE (G:=G) y L h0 hy hL h1 h2;refine aa.aj ak Tryz.func161 rfl rfl _ rfl ?_;(conv=>whnf);repeat' ((first|refine st ?_|(refine⟨fun h=>?_,fun h=>?_⟩<;>try simp only[af] at h)|(refine .inl ?_;(conv=>whnf);refine⟨_,c,?_⟩)|refine wf ?_|refine aA ?_|refine nn ?_|fail)<;>conv=>whnf)
 all_goals first|contradiction|(exfalso;omega)|skip
theorem Ry(A:Nat->Nat)(L:Nat)(hL:L<=64)(hz:∀k,0<k->k<8->A k=0)(hj:A 0≠0)(hl:aa Tryz.prog G 161 [.int .u64 (A 0:Int)] (.int .i64 (L:Int))):
  aa Tryz.prog G 108 [aD A] (.int .i64 ((64*0+L:Nat):Int)):=by
 unfold aD;refine aa.aj ak Tryz.func108 rfl rfl _ rfl ?_;(conv=>whnf)
 repeat (first|(refine st ?_;conv=>whnf))
 refine al (fun t:Nat=>t<=7) (fun t=>[(3,.int .i64 (7-(t:Int)))]) (fun t=>[jG A]) (fun t=>8-t) 0 (by omega) ?_ ?_
 ·conv=>whnf
  repeat (first|exact fa|((first|refine fb ?_|(refine And.intro ?_ ?_;rotate_left));conv=>whnf))
 ·intro i hi;have e:i=0\/i=1\/i=2\/i=3\/i=4\/i=5\/i=6\/i=7:=by omega
  have z1:=hz 1 (by omega) (by omega);have z2:=hz 2 (by omega) (by omega);have z3:=hz 3 (by omega) (by omega);have z4:=hz 4 (by omega) (by omega);have z5:=hz 5 (by omega) (by omega);have z6:=hz 6 (by omega) (by omega);have z7:=hz 7 (by omega) (by omega);rcases e with rfl|rfl|rfl|rfl|rfl|rfl|rfl|rfl
  all_goals
   (conv=>whnf);repeat' ((first|(exact absurd (Int.ofNat_eq_zero.1 (by assumption)) hj)|(exact absurd (congrArg Nat.cast (hz _ (by omega) (by omega))) (by assumption))|refine st ?_|(refine⟨fun h=>?_,fun h=>?_⟩<;>try simp only[af] at h)|(refine .inl ?_;(conv=>whnf);refine⟨_,hl,?_⟩)|refine wf ?_|refine aA ?_|refine nn ?_|fail)<;>conv=>whnf)
  all_goals first|contradiction|(exfalso;omega)|skip
  all_goals first|refine⟨1,by decide,by decide,?_⟩|refine⟨2,by decide,by decide,?_⟩|refine⟨3,by decide,by decide,?_⟩|refine⟨4,by decide,by decide,?_⟩|refine⟨5,by decide,by decide,?_⟩|refine⟨6,by decide,by decide,?_⟩|refine⟨7,by decide,by decide,?_⟩|skip
  all_goals first|omega|skip
  all_goals
   exact ff
theorem Rz(A:Nat->Nat)(L:Nat)(hL:L<=64)(hz:∀k,1<k->k<8->A k=0)(hj:A 1≠0)(hl:aa Tryz.prog G 161 [.int .u64 (A 1:Int)] (.int .i64 (L:Int))):
  aa Tryz.prog G 108 [aD A] (.int .i64 ((64*1+L:Nat):Int)):=by
 unfold aD;refine aa.aj ak Tryz.func108 rfl rfl _ rfl ?_;(conv=>whnf)
 repeat (first|(refine st ?_;conv=>whnf))
 refine al (fun t:Nat=>t<=6) (fun t=>[(3,.int .i64 (7-(t:Int)))]) (fun t=>[jG A]) (fun t=>8-t) 0 (by omega) ?_ ?_
 ·conv=>whnf
  repeat (first|exact fa|((first|refine fb ?_|(refine And.intro ?_ ?_;rotate_left));conv=>whnf))
 ·intro i hi;have e:i=0\/i=1\/i=2\/i=3\/i=4\/i=5\/i=6:=by omega
  have z2:=hz 2 (by omega) (by omega);have z3:=hz 3 (by omega) (by omega);have z4:=hz 4 (by omega) (by omega);have z5:=hz 5 (by omega) (by omega);have z6:=hz 6 (by omega) (by omega);have z7:=hz 7 (by omega) (by omega);rcases e with rfl|rfl|rfl|rfl|rfl|rfl|rfl
  all_goals
   (conv=>whnf);repeat' ((first|(exact absurd (Int.ofNat_eq_zero.1 (by assumption)) hj)|(exact absurd (congrArg Nat.cast (hz _ (by omega) (by omega))) (by assumption))|refine st ?_|(refine⟨fun h=>?_,fun h=>?_⟩<;>try simp only[af] at h)|(refine .inl ?_;(conv=>whnf);refine⟨_,hl,?_⟩)|refine wf ?_|refine aA ?_|refine nn ?_|fail)<;>conv=>whnf)
  all_goals first|contradiction|(exfalso;omega)|skip
  all_goals first|refine⟨1,by decide,by decide,?_⟩|refine⟨2,by decide,by decide,?_⟩|refine⟨3,by decide,by decide,?_⟩|refine⟨4,by decide,by decide,?_⟩|refine⟨5,by decide,by decide,?_⟩|refine⟨6,by decide,by decide,?_⟩|skip
  all_goals first|omega|skip
  all_goals
   exact ff
theorem Hh(A:Nat->Nat)(hz:∀k,k<8->A k=0):aa Tryz.prog G 108 [aD A] (.int .i64 0):=by
 unfold aD;refine aa.aj ak Tryz.func108 rfl rfl _ rfl ?_;(conv=>whnf)
 repeat (first|(refine st ?_;conv=>whnf))
 refine al (fun t:Nat=>t<=8) (fun t=>[(3,.int .i64 (7-(t:Int)))]) (fun t=>[jG A]) (fun t=>8-t) 0 (by omega) ?_ ?_
 ·conv=>whnf
  repeat (first|exact fa|((first|refine fb ?_|(refine And.intro ?_ ?_;rotate_left));conv=>whnf))
 ·intro i hi;have e:i=0\/i=1\/i=2\/i=3\/i=4\/i=5\/i=6\/i=7\/i=8:=by omega
  have z0:=hz 0 (by omega);have z1:=hz 1 (by omega);have z2:=hz 2 (by omega);have z3:=hz 3 (by omega);have z4:=hz 4 (by omega);have z5:=hz 5 (by omega);have z6:=hz 6 (by omega);have z7:=hz 7 (by omega);rcases e with rfl|rfl|rfl|rfl|rfl|rfl|rfl|rfl|rfl
  all_goals
   (conv=>whnf);repeat' ((first|(exact absurd (congrArg Nat.cast (hz _ (by omega))) (by assumption))|refine st ?_|(refine⟨fun h=>?_,fun h=>?_⟩<;>try simp only[af] at h)|refine wf ?_|refine aA ?_|refine nn ?_|fail)<;>conv=>whnf)
  all_goals first|contradiction|(exfalso;omega)|skip
  all_goals first|refine⟨1,by decide,by decide,?_⟩|refine⟨2,by decide,by decide,?_⟩|refine⟨3,by decide,by decide,?_⟩|refine⟨4,by decide,by decide,?_⟩|refine⟨5,by decide,by decide,?_⟩|refine⟨6,by decide,by decide,?_⟩|refine⟨7,by decide,by decide,?_⟩|refine⟨8,by decide,by decide,?_⟩
  all_goals
   conv=>whnf
   repeat (first|exact fa|((first|refine fb ?_|(refine And.intro ?_ ?_;rotate_left));conv=>whnf))
theorem iv{v:Nat}(h:v<2 ^ 128){k:Nat}(hk:2<=k):wW v k=0:=by
 unfold wW
 have hp:(2:Nat) ^ 128<=18446744073709551616 ^ k:=by
  rw[show(18446744073709551616:Nat)=2 ^ 64 from rfl,<-Nat.pow_mul];exact Nat.pow_le_pow_right (by omega) (by omega)
 rw[Nat.div_eq_of_lt (Nat.lt_of_lt_of_le h hp)]
/-- A number below 2^120 has 120 bits at most. -/
theorem AZ(v:Nat)(hv:v<2 ^ 120):∃L:Nat,L<=120/\aa Tryz.prog G 108 [aB v] (.int .i64 (L:Int)):=by
 have Ld:v<2 ^ 128:=Nat.lt_trans hv (by decide);have Ur:v<65536 ^ 32:=Nat.lt_trans hv (by decide);have hx:=cc (cj v);rw[eI Ur,iv Ld (k:=2) (by omega),iv Ld (k:=3) (by omega),iv Ld (k:=4) (by omega),iv Ld (k:=5) (by omega),iv Ld (k:=6) (by omega),iv Ld (k:=7) (by omega)] at hx;have w0:=cj v 0;have w1:=cj v 1
 have lg:∀y:Nat,y≠0->y<18446744073709551616->∃L:Nat,1<=L/\L<=64/\2 ^ (L-1)<=y/\aa Tryz.prog G 161 [.int .u64 y] (.int .i64 L):=fun y h0 hy=>by
  have a:=Nat.log2_self_le h0;have b:=Nat.lt_log2_self (n:=y);refine⟨y.log2+1,by omega,?_,by rw[Nat.add_sub_cancel];exact a,OC y _ (by omega) hy (by omega) (by rw[Nat.add_sub_cancel];exact a) b⟩;have:2 ^ y.log2<2 ^ 64:=Nat.lt_of_le_of_lt a hy;have:=(Nat.pow_lt_pow_iff_right (a:=2) (by omega)).1 this;omega
 by_cases h1:wW v 1=0
 ·by_cases h0:wW v 0=0
  ·refine⟨0,by omega,Hh (wW v) fun k hk=>?_⟩;by_cases q:2<=k
   ·exact iv Ld q
   ·have:k=0\/k=1:=by omega
    rcases this with rfl|rfl
    ·exact h0
    ·exact h1
  ·obtain⟨L,l1,l2,l3,l4⟩:=lg _ h0 w0;refine⟨64*0+L,by omega,Ry (wW v) L l2 (fun k FH hk=>?_) h0 l4⟩;by_cases q:2<=k
   ·exact iv Ld q
   ·obtain rfl:k=1:=by omega
    exact h1
 ·obtain⟨L,l1,l2,l3,l4⟩:=lg _ h1 w1;refine⟨64*1+L,?_,Rz (wW v) L l2 (fun k FH hk=>iv Ld (by omega)) h1 l4⟩
  have hle:18446744073709551616*2 ^ (L-1)<=v:=by
   have:=Nat.mul_le_mul_left 18446744073709551616 l3;omega
  have h2:2 ^ (64+(L-1))<2 ^ 120:=by
   rw[Nat.pow_add];exact Nat.lt_of_le_of_lt hle hv
  have:=(Nat.pow_lt_pow_iff_right (a:=2) (by omega)).1 h2;omega
/-- In lowest terms, and not too great. -/
def su(a b:Int)(c:Nat):Prop:=gg a b c=1/\a.natAbs<2 ^ 119/\b.natAbs<2 ^ 119/\0<c/\c<18446744073709551616
theorem Hi(x:Int):qz x 1=x:=by unfold qz;rw[Nat.div_one];split<;>omega
theorem Hj{a b:Int}{c:Nat}(h:su a b c):AY a b c=mK a b c:=by
 unfold AY;rw[h.1,Hi,Hi,Nat.div_one]
theorem Hk{x y:Int}{w:Nat}(hx:x.natAbs<2 ^ 119)(hy:y.natAbs<2 ^ 119)(h0:0<w)(hw:w<18446744073709551616):su (qz x (gg x y w)) (qz y (gg x y w)) (w/gg x y w):=by
 have Ao:=Hf (x:=x) (y:=y) h0;have Tr:=M0 (x:=x) (y:=y) h0;have d1:gg x y w ∣ x.natAbs:=Nat.dvd_trans (Nat.gcd_dvd_left _ _) (Nat.gcd_dvd_left _ _);have d2:gg x y w ∣ y.natAbs:=Nat.dvd_trans (Nat.gcd_dvd_left _ _) (Nat.gcd_dvd_right _ _);have d3:gg x y w ∣ w:=Nat.gcd_dvd_right _ _;refine⟨?_,?_,?_,Nat.div_pos Tr Ao,Nat.lt_of_le_of_lt (Nat.div_le_self _ _) hw⟩
 ·have e:gg x y w=Nat.gcd (Nat.gcd x.natAbs y.natAbs) w:=rfl;unfold gg at *;rw[oR,oR,Nat.gcd_div d1 d2,Nat.gcd_div (Nat.gcd_dvd_left _ _) d3];exact Nat.div_self Ao
 ·rw[oR];exact Nat.lt_of_le_of_lt (Nat.div_le_self _ _) hx
 ·rw[oR];exact Nat.lt_of_le_of_lt (Nat.div_le_self _ _) hy
theorem OD(a b:Int)(c:Nat)(h:su a b c):aa Tryz.prog G 72 [mK a b c] (.sb true):=by
 have OE:(2:Nat) ^ 119<2 ^ 127:=by decide
 have OF:(2:Nat) ^ 119<2 ^ 120:=by decide
 have Rp:(18446744073709551616:Nat)<2 ^ 120:=by decide
 have qH:=yk (G:=G) a b c (Nat.lt_trans h.2.1 OE) (Nat.lt_trans h.2.2.1 OE) h.2.2.2.1 h.2.2.2.2;rw[Hj h] at qH;obtain⟨hn,ha,hb,FB,hc⟩:=h;obtain⟨L1,l1,k1⟩:=AZ (G:=G) a.natAbs (Nat.lt_trans ha OF);obtain⟨L2,l2,k2⟩:=AZ (G:=G) b.natAbs (Nat.lt_trans hb OF);obtain⟨L3,l3,k3⟩:=AZ (G:=G) c (Nat.lt_trans hc Rp);have hz:=iH (G:=G) c (by rw[gy];omega);rw[decide_eq_false (by omega)] at hz;clear ha hb hn OE OF Rp hc FB;unfold mK eK eJ jJ at *;unfold aB aD at *;generalize decide (a<0)=p at *;generalize decide (b<0)=q at *;generalize wW a.natAbs=X at *;generalize wW b.natAbs=Y at *;generalize wW c=W at *;refine aa.aj ak Tryz.func72 rfl rfl _ rfl ?_;(conv=>whnf);repeat' ((first|refine st ?_|(refine⟨fun h=>?_,fun h=>?_⟩<;>try simp only[af] at h)|refine wf ?_|refine aA ?_|refine nn ?_|fail)<;>conv=>whnf)
 all_goals first|contradiction|(exfalso;omega)|skip
 refine al (fun i:Nat=>i<=3) (fun i=>[(15,.int .i64 (i:Int))]) (fun i=>[.box 57 (jJ p q X Y W),.row 53 8 3 (fun i=>fT 8 (List.drop (i*8) [.int .u64 (X 0:Nat),.int .u64 (X 1:Nat),.int .u64 (X 2:Nat),.int .u64 (X 3:Nat),.int .u64 (X 4:Nat),.int .u64 (X 5:Nat),.int .u64 (X 6:Nat),.int .u64 (X 7:Nat),.int .u64 (Y 0:Nat),.int .u64 (Y 1:Nat),.int .u64 (Y 2:Nat),.int .u64 (Y 3:Nat),.int .u64 (Y 4:Nat),.int .u64 (Y 5:Nat),.int .u64 (Y 6:Nat),.int .u64 (Y 7:Nat),.int .u64 (W 0:Nat),.int .u64 (W 1:Nat),.int .u64 (W 2:Nat),.int .u64 (W 3:Nat),.int .u64 (W 4:Nat),.int .u64 (W 5:Nat),.int .u64 (W 6:Nat),.int .u64 (W 7:Nat)]))]) (fun i=>3-i) 0 (by omega) ?_ ?_
 ·conv=>whnf
  repeat (first|exact fa|((first|refine fb ?_|(refine And.intro ?_ ?_;rotate_left));conv=>whnf))
 ·intro i hi;have e:i=0\/i=1\/i=2\/i=3:=by omega
  rcases e with rfl|rfl|rfl|rfl
  ·(conv=>whnf);repeat' ((first|refine st ?_|(refine⟨fun h=>?_,fun h=>?_⟩<;>try simp only[af] at h)|(refine .inl ?_;(conv=>whnf);refine⟨_,k1,?_⟩)|refine wf ?_|refine aA ?_|refine nn ?_|fail)<;>conv=>whnf)
   all_goals first|contradiction|(exfalso;omega)|skip
   refine⟨1,(by show 1<=3;omega),(by show 3-1<3-0;omega),?_⟩;(conv=>whnf)
   repeat (first|exact fa|((first|refine fb ?_|(refine And.intro ?_ ?_;rotate_left));conv=>whnf))
  ·(conv=>whnf);repeat' ((first|refine st ?_|(refine⟨fun h=>?_,fun h=>?_⟩<;>try simp only[af] at h)|(refine .inl ?_;(conv=>whnf);refine⟨_,k2,?_⟩)|refine wf ?_|refine aA ?_|refine nn ?_|fail)<;>conv=>whnf)
   all_goals first|contradiction|(exfalso;omega)|skip
   refine⟨2,(by show 2<=3;omega),(by show 3-2<3-1;omega),?_⟩;(conv=>whnf)
   repeat (first|exact fa|((first|refine fb ?_|(refine And.intro ?_ ?_;rotate_left));conv=>whnf))
  ·(conv=>whnf);repeat' ((first|refine st ?_|(refine⟨fun h=>?_,fun h=>?_⟩<;>try simp only[af] at h)|(refine .inl ?_;(conv=>whnf);refine⟨_,k3,?_⟩)|refine wf ?_|refine aA ?_|refine nn ?_|fail)<;>conv=>whnf)
   all_goals first|contradiction|(exfalso;omega)|skip
   refine⟨3,(by show 3<=3;omega),(by show 3-3<3-2;omega),?_⟩;(conv=>whnf)
   repeat (first|exact fa|((first|refine fb ?_|(refine And.intro ?_ ?_;rotate_left));conv=>whnf))
  ·(conv=>whnf);repeat' ((first|refine st ?_|(refine⟨fun h=>?_,fun h=>?_⟩<;>try simp only[af] at h)|(refine .inl ?_;(conv=>whnf);(first|refine⟨_,hz,?_⟩|refine⟨_,qH,?_⟩))|refine wf ?_|refine aA ?_|refine nn ?_|fail)<;>conv=>whnf)
   all_goals first|contradiction|(exfalso;omega)|(simp;done)|skip
theorem Hl(w:Nat):eK (w:Int)=eJ false w:=by
 unfold eK;rw[decide_eq_false (by omega),Int.natAbs_natCast]
theorem q9(a:Int)(w:Nat)(ha:a.natAbs<2 ^ 119)(hw:w<18446744073709551616):aa Tryz.prog G 203 [eK a,aB w] (eK (a*w)):=by
 have A0:(2:Nat) ^ 119=664613997892457936451903530140172288:=by decide
 rw[A0] at ha;have m:a.natAbs*w<=664613997892457936451903530140172288*18446744073709551616:=Nat.mul_le_mul (by omega) (by omega);have c:=AX (G:=G) a (w:Int) (by rw[gy];omega) (by rw[Int.natAbs_natCast];exact hw) (by rw[Int.natAbs_natCast,gy];omega);rw[Hl w] at c;clear m A0 ha hw;unfold eK eJ at *;unfold aB aD;generalize a*(w:Int)=r at *;generalize wW a.natAbs=X at *;generalize wW w=W at *;generalize wW r.natAbs=Z at *;generalize decide (a<0)=p at *;generalize decide (r<0)=q at *
 have c:=c.fit (sv:=[.agg [.sb p,.int .u64 (X 0:Nat),.int .u64 (X 1:Nat),.int .u64 (X 2:Nat),.int .u64 (X 3:Nat),.int .u64 (X 4:Nat),.int .u64 (X 5:Nat),.int .u64 (X 6:Nat),.int .u64 (X 7:Nat)],.agg [.bool false,.int .u64 (W 0:Nat),.int .u64 (W 1:Nat),.int .u64 (W 2:Nat),.int .u64 (W 3:Nat),.int .u64 (W 4:Nat),.int .u64 (W 5:Nat),.int .u64 (W 6:Nat),.int .u64 (W 7:Nat)]]) (by
  conv=>whnf
  repeat (first|exact fa|((first|refine fb ?_|(refine And.intro ?_ ?_;rotate_left));conv=>whnf)))
 refine aa.aj ak Tryz.func203 rfl rfl _ rfl ?_;(conv=>whnf);repeat' ((first|refine st ?_|(refine⟨fun h=>?_,fun h=>?_⟩<;>try simp only[af] at h)|(refine .inl ?_;(conv=>whnf);refine⟨_,c,?_⟩)|refine wf ?_|refine aA ?_|refine nn ?_|fail)<;>conv=>whnf)
 all_goals first|contradiction|(exfalso;omega)|skip
def Hm(a b:Int)(c:Nat)(a' b':Int)(c':Nat):Int:=cx [qK (a*c') (a'*c),qK (b*c') (b'*c)]
theorem Ew(a b:Int)(c:Nat)(a' b':Int)(c':Nat)(h:su a b c)(h':su a' b' c'):aa Tryz.prog G 146 [mK a b c,mK a' b' c'] (.int .i64 (Hm a b c a' b' c')):=by
 obtain⟨_,ha,hb,FB,hc⟩:=h;obtain⟨_,Qr,gj,Us,RA⟩:=h';have t1:=q9 (G:=G) a c' ha RA;have t2:=q9 (G:=G) a' c Qr hc;have t3:=q9 (G:=G) b c' hb RA;have t4:=q9 (G:=G) b' c gj hc;have A0:(2:Nat) ^ 119=664613997892457936451903530140172288:=by decide
 rw[A0] at ha hb Qr gj
 have bd:∀(x:Int) (w:Nat),x.natAbs<664613997892457936451903530140172288->w<18446744073709551616->(x*w).natAbs<65536 ^ 32:=fun x w h1 h2=>by
  rw[Int.natAbs_mul,Int.natAbs_natCast,gy];have m:x.natAbs*w<=664613997892457936451903530140172288*18446744073709551616:=Nat.mul_le_mul (by omega) (by omega);omega
 have k1:=Hd (G:=G) (a*c') (a'*c) (bd _ _ ha RA) (bd _ _ Qr hc);have k2:=Hd (G:=G) (b*c') (b'*c) (bd _ _ hb RA) (bd _ _ gj hc);have ko:=F6 (G:=G) [qK (a*c') (a'*c),qK (b*c') (b'*c)] (by simp);unfold Hm;generalize qK (a*c') (a'*c)=z1 at *;generalize qK (b*c') (b'*c)=z2 at *;generalize cx [z1,z2]=z at *
 have ko:=ko.fit (sv:=[.sl 2 1 (fun i=>fT 1 (List.drop (i*1) [.int .i64 z1,.int .i64 z2]))]) (by
  conv=>whnf
  repeat (first|exact fa|((first|refine fb ?_|(refine And.intro ?_ ?_;rotate_left));conv=>whnf))
  all_goals (refine Or.inl fun i hi=>?_;rcases i with _|_|_|_|i<;>first|rfl|omega))
 clear bd A0 ha hb Qr gj hc RA FB Us;unfold mK eK eJ jJ at *;unfold aB aD at *;generalize decide (a<0)=p1 at *;generalize decide (b<0)=p2 at *;generalize decide (a'<0)=p3 at *;generalize decide (b'<0)=p4 at *;generalize decide (a*(c':Int)<0)=p5 at *;generalize decide (b*(c':Int)<0)=p6 at *;generalize decide (a'*(c:Int)<0)=p7 at *;generalize decide (b'*(c:Int)<0)=p8 at *;generalize wW a.natAbs=V1 at *;generalize wW b.natAbs=V2 at *;generalize wW a'.natAbs=V3 at *;generalize wW b'.natAbs=V4 at *;generalize wW (a*(c':Int)).natAbs=V5 at *;generalize wW (b*(c':Int)).natAbs=V6 at *;generalize wW (a'*(c:Int)).natAbs=V7 at *;generalize wW (b'*(c:Int)).natAbs=V8 at *;generalize wW c=V9 at *;generalize wW c'=V0 at *;refine aa.aj ak Tryz.func146 rfl rfl _ rfl ?_;(conv=>whnf);repeat' ((first|refine st ?_|(refine⟨fun h=>?_,fun h=>?_⟩<;>try simp only[af] at h)|(refine .inl ?_;(conv=>whnf);(first|refine⟨_,t1,?_⟩|refine⟨_,t2,?_⟩|refine⟨_,t3,?_⟩|refine⟨_,t4,?_⟩|refine⟨_,k1,?_⟩|refine⟨_,k2,?_⟩|refine⟨_,ko,?_⟩))|(refine .inr (.inr (.inl ?_));(conv=>whnf);refine⟨_,ko,?_⟩)|((first|refine .inr (.inr (.inr ?_))|refine .inr ?_);(conv=>whnf);refine⟨_,_,ko,?_⟩)|refine wf ?_|refine aA ?_|refine nn ?_|fail)<;>conv=>whnf)
 all_goals first|contradiction|(exfalso;omega)|skip
end Go.Proofs.YtijddijloelacaaGreat
namespace Go.Proofs.YtijddijloelacaaGreat
open Go.Proofs.YtijddijloelacaaGreat.Am Go.Sort Go.Proofs
variable [Inhabited bY]
variable {G:aG}
theorem Le{s t:Sg}(hT:cL s t)(hA:hU s t){f l:Pt}(h:Re s t f l)(e:f=l):(f=s.a\/f=s.b)/\(f=t.a\/f=t.b):=by
 have hs:=hT.1;have ht:=hT.2.1;obtain⟨f1,f2,l1,l2,Gn⟩:=h;subst e;obtain⟨hL,hne,fP⟩:=Cn hA;have z:aC s.a s.b s.a=0:=by unfold aC;grind
 obtain⟨fm,fc,fd⟩:=oP f2.1
 have key:∀q,q∈cv s t->dO s t q->aC s.a s.b q=aC s.a s.b f:=fun q hq hb=>by
  have:=Gn q hq hb;have e1:=(oP hb.1).2.2;omega
 obtain⟨ia,ib⟩:=fP f fm fc;have jf:=ia.1 f2.1;have kf:=ib.1 f2.2;have ca:dK s.a s.b t.a=0:=by have:=hA.2.2.1;rwa [de (bp hs ht.1)] at this
 have cb:dK s.a s.b t.b=0:=by have:=hA.2.2.2;rwa [de (bp hs ht.2.1)] at this
 have ka:(aC s.a s.b t.a<=0/\0<=aC s.a s.b t.b)\/(aC s.a s.b t.b<=0/\0<=aC s.a s.b t.a)->0=aC s.a s.b f:=fun h=>by
  have q:=(fP s.a hs.1 (rS hs).2.2.1).2.2 (by rw[z];exact h);have:=key s.a (by simp[cv]) ⟨rS hs,q⟩;omega
 have kb:(aC s.a s.b t.a<=aC s.a s.b s.b/\aC s.a s.b s.b<=aC s.a s.b t.b)\/(aC s.a s.b t.b<=aC s.a s.b s.b/\aC s.a s.b s.b<=aC s.a s.b t.a)->aC s.a s.b s.b=aC s.a s.b f:=fun h=>by
  have q:=(fP s.b hs.2.1 (J' hs).2.2.1).2.2 h;exact key s.b (by simp[cv]) ⟨J' hs,q⟩
 have kc:0<=aC s.a s.b t.a/\aC s.a s.b t.a<=aC s.a s.b s.b->aC s.a s.b t.a=aC s.a s.b f:=fun h =>
  key t.a (by simp[cv]) ⟨(fP t.a ht.1 ca).1.2 h,rS ht⟩
 have kd:0<=aC s.a s.b t.b/\aC s.a s.b t.b<=aC s.a s.b s.b->aC s.a s.b t.b=aC s.a s.b f:=fun h =>
  key t.b (by simp[cv]) ⟨(fP t.b ht.2.1 cb).1.2 h,J' ht⟩
 have g1:aC s.a s.b f=0\/aC s.a s.b f=aC s.a s.b s.b:=by omega
 have g2:aC s.a s.b f=aC s.a s.b t.a\/aC s.a s.b f=aC s.a s.b t.b:=by omega
 constructor
 ·rcases g1 with g|g
  ·exact Or.inl (iu hs fc (rS hs).2.2.1 (by omega))
  ·exact Or.inr (iu hs fc (J' hs).2.2.1 g)
 ·rcases g2 with g|g
  ·exact Or.inl (iu hs fc ca g)
  ·exact Or.inr (iu hs fc cb g)
theorem A1(ux uy vx vy wx wy ax:Int):ux*(wx*vy-wy*vx)+ax*(ux*vy-uy*vx)=vx*(wx*uy-wy*ux)+(wx+ax)*(ux*vy-uy*vx):=by grind
theorem Hn(a b c d e f g:Int)(h:a*b+c*d=e*f+g*d):a * -b+c * -d=e * -f+g * -d:=by grind
/-- Both lines tell the same place. -/
theorem sA(s t:Sg)(h:(bq s t).k=1):cL s t/\0<=(bq s t).n/\0<=(bq s t).m/\0<(bq s t).d/\(bq s t).n<=(bq s t).d/\(bq s t).m<=(bq s t).d /\
  (bq s t).d<=9223372036854775807 /\
  (s.b.x-s.a.x)*(bq s t).n+s.a.x*(bq s t).d=(t.b.x-t.a.x)*(bq s t).m+t.a.x*(bq s t).d:=by
 unfold bq at *;by_cases hT:cL s t
 ·rw[if_pos hT] at *;refine⟨hT,?_⟩;by_cases hd:rD s t=0
  ·rw[if_pos hd] at *;have hA:=(jC s t hT).2 hd;obtain⟨f,l,hE,hR⟩:=exts hT hA;rw[hR] at h ⊢;unfold Tl at h ⊢;by_cases hf:f=l
   ·rw[if_neg (fun q=>q hf)] at h ⊢;obtain⟨o1,o2⟩:=Le hT hA hE hf;have ns:s.a≠s.b:=fun e=>hT.1.2.2 (by rw[e];exact⟨rfl,rfl⟩);have nt:t.a≠t.b:=fun e=>hT.2.1.2.2 (by rw[e];exact⟨rfl,rfl⟩);refine⟨?_,?_,Int.zero_lt_one,?_,?_,(by show(1:Int)<=9223372036854775807;decide),?_⟩
    ·dsimp only;split<;>omega
    ·dsimp only;split<;>omega
    ·dsimp only;split<;>omega
    ·dsimp only;split<;>omega
    ·dsimp only
     rcases o1 with o1|o1
     ·rw[if_neg (fun q=>ns (o1.symm.trans q))];rcases o2 with o2|o2
      ·rw[if_neg (fun q=>nt (o2.symm.trans q)),<-o1,<-o2];omega
      ·rw[if_pos o2,<-o1,<-o2];omega
     ·rw[if_pos o1];rcases o2 with o2|o2
      ·rw[if_neg (fun q=>nt (o2.symm.trans q)),<-o1,<-o2];omega
      ·rw[if_pos o2,<-o1,<-o2];omega
   ·rw[if_pos hf] at h;exact absurd (show(2:Int)=1 from h) (by decide)
  ·rw[if_neg hd] at *;obtain⟨b1,b2,b3,b4,_⟩:=rX hT hd;obtain⟨_,_,b5,b6⟩:=Xt hT.1 hT.2.1;have Ue : -9223372036854775807<=rD s t/\rD s t<=9223372036854775807:=by unfold rD;omega
   have e:=A1 (s.b.x-s.a.x) (s.b.y-s.a.y) (t.b.x-t.a.x) (t.b.y-t.a.y) (t.a.x-s.a.x) (t.a.y-s.a.y) s.a.x;rw[show t.a.x-s.a.x+s.a.x=t.a.x by omega] at e;have e':(s.b.x-s.a.x)*rN s t+s.a.x*rD s t=(t.b.x-t.a.x)*rM s t+t.a.x*rD s t:=e;by_cases hn:rD s t<0
   ·have eq:bV s t=⟨1,-(rN s t),-(rM s t),-(rD s t),⟨0,0⟩,⟨0,0⟩⟩:=by unfold bV;rw[if_pos hn]
    rw[eq] at b1 b2 b3 b4 ⊢
    dsimp only at b1 b2 b3 b4 ⊢
    refine⟨b1,b3,by omega,b2,b4,by omega,Hn _ _ _ _ _ _ _ e'⟩
   ·have eq:bV s t=⟨1,rN s t,rM s t,rD s t,⟨0,0⟩,⟨0,0⟩⟩:=by unfold bV;rw[if_neg hn]
    rw[eq] at b1 b2 b3 b4 ⊢
    dsimp only at b1 b2 b3 b4 ⊢
    refine⟨b1,b3,by omega,b2,b4,by omega,e'⟩
 ·rw[if_neg hT] at h;exact absurd h (by decide)
end Go.Proofs.YtijddijloelacaaGreat
namespace Go.Proofs.YtijddijloelacaaGreat
open Go.Proofs.YtijddijloelacaaGreat.Am
variable [Inhabited bY]
variable {G:aG}
theorem yl{a b n d:Int}(ha:lj a)(hb:lj b)(hn:0<=n/\n<=d)(hd:d<=9223372036854775807):(a*d+(b-a)*n).natAbs<2 ^ 119:=by
 unfold lj at ha hb;have m1:a.natAbs*d.natAbs<=536870912*9223372036854775807:=Nat.mul_le_mul (by omega) (by omega);have m2:(b-a).natAbs*n.natAbs<=1073741824*9223372036854775807:=Nat.mul_le_mul (by omega) (by omega);rw[<-Int.natAbs_mul] at m1 m2;have A0:(2:Nat) ^ 119=664613997892457936451903530140172288:=by decide
 rw[A0];omega
end Go.Proofs.YtijddijloelacaaGreat
namespace Go.Proofs.YtijddijloelacaaGreat.Am
open Go.Shelf Go.RowKit Go.Lib Go.Sort Go.Proofs
section
variable {P:Program}
theorem ym(w:World)(t e ty:TypeId)(z:Value)(ht:P.underlying t=some (.slice e))(hv:∀w,(zeroValue e).run P w=.ok z w)(b o n c:Nat)(hn:0<n)(zs:List Value)(hz:(Builtin.zeroCells z.cells n).toList=zs)(h1:∀v∈zs,v.oneCell'=true)
  (hc:∀j,j<zs.length->(w.cell? ⟨b,o+j,none⟩).isSome=true) (hf:∀j,j<zs.length->w.frozen? ⟨b,o+j,none⟩=false) :
  (Builtin.clear_ #[t] ty #[.slice (some ⟨b,o,none⟩) n c]).run P w=.ok (.tuple #[]) (w.setCells b o zs):=by
 have qL:=run_storeCells_cells (P:=P) b o zs 0 w (by simpa using hc) (by simpa using hf) h1;simp only[Nat.add_zero] at qL;obtain⟨m,rfl⟩:∃m,n=m+1:=⟨n-1,by omega⟩;simp[Builtin.clear_,run_underlying ht,hv,hz,qL]
end
structure CR (P:Program) (ρ:Go.Shelf.Ren):Prop where
 mixed:P.follows .mixedOrders=true
 f43:Bears P (ρ.f 43) (SlBodyN.n43 ρ)
 t0:P.underlying (ρ.t 0)=some (TypeDesc.tuple #[])
 a0:∀w,(isAgg (ρ.t 0)).run P w=.ok false w
 z0:∀w,(Go.sizeOf (ρ.t 0)).run P w=.ok 1 w
 v0:∀w,(zeroValue (ρ.t 0)).run P w=.ok (Value.tuple #[]) w
 t3:P.underlying (ρ.t 3)=some (TypeDesc.int IntKind.i64)
 a3:∀w,(isAgg (ρ.t 3)).run P w=.ok false w
 z3:∀w,(Go.sizeOf (ρ.t 3)).run P w=.ok 1 w
 v3:∀w,(zeroValue (ρ.t 3)).run P w=.ok (Value.int IntKind.i64 0) w
 t4:P.underlying (ρ.t 4)=some (TypeDesc.bool)
 a4:∀w,(isAgg (ρ.t 4)).run P w=.ok false w
 z4:∀w,(Go.sizeOf (ρ.t 4)).run P w=.ok 1 w
 v4:∀w,(zeroValue (ρ.t 4)).run P w=.ok (Value.bool false) w
 t22:P.underlying (ρ.t 22)=some (TypeDesc.slice (ρ.t 23))
 a22:∀w,(isAgg (ρ.t 22)).run P w=.ok false w
 z22:∀w,(Go.sizeOf (ρ.t 22)).run P w=.ok 1 w
 v22:∀w,(zeroValue (ρ.t 22)).run P w=.ok (Value.slice none 0 0) w
section
variable {α : Type} [Inhabited α]
theorem pS:∀(u v:List Value) (F:Array Value) (s:Nat),Go.Sort.setMany F s (u++v)=Go.Sort.setMany (Go.Sort.setMany F s u) (s+u.length) v
 | [],v,F,s=>rfl
 | x::u,v,F,s=>by
  rw[List.cons_append,Go.Sort.setMany,Go.Sort.setMany,pS u v]
  congr 1
  simp;omega
theorem pT(enc:α->List Value)(k:Nat)(hk:∀x,(enc x).length=k)(d:Array α)(i:Nat)(x:α)(hi:i<d.size):Go.Sort.setMany (flatK enc k d) (i*k) (enc x)=flatK enc k (d.setIfInBounds i x):=by
 refine ext_get! (by simp) fun t ht=>?_;have A2:t<d.size*k:=by simpa using ht
 have k0:0<k:=by
  rcases Nat.eq_zero_or_pos k with h|h
  ·subst h;simp at A2
  ·exact h
 rw[get_setMany _ _ _ t (by simpa using A2),get_flatK _ _ _ t A2,get_flatK _ _ _ t (by simpa using A2),hk];by_cases a:t/k=i
 ·rw[if_pos ((blk_iff k i t k0).2 a)];have e:(d.setIfInBounds i x)[t/k]! = x:=by rw[a];simp[hi]
  rw[e,show t-i*k=t%k by subst a;rw[Nat.mod_eq_sub_div_mul]]
 ·rw[if_neg (fun h=>a ((blk_iff k i t k0).1 h))]
  have e:(d.setIfInBounds i x)[t/k]! = d[t/k]!:=by
   simp only[Array.getElem!_eq_getD,Array.getD_eq_getD_getElem?,Array.getElem?_setIfInBounds];rw[if_neg (fun h=>a h.symm)]
  rw[e]
theorem pU(enc:α->List Value)(k:Nat)(hk:∀x,(enc x).length=k):∀(xs:List α) (d:Array α) (i:Nat),i+xs.length<=d.size->Go.Sort.setMany (flatK enc k d) (i*k) (xs.flatMap enc)=flatK enc k (lay d i xs)
 | [],d,i,_=>rfl
 | x::xs,d,i,h=>by
  have h:i+(xs.length+1)<=d.size:=h;rw[List.flatMap_cons,pS,pT enc k hk d i x (by omega),hk,show i*k+k=(i+1)*k by rw[Nat.add_mul,Nat.one_mul],pU enc k hk xs _ (i+1) (by simp;omega),lay]
theorem nP(enc:α->List Value)(k:Nat)(hk:∀x,(enc x).length=k):∀xs:List α,(xs.flatMap enc).length=xs.length*k
 | []=>by simp
 | x::xs=>by rw[List.flatMap_cons,List.length_append,hk,nP enc k hk xs,List.length_cons,Nat.add_mul];omega
variable {P:Program} {ρ : Go.Shelf.Ren} [DecidableEq α]
theorem Ex(L:CR P ρ)(k:Nat)(k0:0<k)(aE:∀w,(isAgg (ρ.t 23)).run P w=.ok true w)(zE:∀w,(Go.sizeOf (ρ.t 23)).run P w=.ok k w)(enc:α->List Value)(hk:∀x,(enc x).length=k)(h1:∀x,∀v∈enc x,v.oneCell'=true)
  (RB:∀(x y:α) (w:World),Sem.run P (binOp .eql (ρ.t 23) (.agg (enc x).toArray) (.agg (enc y).toArray)) w=.ok (.bool (decide (x=y))) w)
  (RC:∀(x y:α) (w:World),Sem.run P (binOp .neq (ρ.t 23) (.agg (enc x).toArray) (.agg (enc y).toArray)) w=.ok (.bool (!decide (x=y))) w)
  (RD:∀(op:BinOp) (a b:Operand) (x y:α) (w:World),Sem.run P (eqGuard op (ρ.t 23) a b (.agg (enc x).toArray) (.agg (enc y).toArray)) w=.ok () w)
  (zr:α) (zv:Value) (v23:∀w,(zeroValue (ρ.t 23)).run P w=.ok zv w) (hz:∀n,(Builtin.zeroCells zv.cells n).toList=(List.replicate n zr).flatMap enc)
  (ao off cap:Nat) (d:Array α) (w:World) (hH:HoldsK enc k w ao off d) (bM:d.size<=4611686018427387904) (ke:d.size<=cap) :
  Calls P (ρ.f 43) #[.slice (some ⟨ao,off,none⟩) d.size cap] w fun e w'=>e=.returned (.slice (some ⟨ao,off,none⟩) (compactUpTo d d.size).length cap)/\∃q,w'=putRowK enc k (Sort.ahead w q) ao off (compactUpTo d d.size++List.replicate (d.size-(compactUpTo d d.size).length) zr).toArray:=by
 have mixed:=L.mixed;have t0:=L.t0;have a0:=L.a0;have z0:=L.z0;have v0:=L.v0;have t3:=L.t3;have a3:=L.a3;have z3:=L.z3;have v3:=L.v3;have t4:=L.t4;have a4:=L.a4;have z4:=L.z4;have v4:=L.v4;have t22:=L.t22;have a22:=L.a22;have z22:=L.z22;have v22:=L.v22;have Ap:Hid (∀x,(enc x).length=k):=hk;have Wn:Hid (∀x,∀v∈enc x,v.oneCell'=true):=h1;have HZ:Hid (∀n,(Builtin.zeroCells zv.cells n).toList=(List.replicate n zr).flatMap enc):=hz
 have same:∀q,(∀j,j<d.size->keeps d j=true)->(compactUpTo d d.size).length=d.size/\w.drewN q=putRowK enc k (Sort.ahead w q) ao off (compactUpTo d d.size++List.replicate (d.size-(compactUpTo d d.size).length) zr).toArray:=by
  intro q fP;have e:compactUpTo d d.size=d.toList:=by rw[compactUpTo_all d _ fP,range_map_get]
  rw[e];refine⟨by simp,?_⟩;simp only[Array.length_toList,Nat.sub_self,List.replicate_zero,List.append_nil,Array.toArray_toList];exact(putRowK_self enc k (Sort.ahead w q) ao off d (holdsK_ahead enc k w q ao off d hH)).symm
 have HS:Aside (∀q,(∀j,j<d.size->keeps d j=true)->(compactUpTo d d.size).length=d.size/\w.drewN q=putRowK enc k (Sort.ahead w q) ao off (compactUpTo d d.size++List.replicate (d.size-(compactUpTo d d.size).length) zr).toArray):=same;clear same hk h1 hz
 have vW:Hid (∀x n,x<n->x*k+k<=n*k):=fun x n hx=>by
  have:=Nat.mul_le_mul_right k (show x+1<=n from hx);rwa [Nat.add_mul,Nat.one_mul] at this
 by_cases h2:d.size<2
 ·have HH:Aside (HoldsK enc k w ao off d):=hH;clear hH;obtain⟨_,_,FG⟩:=L.f43
  go_enter FG,SlBodyN.n43_ntmps ρ
  go_wp2
  go_ret
  obtain⟨e1,e2⟩:=HS.out 0 (fun j hj=>keeps_lt_one d j (by omega));exact⟨by rw[e1];rfl,0,e2⟩
 ·obtain⟨_,_,FG⟩:=L.f43
  go_enter FG,SlBodyN.n43_ntmps ρ
  have HH:Aside (HoldsK enc k w ao off d):=hH;clear hH
  go_wp2
  go_loopg [3] d.size (fun g s3 wr=>∃kk q:Nat,1<=kk/\kk<=d.size/\d.size-kk<=g/\s3=.int .i64 kk/\wr=w.drewN q/\Aside (∀j,j<kk->keeps d j=true))
  case atStart=>exact⟨1,0,Nat.le_refl _,by omega,by omega,rfl,rfl,keeps_lt_one d⟩
  case round =>
   obtain⟨kk,q,FH,Y8,hg,rfl,rfl,A⟩:=hrel;by_cases aI:kk<d.size
   ·have g1:∀m,Sem.run P (loadCellsFrom ⟨ao,off+kk*k,none⟩ 0 k #[]) ((w.drewN q).drewN m)=.ok (enc d[kk]!).toArray ((w.drewN q).drewN m):=fun m=>run_loadCellsFrom_list P _ _ _ k (Ap.out _) (fun c v hv=>by rw[World.cell?_drewN,World.cell?_drewN];exact HoldsK.cells HH.out Ap.out aI c v hv);have g2:∀m,Sem.run P (loadCellsFrom ⟨ao,off+(kk-1)*k,none⟩ 0 k #[]) ((w.drewN q).drewN m)=.ok (enc d[kk-1]!).toArray ((w.drewN q).drewN m):=fun m=>run_loadCellsFrom_list P _ _ _ k (Ap.out _) (fun c v hv=>by rw[World.cell?_drewN,World.cell?_drewN];exact HoldsK.cells HH.out Ap.out (by omega) c v hv);generalize hx:d[kk]! = x at g1;generalize hy:d[kk-1]! = y at g2;generalize Wo:w.drewN q=wq at g1 g2 ⊢;have B:Aside (d[kk]! = x/\d[kk-1]! = y):=⟨hx,hy⟩;have BQ:Aside (w.drewN q=wq):=Wo;clear hx hy Wo;have RE:IntKind.i64.wrap ((kk:Int)-1)=((kk-1:Nat):Int):=by rw[IntKind.wrap_i64];omega
    have lZ:kk-1<d.size:=by omega
    by_cases RF:x=y
    ·subst RF
     go_wp2_with fail
     go_quiet_o (fail)
     go_wp2
     clear g1 g2 RE lZ
     go_loopg [3,5] d.size (fun g s3 s5 wr=>∃(jj k2 q2:Nat) (dk:Array α),s3=.int .i64 jj/\s5=.int .i64 k2/\1<=k2/\kk+k2<=d.size/\d.size-(kk+k2)<=g/\Aside (wr=putRowK enc k (Sort.ahead w q2) ao off dk)/\Aside (CompInv d (kk+k2) jj dk))
     case atStart=>exact⟨kk,1,q+nq,d,rfl,rfl,Nat.le_refl _,by omega,by omega,(show Aside (wq.drewN nq=putRowK enc k (Sort.ahead w (q+nq)) ao off d) from(by rw[<-BQ.out,World.drewN_drewN];exact(putRowK_self enc k (Sort.ahead w (q+nq)) ao off d (holdsK_ahead enc k w (q+nq) ao off d HH.out)).symm)),(show Aside _ from CompInv.start A.out (keeps_neg (by omega) (by rw[B.out.1,B.out.2])))⟩
     case round =>
      obtain⟨jj,k2,q2,dk,rfl,rfl,Y9,hle,qC,W2,I2⟩:=hrel;have A3:=I2.out.lt;have RG:=I2.out.size;have Ts:Aside (HoldsK enc k wr ao off dk):=(show HoldsK enc k wr ao off dk by rw[W2.out];exact holdsK_putRowK enc k _ ao off d dk (holdsK_ahead enc k w q2 ao off d HH.out) RG);by_cases Ev:kk+k2<d.size
      ·have e1:off+kk*k+k2*k=off+(kk+k2)*k:=by rw[Nat.add_mul];omega
       have e2:off+kk*k+(k2-1)*k=off+(kk+k2-1)*k:=by rw[show kk+k2-1=kk+(k2-1) by omega,Nat.add_mul];omega
       have e3:d[kk+k2]! = dk[kk+k2]!:=(I2.out.high (kk+k2) (by omega)).symm;have e4:d[kk+k2-1]! = dk[kk+k2-1]!:=(I2.out.high (kk+k2-1) (by omega)).symm
       have g1:∀m,Sem.run P (loadCellsFrom ⟨ao,off+kk*k+k2*k,none⟩ 0 k #[]) (wr.drewN m)=.ok (enc d[kk+k2]!).toArray (wr.drewN m):=fun m=>run_loadCellsFrom_list P _ _ _ k (Ap.out _) (fun c v hv=>by
        rw[e3] at hv;rw[World.cell?_drewN,e1];exact HoldsK.cells Ts.out Ap.out (by omega) c v hv)
       have g2:∀m,Sem.run P (loadCellsFrom ⟨ao,off+kk*k+(k2-1)*k,none⟩ 0 k #[]) (wr.drewN m)=.ok (enc d[kk+k2-1]!).toArray (wr.drewN m):=fun m=>run_loadCellsFrom_list P _ _ _ k (Ap.out _) (fun c v hv=>by
        rw[e4] at hv;rw[World.cell?_drewN,e2];exact HoldsK.cells Ts.out Ap.out (by omega) c v hv)
       clear e1 e2 e3 e4;generalize hu:d[kk+k2]! = u at g1;generalize hv:d[kk+k2-1]! = v at g2;have C:Aside (d[kk+k2]! = u/\d[kk+k2-1]! = v):=⟨hu,hv⟩;clear hu hv;have RE:IntKind.i64.wrap ((k2:Int)-1)=((k2-1:Nat):Int):=by rw[IntKind.wrap_i64];omega
       have lZ:k2-1<d.size-kk:=by omega
       have j8:k2<d.size-kk:=by omega
       by_cases Wp:u=v
       ·subst Wp
        go_wp2_with fail
        go_quiet_o (fail)
        go_wp2
        go_roundg (d.size-(kk+(k2+1)))
        case measure=>omega
        case rel=>exact⟨jj,k2+1,q2+nq,dk,rfl,by go_num,by omega,by omega,Nat.le_refl _,(show Aside (wr.drewN nq=putRowK enc k (Sort.ahead w (q2+nq)) ao off dk) from(by rw[W2.out,putRowK_drewN];exact rfl)),(show Aside _ from I2.out.skip (keeps_neg (by omega) (by rw[C.out.1,C.out.2])))⟩
       ·have st:∀m,Sem.run P (storeCells ⟨ao,off+jj*k,none⟩ (enc u) 0) (wr.drewN m)=.ok () ((wr.drewN m).setCells ao (off+jj*k) (enc u)):=fun m =>
         stores_of_holds P (W:=wr.drewN m) (F:=flatK enc k dk) (by
          have:HoldsK enc k (wr.drewN m) ao off dk:=by rw[W2.out,putRowK_drewN];exact holdsK_putRowK enc k _ ao off d dk (holdsK_ahead enc k w _ ao off d HH.out) RG
          exact this) (jj*k) _ (by rw[Ap.out,size_flatK];exact vW.out jj dk.size (by omega)) (Wn.out u)
        have XG:(enc u).length=k:=Ap.out u;have nQ:jj<d.size:=by omega
        go_wp2_with fail
        go_quiet_o (fail)
        go_wp2
        go_roundg (d.size-(kk+(k2+1)))
        case measure=>omega
        case rel=>exact⟨jj+1,k2+1,q2+nq,dk.setIfInBounds jj u,by go_num,by go_num,by omega,by omega,Nat.le_refl _,(show Aside ((wr.drewN nq).setCells ao (off+jj*k) (enc u)=putRowK enc k (Sort.ahead w (q2+nq)) ao off (dk.setIfInBounds jj u)) from(by
         rw[W2.out,putRowK_drewN];unfold putRowK;rw[setCells_putRow _ _ _ _ _ _ (by rw[Ap.out,size_flatK];exact vW.out jj dk.size (by omega)),pT enc k Ap.out dk jj u (by omega)];exact rfl)),(show Aside _ from(by have:=I2.out.keep Ev (keeps_pos (by rw[C.out.1,C.out.2];exact Wp));rwa [C.out.1] at this))⟩
      ·have Ut:kk+k2=d.size:=by omega
       have NY:∀ty,(Builtin.clear_ #[ρ.t 22] ty #[.slice (some ⟨ao,off+jj*k,none⟩) (d.size-jj) (cap-jj)]).run P wr=.ok (.tuple #[]) (wr.setCells ao (off+jj*k) ((List.replicate (d.size-jj) zr).flatMap enc)):=fun ty =>
        ym wr _ _ ty _ t22 v23 ao (off+jj*k) _ _ (by omega) _ (HZ.out _) (fun v hv=>by
         obtain⟨x,_,hx⟩:=List.mem_flatMap.1 hv;exact Wn.out x v hx)
         (fun j hj=>by
          rw[nP enc k Ap.out,List.length_replicate] at hj;have:=Ts.out (jj*k+j) (by rw[size_flatK,RG];have:=Nat.mul_le_mul_right k (show jj<=d.size by omega);rw[Nat.sub_mul] at hj;omega);rw[Nat.add_assoc,this.1];rfl)
         (fun j hj=>by
          rw[nP enc k Ap.out,List.length_replicate] at hj;have:=Ts.out (jj*k+j) (by rw[size_flatK,RG];have:=Nat.mul_le_mul_right k (show jj<=d.size by omega);rw[Nat.sub_mul] at hj;omega);rw[Nat.add_assoc];exact this.2)
       have nQ:jj<=d.size:=by omega
       go_wp2
       go_ret
       have hI:=I2.out;rw[Ut] at hI;refine⟨by rw[hI.len];rfl,q2,?_⟩;rw[hI.len,<-hI.done zr,W2.out];unfold putRowK;rw[setCells_putRow _ _ _ _ _ _ (by rw[nP enc k Ap.out,List.length_replicate,size_flatK,RG,<-Nat.add_mul,show jj+(d.size-jj)=d.size by omega];exact Nat.le_refl _),pU enc k Ap.out _ dk jj (by rw[List.length_replicate];omega)]
    ·go_wp2_with fail
     go_quiet_o (fail)
     go_wp2
     go_roundg (d.size-(kk+1))
     case measure=>omega
     case rel =>
      refine⟨kk+1,q+nq,by omega,by omega,Nat.le_refl _,by go_num,by rw[<-BQ.out,World.drewN_drewN],(show Aside _ from fun j hj=>?_)⟩;by_cases e:j=kk
      ·subst e;exact keeps_pos (by rw[B.out.1,B.out.2];exact RF)
      ·exact A.out j (by omega)
   ·have:kk=d.size:=by omega
    subst this
    go_wp2
    go_ret
    obtain⟨e1,e2⟩:=HS.out q A.out;exact⟨by rw[e1];rfl,q,e2⟩
end
end Go.Proofs.YtijddijloelacaaGreat.Am

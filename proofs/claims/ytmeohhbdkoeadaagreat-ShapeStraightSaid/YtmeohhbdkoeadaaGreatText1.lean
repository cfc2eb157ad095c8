/-
  The walks and plain laws, part 8.
-/
import Derived.Test.YtmeohhbdkoeadaaGreatSpotSorts7
import Derived.Test.YtmeohhbdkoeadaaGreatSpotSorts2
import Derived.Test.YtmeohhbdkoeadaaGreatShelf
import Derived.Lib.Join
set_option linter.unusedSimpArgs false
set_option linter.unusedSectionVars false
set_option linter.unusedVariables false
set_option maxRecDepth 100000
set_option maxHeartbeats 16000000
namespace Go.Proofs.YtmeohhbdkoeadaaGreat
open Go.Proofs.YtmeohhbdkoeadaaGreat.Am Go.Lib
open Go.RowKit (Below)
variable [Inhabited DRT]
variable {G:GInv}
def rowStr (l:List (List UInt8)):Nat→List A:=fun i=>[.str (l.getD i [])]
def strsA (l:List (List UInt8)):A:=.sl l.length 1 (rowStr l)
theorem strI_inv {im:Nat→Prop} {w:World} {s:List UInt8} {v:Value} (h:RelI im w (.str s) v):v = .string ⟨s.toArray⟩:=by cases h; rfl
theorem join_c (hns:(default:DRT).ns) (l:List (List UInt8)) (sep:List UInt8) (hl:l.length≤1000000) (hj:(join l sep).length≤1000000):ACalls Tryz.prog G 34 [strsA l,.str sep] (.str (join l sep)):=by
 refine ⟨⟨_,_,Tryz.func34,rfl,by kernel_rfl⟩,?_⟩
 intro im w vs him hG hlen hr
 match vs,hlen with
 | [a,b],_ =>
  have h0:RelI im w (.sl l.length 1 (rowStr l)) a:=hr 0 (by simp) (by simp)
  have h1:RelI im w (.str sep) b:=hr 1 (by simp) (by simp)
  obtain rfl:=strI_inv h1
  have none:∀ (x:Option Addr) (c:Nat),l=[]→Calls Tryz.prog 34 #[.slice x 0 c,.string ⟨sep.toArray⟩] w fun e w'=>∃ v,e = .returned v∧RelI (fun b=>im b∨(w.heap.size≤b∧b < w'.heap.size)) w' (.str (join l sep)) v∧Bw w.heap.size w w':=by
   rintro x c rfl
   refine Calls_mono (Tryz.strings_Join_none x c ⟨sep.toArray⟩ w) ?_
   rintro e w' ⟨rfl,rfl⟩
   exact ⟨_,rfl,.str [],Bw.refl _ _⟩
  generalize hn:l.length=n at h0
  cases h0 with
  | sl0=>exact none _ _ (List.length_eq_zero_iff.1 hn)
  | sle=>exact none _ _ (List.length_eq_zero_iff.1 hn)
  | sl _ _ _ blk base cap vs hb hcap hll hc ho hrr =>
   subst hn
   have hxs:(l.map fun x=>(⟨x.toArray⟩ : ByteArray)).map (fun x=>x.data.toList)=l:=by
    rw [List.map_map]; simp [Function.comp_def]
   have hmain:=Tryz.strings_Join blk base cap (l.map fun x=>⟨x.toArray⟩) ⟨sep.toArray⟩ w ?_ (him blk hb) (by simp; omega) (by simpa using hcap) (by rw [hxs]; simpa using Nat.le_trans hj (by omega))
   ·rw [hxs,List.length_map] at hmain
    refine Calls_mono hmain ?_
    rintro e w' ⟨rfl,hbl⟩
    exact ⟨_,rfl,.str _,⟨hbl.os,hbl.tape,hbl.output,hbl.size,hbl.block,Or.inl hns⟩⟩
   ·intro j x hx
    have hj:j < l.length:=by
     rcases Nat.lt_or_ge j l.length with h | h
     ·exact h
     ·rw [List.getElem?_eq_none (by simpa using h)] at hx; cases hx
    rw [List.getElem?_map,List.getElem?_eq_getElem hj] at hx
    have hx:=Option.some.inj hx
    have c1:=hc j 0 hj (by omega)
    rw [show base+j*1+0=base+j by omega] at c1
    have r1:=hrr j 0 hj (by simp [rowStr])
    have r1:RelI im w (.str (l.getD j [])) (vs j 0):=r1
    rw [c1,strI_inv r1,← hx]
    simp [List.getD_eq_getElem?_getD,hj]
end Go.Proofs.YtmeohhbdkoeadaaGreat
namespace Go.Proofs.YtmeohhbdkoeadaaGreat
open Go.Proofs.YtmeohhbdkoeadaaGreat.Am Go.Sort Go.Proofs Go.Lib
variable [Inhabited DRT]
variable {G:GInv}
theorem join3 (a b c:List UInt8):join [a,b,c] [32]=(((a ++ [32]) ++ b) ++ [32]) ++ c:=by simp [join,List.intercalate]
theorem lit_join3 (a b c t:List UInt8) (hj:ACalls Tryz.prog G 34 [strsA [a,b,c],.str [32]] (.str t)):ACalls Tryz.prog G 34 [.sl 3 1 (fun i=>takeL 1 (List.drop (i*1) [.str a,.str b,.str c])),.str [32]] (.str t):=hj.fit (by
 conv=>whnf
 repeat (first|exact fa|((first|refine fb ?_|(refine And.intro ?_ ?_;rotate_left));conv=>whnf))
 all_goals (refine Or.inl fun i hi=>?_;rcases i with _|_|_|_|i <;> first|rfl|omega))
theorem spText_r (hns:(default:DRT).ns) (r:RS) (hr:MayR r):ACalls Tryz.prog G 10 [spR r] (.str (txR r)):=by
 have c1:=stext_c (G:=G) (axR r) (sgI_lt hr.1.1)
 have c2:=stext_c (G:=G) (ayR r) (sgI_lt hr.1.2.1)
 have c3:=qtext_c (G:=G) r.w hr.1.2.2
 have l1:=decZ_38 (x:=axR r) (sgI_lt hr.1.1)
 have l2:=decZ_38 (x:=ayR r) (sgI_lt hr.1.2.1)
 have l3:=decN_37 hr.1.2.2
 have c4:=join_c (G:=G) hns [decZ (axR r),decZ (ayR r),decN r.w] [32] (by simp) (by rw [join3]; simp; omega)
 rw [join3] at c4
 have c5:=lit_join3 _ _ _ _ c4
 clear c4
 rw [spR_spot hr]
 unfold txR
 clear hr
 generalize (((decZ (axR r) ++ [32]) ++ decZ (ayR r)) ++ [32]) ++ decN r.w=T at *
 unfold spotA spotL at *
 unfold intN sgnA wideN wideA at *
 generalize decZ (axR r)=D1 at *
 generalize decZ (ayR r)=D2 at *
 generalize decN r.w=D3 at *
 generalize decide (axR r < 0)=p1 at *
 generalize decide (ayR r < 0)=p2 at *
 generalize wW (axR r).natAbs=V1 at *
 generalize wW (ayR r).natAbs=V2 at *
 generalize wW r.w=V3 at *
 refine ACalls.of_WA ttok Tryz.func10 rfl rfl _ rfl ?_
 conv=>whnf
 repeat' (first|refine sq ?_|refine bk ?_|((first|refine rg ttok ?_|refine dw ttok mixed ?_|refine cd ?_|refine sk ?_|refine xt ?_|refine rt ?_);conv=>whnf)|(refine And.intro (fun h=>?_) (fun h=>?_) <;> (try simp only [brsA] at h) <;> conv=>whnf)|(refine Or.inl ?_;(conv=>whnf);(first|refine ⟨_,c1,?_⟩|refine ⟨_,c2,?_⟩|refine ⟨_,c3,?_⟩|refine ⟨_,c5,?_⟩);conv=>whnf)|((first|refine wf ?_|refine wp' ?_|refine ai ?_|refine And.intro rfl ?_|refine an ?_|fail);conv=>whnf))
 all_goals first|contradiction|(exfalso;omega)|rfl|(simp;omega)
end Go.Proofs.YtmeohhbdkoeadaaGreat
namespace Go.Proofs.YtmeohhbdkoeadaaGreat
open Go.Proofs.YtmeohhbdkoeadaaGreat.Am
variable [Inhabited DRT]
variable {G:GInv}
theorem LenP.uniq {v L L':Nat} (h:LenP v L) (h':LenP v L'):L=L':=by
 rcases h with ⟨rfl,rfl⟩ | ⟨a1,a2,a3⟩
 ·rcases h' with ⟨_,rfl⟩ | ⟨b1,b2,b3⟩
  ·rfl
  ·have:=Nat.pow_pos (a:=2) (n:=L' - 1) (by omega); omega
 ·rcases h' with ⟨rfl,rfl⟩ | ⟨b1,b2,b3⟩
  ·have:=Nat.pow_pos (a:=2) (n:=L - 1) (by omega); omega
  ·have c1:=(Nat.pow_lt_pow_iff_right (a:=2) (by omega)).1 (Nat.lt_of_le_of_lt a2 b3)
   have c2:=(Nat.pow_lt_pow_iff_right (a:=2) (by omega)).1 (Nat.lt_of_le_of_lt b2 a3)
   omega
theorem val_top {d:List Nat} (hd:DigP d) (i:Nat) (hz:∀ j,i+1≤j→d.getD j 0=0):65536 ^ i*d.getD i 0≤val d∧val d < 65536 ^ i*(d.getD i 0+1):=by
 have e1:val d=vf (fun j=>d.getD j 0) (i+1):=by
  by_cases h:d.length≤i+1
  ·exact val_ext d (i+1) h
  ·unfold val
   exact vf_ext _ (fun j hj _=>hz j hj) (by omega)
 have e2:vf (fun j=>d.getD j 0) (i+1)=vf (fun j=>d.getD j 0) i+d.getD i 0*65536 ^ i:=rfl
 have e3:vf (fun j=>d.getD j 0) i < 65536 ^ i:=vf_lt fun j _=>hd.get j
 rw [e1,e2,Nat.mul_add,Nat.mul_comm (d.getD i 0)]
 omega
theorem bit_top {x p:Nat} (h1:x < 2 ^ (p+1)):(x / 2 ^ p % 2=1→2 ^ p≤x)∧(x / 2 ^ p % 2 ≠ 1→x < 2 ^ p):=by
 have hp:0 < 2 ^ p:=Nat.pow_pos (by omega)
 constructor
 ·intro h
  rcases Nat.lt_or_ge x (2 ^ p) with c | c
  ·rw [Nat.div_eq_of_lt c] at h; omega
  ·exact c
 ·intro h
  rcases Nat.lt_or_ge x (2 ^ p) with c | c
  ·exact c
  ·exfalso
   have e:x / 2 ^ p=1:=by
    have a1:=(Nat.le_div_iff_mul_le hp).2 (show 1*2 ^ p≤x by omega)
    have a2:=(Nat.div_lt_iff_lt_mul hp).2 (show x < 2*2 ^ p by rw [Nat.pow_succ] at h1; omega)
    omega
   rw [e] at h; omega
theorem val_nought {d:List Nat} (hz:∀ j,0≤j→d.getD j 0=0):val d=0:=by
 unfold val
 exact (vf_ext (n:=0) _ (fun j hj _=>hz j hj) (by omega))
theorem rLen_c (d:List Nat) (hd:DigP d) (ld:d.length≤1000) (L:Nat) (hL:LenP (val d) L):ACalls Tryz.prog G 59 [digA d] (.int .i64 (L:Int)):=by
 have fin:∀ i p,(∀ j,i+1≤j→d.getD j 0=0)→d.getD i 0 < 2 ^ (p+1)→2 ^ p≤d.getD i 0→16*i+p+1=L:=fun i p hz h1 h2=>by
  obtain ⟨t1,t2⟩:=val_top hd i hz
  have e:(65536:Nat) ^ i=2 ^ (16*i):=by rw [show (65536:Nat)=2 ^ 16 from rfl,← Nat.pow_mul]
  refine LenP.uniq (.inr ⟨by omega,?_,?_⟩) hL
  ·rw [show 16*i+p+1 - 1=16*i+p by omega,Nat.pow_add,← e]
   exact Nat.le_trans (Nat.mul_le_mul_left _ h2) t1
  ·rw [show 16*i+p+1=16*i+(p+1) by omega,Nat.pow_add,← e]
   exact Nat.lt_of_lt_of_le t2 (Nat.mul_le_mul_left _ h1)
 have fin0:(∀ j,0≤j→d.getD j 0=0)→0=L:=fun hz=>LenP.uniq (.inl ⟨val_nought hz,rfl⟩) hL
 refine ACalls.of_WA ttok Tryz.func59 rfl rfl _ rfl ?_
 conv=>whnf
 repeat' (first|refine sq ?_|refine bk ?_|((first|refine rg ttok ?_|refine dw ttok mixed ?_|refine cd ?_|refine sk ?_|refine xt ?_|refine rt ?_);conv=>whnf)|(refine And.intro (fun h=>?_) (fun h=>?_) <;> (try simp only [brsA] at h) <;> conv=>whnf)|((first|refine wf ?_|refine wp' ?_|refine ai ?_|refine And.intro rfl ?_|refine an ?_|fail);conv=>whnf))
 refine WA_loopI (fun m:Nat=>m≤d.length ∧ ∀ j,m≤j→d.getD j 0=0) (fun m=>[(3,.int .i64 ((m:Int) - 1)),(4,.junk)]) (fun _=>[]) (fun m=>m) d.length ⟨Nat.le_refl _,fun j hj=>getD_past hj⟩ ?_ ?_
 ·conv=>whnf
  repeat (first|exact fa|((first|refine fb ?_|(refine And.intro ?_ ?_;rotate_left));conv=>whnf))
 ·rintro m ⟨hm,hz⟩
  rcases Nat.eq_zero_or_pos m with e | e
  ·subst e
   have:=fin0 hz
   subst this
   conv=>whnf
   repeat' (first|refine sq ?_|refine bk ?_|((first|refine rg ttok ?_|refine dw ttok mixed ?_|refine cd ?_|refine sk ?_|refine xt ?_|refine rt ?_);conv=>whnf)|(refine And.intro (fun h=>?_) (fun h=>?_) <;> (try simp only [brsA] at h) <;> conv=>whnf)|((first|refine wf ?_|refine wp' ?_|refine ai ?_|refine And.intro rfl ?_|refine an ?_|fail);conv=>whnf))
   all_goals first|contradiction|rfl|(exfalso;omega)|skip
  ·obtain ⟨i,rfl⟩ : ∃ i,m=i+1:=⟨m - 1,by omega⟩
   have e1:(((i+1:Nat):Int) - 1).toNat=i:=by omega
   have e2:d.getD (((i+1:Nat):Int) - 1).toNat 0=d.getD i 0:=by rw [e1]
   have hx:=hd.get i
   conv=>whnf
   repeat' (first|refine sq ?_|refine bk ?_|((first|refine rg ttok ?_|refine dw ttok mixed ?_|refine cd ?_|refine sk ?_|refine xt ?_|refine rt ?_);conv=>whnf)|(refine And.intro (fun h=>?_) (fun h=>?_) <;> (try simp only [brsA] at h) <;> conv=>whnf)|((first|refine wf ?_|refine wp' ?_|refine ai ?_|refine And.intro rfl ?_|refine an ?_|fail);conv=>whnf))
   all_goals first|contradiction|(exfalso;omega)|skip
   refine WA_loopI (fun b:Nat=>b≤16∧d.getD i 0 < 2 ^ b) (fun b=>[(4,.int .i64 ((b:Int) - 1))]) (fun _=>[]) (fun b=>b) 16 ⟨Nat.le_refl _,hx⟩ ?_ ?_
   ·conv=>whnf
    repeat (first|exact fa|((first|refine fb ?_|(refine And.intro ?_ ?_;rotate_left));conv=>whnf))
   ·rintro b ⟨hb,hlt⟩
    rcases Nat.eq_zero_or_pos b with e' | e'
    ·subst e'
     have h0:d.getD i 0=0:=by have:d.getD i 0 < 1:=hlt; omega
     conv=>whnf
     repeat' (first|refine sq ?_|refine bk ?_|((first|refine rg ttok ?_|refine dw ttok mixed ?_|refine cd ?_|refine sk ?_|refine xt ?_|refine rt ?_);conv=>whnf)|(refine And.intro (fun h=>?_) (fun h=>?_) <;> (try simp only [brsA] at h) <;> conv=>whnf)|((first|refine wf ?_|refine wp' ?_|refine ai ?_|refine And.intro rfl ?_|refine an ?_|fail);conv=>whnf))
     all_goals first|contradiction|(exfalso;omega)|skip
     refine ⟨i,⟨(by omega),fun j hj=>?_⟩,(by show i < i+1; omega),?_⟩
     ·by_cases q:j=i
      ·rw [q]; exact h0
      ·exact hz j (by omega)
     ·conv=>whnf
      repeat (first|exact fa|((first|refine fb ?_|(refine And.intro ?_ ?_;rotate_left));conv=>whnf))
      all_goals first|omega
    ·obtain ⟨p,rfl⟩ : ∃ p,b=p+1:=⟨b - 1,by omega⟩
     have s1:=bit_of (d.getD i 0) p _ (min (((p+1:Nat):Int) - 1).toNat IntKind.u64.bits) e2 (by have:IntKind.u64.bits=64:=rfl; omega)
     obtain ⟨bt1,bt2⟩:=bit_top hlt
     by_cases hbit:d.getD i 0 / 2 ^ p % 2=1
     ·have hf:=fin i p hz hlt (bt1 hbit)
      have hi:i < d.length:=by omega
      clear bt1 bt2 fin fin0
      conv=>whnf
      repeat' (first|refine sq ?_|refine bk ?_|((first|refine rg ttok ?_|refine dw ttok mixed ?_|refine cd ?_|refine sk ?_|refine xt ?_|refine rt ?_);conv=>whnf)|(refine And.intro (fun h=>?_) (fun h=>?_) <;> (try simp only [brsA] at h) <;> conv=>whnf)|((first|refine wf ?_|refine wp' ?_|refine ai ?_|refine And.intro rfl ?_|refine an ?_|fail);conv=>whnf))
      all_goals first|contradiction|(exfalso;omega)|skip
      all_goals first|omega
     ·have hl2:=bt2 hbit
      clear bt1 bt2 fin fin0
      conv=>whnf
      repeat' (first|refine sq ?_|refine bk ?_|((first|refine rg ttok ?_|refine dw ttok mixed ?_|refine cd ?_|refine sk ?_|refine xt ?_|refine rt ?_);conv=>whnf)|(refine And.intro (fun h=>?_) (fun h=>?_) <;> (try simp only [brsA] at h) <;> conv=>whnf)|((first|refine wf ?_|refine wp' ?_|refine ai ?_|refine And.intro rfl ?_|refine an ?_|fail);conv=>whnf))
      all_goals first|contradiction|(exfalso;omega)|skip
      refine ⟨p,⟨(by omega),hl2⟩,(by show p < p+1; omega),?_⟩
      conv=>whnf
      repeat (first|exact fa|((first|refine fb ?_|(refine And.intro ?_ ?_;rotate_left));conv=>whnf))
      all_goals first|omega
theorem rsmall_c (v:Nat) (hv:v < 65536 ^ 32):ACalls Tryz.prog G 31 [wideN v] (.sb (decide (v < 2 ^ 120))):=by
 obtain ⟨L,hL,_⟩:=len_all v hv
 have c1:=digits03_c (G:=G) (wW v) (wW_ok v)
 have hs:=hL.small
 have hle:L≤512:=hL.le (by
  rw [show (65536:Nat)=2 ^ 16 from rfl,← Nat.pow_mul] at hv
  have hb:16*32=512:=rfl
  generalize 16*32=b at *
  rw [← hb]
  exact hv)
 have c2:=rLen_c (G:=G) (dW (wW v)) (dW_ok (wW_ok v)) (by rw [dW_len]; omega) L (by rw [show val (dW (wW v))=v from wv_wW hv]; exact hL)
 have e:decide (v < 2 ^ 120)=decide ((L:Int)≤120):=by rw [decide_eq_decide]; omega
 rw [e]
 clear hL hs e hv
 unfold wideN at *
 generalize dW (wW v)=DV at *
 unfold wideA at *
 generalize wW v=V at *
 refine ACalls.of_WA ttok Tryz.func31 rfl rfl _ rfl ?_
 conv=>whnf
 repeat' (first|refine sq ?_|refine bk ?_|((first|refine rg ttok ?_|refine dw ttok mixed ?_|refine cd ?_|refine sk ?_|refine xt ?_|refine rt ?_);conv=>whnf)|(refine And.intro (fun h=>?_) (fun h=>?_) <;> (try simp only [brsA] at h) <;> conv=>whnf)|(refine Or.inl ?_;(conv=>whnf);(first|refine ⟨_,c1,?_⟩|refine ⟨_,c2,?_⟩);conv=>whnf)|((first|refine wf ?_|refine wp' ?_|refine ai ?_|refine And.intro rfl ?_|refine an ?_|fail);conv=>whnf))
 all_goals first|contradiction|(exfalso;omega)|skip
theorem may_all (r:RS):decide (MayR r)=(!decide (r.w=0) && (decide (r.x < 2 ^ 120) && (decide (r.y < 2 ^ 120) && (decide (r.w < 2 ^ 120) && decide (lowR r=r))))):=by
 rw [Bool.eq_iff_iff]
 simp only [Bool.and_eq_true,Bool.not_eq_true',decide_eq_true_eq,decide_eq_false_iff_not]
 rw [may_iff]
 unfold Sm
 constructor
 ·rintro ⟨⟨a,b,c⟩,d,e⟩; exact ⟨by omega,a,b,c,e⟩
 ·rintro ⟨a,b,c,d,e⟩; exact ⟨⟨b,c,d⟩,by omega,e⟩
theorem rMay_1 (r:RS) (hk:Rk r) (h0:r.w=0):ACalls Tryz.prog G 7 [spR r] (.sb (decide (MayR r))):=by
 have hq:=eqW (a:=r.w) (b:=0) hk.2.2 (by decide)
 have w0:∀ k,wW 0 k=0:=wW0
 rw [w0,w0,w0,w0,w0,w0,w0,w0] at hq
 have nq:∀ {p:Prop},(false=true)→p:=fun e=>Bool.noConfusion e
 rw [decide_eq_true h0] at hq
 rw [may_all,decide_eq_true h0]
 clear hk w0 h0
 generalize decide (lowR r=r)=E
 unfold spR spotL at *
 generalize wW r.x=X at *
 generalize wW r.y=Y at *
 generalize wW r.w=W at *
 generalize r.p=P at *
 generalize r.q=Q at *
 refine ACalls.of_WA ttok Tryz.func7 rfl rfl _ rfl ?_
 conv=>whnf
 repeat' (first|(exact Bool.noConfusion (hq.symm.trans h))|refine sq ?_|refine bk ?_|((first|refine rg ttok ?_|refine dw ttok mixed ?_|refine cd ?_|refine sk ?_|refine xt ?_|refine rt ?_);conv=>whnf)|(refine And.intro (fun h=>?_) (fun h=>?_) <;> (try simp only [brsA] at h) <;> conv=>whnf)|((first|refine wf ?_|refine wp' ?_|refine ai ?_|refine And.intro rfl ?_|refine an ?_|fail);conv=>whnf))
 all_goals first|rfl
theorem rMay_2 (r:RS) (hk:Rk r) (h0:r.w ≠ 0) (hx:¬ r.x < 2 ^ 120):ACalls Tryz.prog G 7 [spR r] (.sb (decide (MayR r))):=by
 have c1:=rsmall_c (G:=G) r.x hk.1
 have hq:=eqW (a:=r.w) (b:=0) hk.2.2 (by decide)
 have w0:∀ k,wW 0 k=0:=wW0
 rw [w0,w0,w0,w0,w0,w0,w0,w0] at hq
 have nq:∀ {p:Prop},(false=true)→p:=fun e=>Bool.noConfusion e
 rw [decide_eq_false h0] at hq
 rw [decide_eq_false hx] at c1
 rw [may_all,decide_eq_false h0,decide_eq_false hx]
 clear hk w0 h0 hx
 generalize decide (lowR r=r)=E
 unfold spR spotL wideN wideA at *
 generalize wW r.x=X at *
 generalize wW r.y=Y at *
 generalize wW r.w=W at *
 generalize r.p=P at *
 generalize r.q=Q at *
 refine ACalls.of_WA ttok Tryz.func7 rfl rfl _ rfl ?_
 conv=>whnf
 repeat' (first|(first|with_reducible exact nq h|(rw [hq] at h;exact absurd h (by decide)))|refine sq ?_|refine bk ?_|((first|refine rg ttok ?_|refine dw ttok mixed ?_|refine cd ?_|refine sk ?_|refine xt ?_|refine rt ?_);conv=>whnf)|(refine And.intro (fun h=>?_) (fun h=>?_) <;> (try simp only [brsA] at h) <;> conv=>whnf)|(refine Or.inl ?_;(conv=>whnf);refine ⟨_,c1,?_⟩;conv=>whnf)|((first|refine wf ?_|refine wp' ?_|refine ai ?_|refine And.intro rfl ?_|refine an ?_|fail);conv=>whnf))
 all_goals first|rfl
theorem rMay_3 (r:RS) (hk:Rk r) (h0:r.w ≠ 0) (hx:r.x < 2 ^ 120) (hy:¬ r.y < 2 ^ 120):ACalls Tryz.prog G 7 [spR r] (.sb (decide (MayR r))):=by
 have c1:=rsmall_c (G:=G) r.x hk.1
 have c2:=rsmall_c (G:=G) r.y hk.2.1
 have hq:=eqW (a:=r.w) (b:=0) hk.2.2 (by decide)
 have w0:∀ k,wW 0 k=0:=wW0
 rw [w0,w0,w0,w0,w0,w0,w0,w0] at hq
 have nq:∀ {p:Prop},(false=true)→p:=fun e=>Bool.noConfusion e
 rw [decide_eq_false h0] at hq
 rw [decide_eq_true hx] at c1
 rw [decide_eq_false hy] at c2
 rw [may_all,decide_eq_false h0,decide_eq_true hx,decide_eq_false hy]
 clear hk w0 h0 hx hy
 generalize decide (lowR r=r)=E
 unfold spR spotL wideN wideA at *
 generalize wW r.x=X at *
 generalize wW r.y=Y at *
 generalize wW r.w=W at *
 generalize r.p=P at *
 generalize r.q=Q at *
 refine ACalls.of_WA ttok Tryz.func7 rfl rfl _ rfl ?_
 conv=>whnf
 repeat' (first|(first|with_reducible exact nq h|(rw [hq] at h;exact absurd h (by decide)))|refine sq ?_|refine bk ?_|((first|refine rg ttok ?_|refine dw ttok mixed ?_|refine cd ?_|refine sk ?_|refine xt ?_|refine rt ?_);conv=>whnf)|(refine And.intro (fun h=>?_) (fun h=>?_) <;> (try simp only [brsA] at h) <;> conv=>whnf)|(refine Or.inl ?_;(conv=>whnf);(first|refine ⟨_,c1,?_⟩|refine ⟨_,c2,?_⟩);conv=>whnf)|((first|refine wf ?_|refine wp' ?_|refine ai ?_|refine And.intro rfl ?_|refine an ?_|fail);conv=>whnf))
 all_goals first|rfl
theorem rMay_4 (r:RS) (hk:Rk r) (h0:r.w ≠ 0) (hx:r.x < 2 ^ 120) (hy:r.y < 2 ^ 120) (hw:¬ r.w < 2 ^ 120):ACalls Tryz.prog G 7 [spR r] (.sb (decide (MayR r))):=by
 have c1:=rsmall_c (G:=G) r.x hk.1
 have c2:=rsmall_c (G:=G) r.y hk.2.1
 have c3:=rsmall_c (G:=G) r.w hk.2.2
 have hq:=eqW (a:=r.w) (b:=0) hk.2.2 (by decide)
 have w0:∀ k,wW 0 k=0:=wW0
 rw [w0,w0,w0,w0,w0,w0,w0,w0] at hq
 have nq:∀ {p:Prop},(false=true)→p:=fun e=>Bool.noConfusion e
 rw [decide_eq_false h0] at hq
 rw [decide_eq_true hx] at c1
 rw [decide_eq_true hy] at c2
 rw [decide_eq_false hw] at c3
 rw [may_all,decide_eq_false h0,decide_eq_true hx,decide_eq_true hy,decide_eq_false hw]
 clear hk w0 h0 hx hy hw
 generalize decide (lowR r=r)=E
 unfold spR spotL wideN wideA at *
 generalize wW r.x=X at *
 generalize wW r.y=Y at *
 generalize wW r.w=W at *
 generalize r.p=P at *
 generalize r.q=Q at *
 refine ACalls.of_WA ttok Tryz.func7 rfl rfl _ rfl ?_
 conv=>whnf
 repeat' (first|(first|with_reducible exact nq h|(rw [hq] at h;exact absurd h (by decide)))|refine sq ?_|refine bk ?_|((first|refine rg ttok ?_|refine dw ttok mixed ?_|refine cd ?_|refine sk ?_|refine xt ?_|refine rt ?_);conv=>whnf)|(refine And.intro (fun h=>?_) (fun h=>?_) <;> (try simp only [brsA] at h) <;> conv=>whnf)|(refine Or.inl ?_;(conv=>whnf);(first|refine ⟨_,c1,?_⟩|refine ⟨_,c2,?_⟩|refine ⟨_,c3,?_⟩);conv=>whnf)|((first|refine wf ?_|refine wp' ?_|refine ai ?_|refine And.intro rfl ?_|refine an ?_|fail);conv=>whnf))
 all_goals first|rfl
theorem rMay_5 (r:RS) (hk:Rk r) (h0:r.w ≠ 0) (hx:r.x < 2 ^ 120) (hy:r.y < 2 ^ 120) (hw:r.w < 2 ^ 120):ACalls Tryz.prog G 7 [spR r] (.sb (decide (MayR r))):=by
 have c1:=rsmall_c (G:=G) r.x hk.1
 have c2:=rsmall_c (G:=G) r.y hk.2.1
 have c3:=rsmall_c (G:=G) r.w hk.2.2
 have hq:=eqW (a:=r.w) (b:=0) hk.2.2 (by decide)
 have w0:∀ k,wW 0 k=0:=wW0
 rw [w0,w0,w0,w0,w0,w0,w0,w0] at hq
 have nq:∀ {p:Prop},(false=true)→p:=fun e=>Bool.noConfusion e
 have hS:Sm r:=⟨hx,hy,hw⟩
 have hlo:=rlowest_r (G:=G) r hS (by omega)
 have key:=rs_eqb (r:=lowR r) (s:=r) (lowR_sm hS).rk hk
 rw [decide_eq_false h0] at hq
 rw [decide_eq_true hx] at c1
 rw [decide_eq_true hy] at c2
 rw [decide_eq_true hw] at c3
 rw [may_all,decide_eq_false h0,decide_eq_true hx,decide_eq_true hy,decide_eq_true hw]
 clear hk w0 h0 hx hy hw hS
 generalize decide (lowR r=r)=E at *
 generalize lowR r=S at *
 unfold spR spotL sgnA wideN wideA at *
 generalize wW r.x=X at *
 generalize wW r.y=Y at *
 generalize wW r.w=W at *
 generalize r.p=P at *
 generalize r.q=Q at *
 generalize wW S.x=SX at *
 generalize wW S.y=SY at *
 generalize wW S.w=SW at *
 generalize S.p=SP at *
 generalize S.q=SQ at *
 refine ACalls.of_WA ttok Tryz.func7 rfl rfl _ rfl ?_
 conv=>whnf
 repeat' (first|(first|with_reducible exact nq h|(rw [hq] at h;exact absurd h (by decide)))|refine sq ?_|refine bk ?_|((first|refine rg ttok ?_|refine dw ttok mixed ?_|refine cd ?_|refine sk ?_|refine xt ?_|refine rt ?_);conv=>whnf)|(refine And.intro (fun h=>?_) (fun h=>?_) <;> (try simp only [brsA] at h) <;> conv=>whnf)|(refine Or.inl ?_;(conv=>whnf);(first|refine ⟨_,c1,?_⟩|refine ⟨_,c2,?_⟩|refine ⟨_,c3,?_⟩|refine ⟨_,hlo,?_⟩);conv=>whnf)|((first|refine wf ?_|refine wp' ?_|refine ai ?_|refine And.intro rfl ?_|refine an ?_|fail);conv=>whnf))
 all_goals first|exact key|rfl|exact absurd h (by decide)|exact Bool.noConfusion (hq.symm.trans h)
theorem rMay_r (r:RS) (hk:Rk r):ACalls Tryz.prog G 7 [spR r] (.sb (decide (MayR r))):=by
 by_cases h0:r.w=0
 ·exact rMay_1 r hk h0
 by_cases hx:r.x < 2 ^ 120
 ·by_cases hy:r.y < 2 ^ 120
  ·by_cases hw:r.w < 2 ^ 120
   ·exact rMay_5 r hk h0 hx hy hw
   ·exact rMay_4 r hk h0 hx hy hw
  ·exact rMay_3 r hk h0 hx hy
 ·exact rMay_2 r hk h0 hx
end Go.Proofs.YtmeohhbdkoeadaaGreat

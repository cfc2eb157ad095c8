/-
  The walks and plain laws, part 10.
-/
import Derived.Test.YtmeohhbdkoeadaaGreatSpotSorts7
import Derived.Test.YtmeohhbdkoeadaaGreatAm4
set_option linter.unusedSimpArgs false
set_option linter.unusedSectionVars false
set_option linter.unusedVariables false
namespace Go.Proofs.YtmeohhbdkoeadaaGreat
open Go.Proofs.YtmeohhbdkoeadaaGreat.Am
variable [Inhabited DRT]
theorem Opens_toOk {P:Program} {t:TypeId} {α β : Type} {g : α → List A} {ok : α → Prop} {g' : β → List A} {ok' : β → Prop} (h:Opens P t g ok) (f : α → β) (hg:∀ x,ok x→g x=g' (f x)) (hok:∀ x,ok x→ok' (f x)):Opens P t g' ok':=by
 intro H enc w im base sp held fuel cs d ps hd him
 obtain ⟨x,h1,h2⟩:=h H enc w im base sp held fuel cs d ps hd him
 rw [hg x h1] at h2
 exact ⟨f x,hok x h1,h2⟩
def u8f (x:Int × Int × Int × Int × Int × Int × Int × Int × Unit):Nat→Nat
 | 0=>x.1.toNat
 | 1=>x.2.1.toNat
 | 2=>x.2.2.1.toNat
 | 3=>x.2.2.2.1.toNat
 | 4=>x.2.2.2.2.1.toNat
 | 5=>x.2.2.2.2.2.1.toNat
 | 6=>x.2.2.2.2.2.2.1.toNat
 | 7=>x.2.2.2.2.2.2.2.1.toNat
 | _=>0
def wcA (v:Nat):List A:=[.int .u64 (wW v 0:Nat),.int .u64 (wW v 1:Nat),.int .u64 (wW v 2:Nat),.int .u64 (wW v 3:Nat),.int .u64 (wW v 4:Nat),.int .u64 (wW v 5:Nat),.int .u64 (wW v 6:Nat),.int .u64 (wW v 7:Nat)]
theorem wv_lt {w:Nat→Nat} (h:WordP w):wv w < 65536 ^ 32:=by
 have h1:=wv_expl h
 have h0:=h 0
 have h2:=h 1
 have h3:=h 2
 have h4:=h 3
 have h5:=h 4
 have h6:=h 5
 have h7:=h 6
 have h8:=h 7
 rw [pow512]
 omega
theorem o_u64 (ht:Tryz.prog.underlying 28=some (.int .u64)):Opens Tryz.prog 28 (fun n:Int=>[.int .u64 n]) (fun n=>0≤n∧n < 18446744073709551616) :=
 (opens_int ht).to id (fun _=>rfl) (fun n h=>by
  have h1:IntKind.u64.min=0:=rfl
  have h2:IntKind.u64.max=18446744073709551615:=rfl
  rw [h1,h2] at h
  exact ⟨h.1,by show n < _; omega⟩)
theorem o_wide (ht:Tryz.prog.underlying 28=some (.int .u64)):Opens Tryz.prog 30 wcA (fun v=>v < 65536 ^ 32):=by
 have h:=o_u64 ht
 refine Opens_toOk (opens_array (n:=8) (e:=28) (L:=[(28,0,1),(28,1,1),(28,2,1),(28,3,1),(28,4,1),(28,5,1),(28,6,1),(28,7,1)]) (by kernel_rfl) (by kernel_rfl) (by kernel_rfl)
  (opensF_cons h (opensF_cons h (opensF_cons h (opensF_cons h (opensF_cons h (opensF_cons h (opensF_cons h (opensF_cons h opensF_nil))))))))) (fun x=>wv (u8f x)) ?_ ?_
 all_goals
  rintro ⟨a,b,c,d,e,f,g,i,_⟩ ⟨⟨a1,a2⟩,⟨b1,b2⟩,⟨c1,c2⟩,⟨d1,d2⟩,⟨e1,e2⟩,⟨f1,f2⟩,⟨g1,g2⟩,⟨i1,i2⟩,_⟩
  have a1:0≤a:=a1
  have a2:a < 18446744073709551616:=a2
  have b1:0≤b:=b1
  have b2:b < 18446744073709551616:=b2
  have c1:0≤c:=c1
  have c2:c < 18446744073709551616:=c2
  have d1:0≤d:=d1
  have d2:d < 18446744073709551616:=d2
  have e1:0≤e:=e1
  have e2:e < 18446744073709551616:=e2
  have f1:0≤f:=f1
  have f2:f < 18446744073709551616:=f2
  have g1:0≤g:=g1
  have g2:g < 18446744073709551616:=g2
  have i1:0≤i:=i1
  have i2:i < 18446744073709551616:=i2
  have hw:WordP (u8f (a,b,c,d,e,f,g,i,())):=by
   intro j
   rcases j with _ | _ | _ | _ | _ | _ | _ | _ | j <;> simp only [u8f] <;> omega
 ·unfold wcA
  rw [wW_wv hw 0 (by omega),wW_wv hw 1 (by omega),wW_wv hw 2 (by omega),wW_wv hw 3 (by omega),wW_wv hw 4 (by omega),wW_wv hw 5 (by omega),wW_wv hw 6 (by omega),wW_wv hw 7 (by omega)]
  simp only [u8f,Int.toNat_of_nonneg,a1,b1,c1,d1,e1,f1,g1,i1]
  rfl
 ·exact wv_lt hw
def scA (x:Bool × Nat):List A:=[.sb x.1,.int .u64 (wW x.2 0:Nat),.int .u64 (wW x.2 1:Nat),.int .u64 (wW x.2 2:Nat),.int .u64 (wW x.2 3:Nat),.int .u64 (wW x.2 4:Nat),.int .u64 (wW x.2 5:Nat),.int .u64 (wW x.2 6:Nat),.int .u64 (wW x.2 7:Nat)]
theorem o_sgn (ht:Tryz.prog.underlying 28=some (.int .u64)) (hb:Tryz.prog.underlying 4=some .bool):Opens Tryz.prog 32 scA (fun x=>x.2 < 65536 ^ 32) :=
 Opens_toOk (opens_struct (t:=32) (L:=[(4,0,1),(30,1,8)]) (by kernel_rfl) (by kernel_rfl) (opensF_cons (opens_bool hb) (opensF_cons (o_wide ht) opensF_nil))) (fun x=>(x.1,x.2.1)) (fun _ _=>rfl) (fun _ h=>h.2.1)
theorem o_spot (ht:Tryz.prog.underlying 28=some (.int .u64)) (hb:Tryz.prog.underlying 4=some .bool):Opens Tryz.prog 34 rsL Rk :=
 Opens_toOk (opens_struct (t:=34) (L:=[(32,0,9),(32,9,9),(30,18,8)]) (by kernel_rfl) (by kernel_rfl) (opensF_cons (o_sgn ht hb) (opensF_cons (o_sgn ht hb) (opensF_cons (o_wide ht) opensF_nil))))
  (fun x=>(⟨x.1.1,x.2.1.1,x.1.2,x.2.1.2,x.2.2.1⟩ : RS)) (fun _ _=>rfl) (fun _ h=>⟨h.1,h.2.1,h.2.2.1⟩)
theorem o_spots (ht:Tryz.prog.underlying 28=some (.int .u64)) (hb:Tryz.prog.underlying 4=some .bool):Opens Tryz.prog 22 (fun l:List RS=>[.sl l.length 26 fun i=>rsL (l.getD i default)]) (fun l=>∀ r ∈ l,Rk r) :=
 (opens_slice (e:=34) (sz:=26) (by kernel_rfl) (o_spot ht hb) (by kernel_rfl) (by omega)).to id (fun _=>rfl) (fun _ h=>h.2)
end Go.Proofs.YtmeohhbdkoeadaaGreat

/-
  The walks and plain laws, part 9.
-/
import Derived.Test.YtmeohhbdkoeadaaGreatSpotSorts7
import Derived.Test.YtmeohhbdkoeadaaGreatSpotSorts8
set_option linter.unusedSimpArgs false
set_option linter.unusedSectionVars false
set_option linter.unusedVariables false
set_option maxRecDepth 100000
set_option maxHeartbeats 4000000
namespace Go.Proofs.YtmeohhbdkoeadaaGreat
open Go.Proofs.YtmeohhbdkoeadaaGreat.Am Go.Sort Go.Proofs Go.Lib
variable [Inhabited DRT]
variable {G:GInv}
/-! ### The law: any spots in order -/
def allT (l:List RS) (i:Nat):Bool:=(l.take i).all fun r=>decide (MayR r)
theorem allT_next {l:List RS} {i:Nat} (h:i < l.length):allT l (i + 1) = (allT l i && decide (MayR (l.getD i default))):=by
 unfold allT
 rw [List.take_add_one,List.all_append]
 simp [List.getD_eq_getElem?_getD,h]
theorem allT_end {l:List RS}:allT l l.length = true ↔ ∀ r ∈ l,MayR r:=by
 unfold allT
 simp
theorem cmpR_zero {r s:RS} (hr:MayR r) (hs:MayR s):(cmpR r s == 0) = decide (r = s):=by
 rw [Bool.eq_iff_iff,beq_iff_eq,decide_eq_true_iff]
 exact ⟨cmpR_same hr hs,fun h=>by rw [h,cmpR_refl]⟩
theorem law_bad (hns:(default:DRT).ns) (l:List RS) (hk:∀ r ∈ l,Rk r) (hl:l.length ≤ 12) (hx:l.any badS = true):ACalls Tryz.prog G 3 [slS l] (.sb true):=by
 have hS:=sort_bad (G:=G) l hk (by omega) hx
 have hal:allT l l.length = false:=by
  cases q:allT l l.length with
  | false=>rfl
  | true =>
   obtain ⟨r,hr,hb⟩:=List.any_eq_true.1 hx
   unfold badS at hb
   rw [decide_eq_true (allT_end.1 q r hr)] at hb
   exact Bool.noConfusion hb
 have aw:=sawake_c (G:=G) (join_112 hns)
 have nq:∀ {p:Prop},(false = true) → p:=fun e=>Bool.noConfusion e
 have nt:∀ {p:Prop},(true = false) → p:=fun e=>Bool.noConfusion e
 unfold slS at *
 refine ACalls.of_WA ttok Tryz.func3 rfl rfl _ rfl ?_
 conv=>whnf
 repeat' (first|(exact absurd (by assumption) (by omega))|refine sq ?_|refine bk ?_|((first|refine rg ttok ?_|refine dw ttok mixed ?_|refine cd ?_|refine sk ?_|refine xt ?_|refine rt ?_);conv=>whnf)|(refine And.intro (fun h=>?_) (fun h=>?_) <;> (try simp only [brsA] at h) <;> conv=>whnf)|(refine Or.inl ?_;(conv=>whnf);refine ⟨_,hS,?_⟩;conv=>whnf)|((first|refine wf ?_|refine wp' ?_|refine ai ?_|refine And.intro rfl ?_|refine an ?_|fail);conv=>whnf))
 refine WA_loopI (fun x:Nat × Bool=>x.1 ≤ l.length ∧ x.2 = allT l x.1) (fun x=>match x with | (i,a)=>[(5,.sb a),(6,.int .i64 (i:Int))]) (fun _=>[]) (fun x=>l.length - x.1) (0,true) ⟨Nat.zero_le _,rfl⟩ ?_ ?_
 ·conv=>whnf
  repeat (first|exact fa|((first|refine fb ?_|(refine And.intro ?_ ?_;rotate_left));conv=>whnf))
 ·rintro ⟨i,a⟩ ⟨hi,ha⟩
  have hi:i ≤ l.length:=hi
  have ha:a = allT l i:=ha
  conv=>whnf
  repeat (first|refine sq ?_|refine bk ?_|((first|refine rg ttok ?_|refine dw ttok mixed ?_|refine cd ?_|refine sk ?_|refine xt ?_|refine rt ?_);conv=>whnf))
  refine ⟨fun h=>?_,fun h=>?_⟩
  ·have h:=of_decide_eq_true h
   have hc:i < l.length:=by omega
   have c7:=rMay_r (G:=G) (l.getD i default) (rk_get hk i)
   have c70:=rMay_r (G:=G) (l.getD 0 default) (rk_get hk 0)
   have c8:=sCmp_r (G:=G) (rk_get hk 0) (rk_get hk i)
   have hn:=allT_next hc
   rw [← ha] at hn
   clear ha
   rw [spR_L] at c7 c70
   rw [spR_L,spR_L] at c8
   by_cases m0:MayR (l.getD 0 default)
   ·by_cases mi:MayR (l.getD i default)
    ·have c9:=rCmp_r (G:=G) m0 mi
     have c10:=spText_r (G:=G) hns _ mi
     have c11:=rText_r (G:=G) _ mi
     have hz:=cmpR_zero m0 mi
     have key:=rs_eqb (rk_get hk 0) (rk_get hk i)
     rw [spR_L,spR_L] at c9
     rw [spR_L] at c10 c11
     rw [decide_eq_true m0] at c70
     rw [decide_eq_true mi] at c7 hn
     rw [if_pos ⟨m0,mi⟩,if_pos ⟨m0,mi⟩] at c8
     clear m0 mi
     generalize cmpR (l.getD 0 default) (l.getD i default) = z at *
     generalize txR (l.getD i default) = t at *
     unfold rsL spotL at *
     cases a
     ·rw [Bool.false_and] at hn
      conv=>whnf
      repeat' (first|(first|with_reducible exact nq h|with_reducible exact nt h|with_reducible exact absurd trivial h)|refine sq ?_|refine bk ?_|((first|refine rg ttok ?_|refine dw ttok mixed ?_|refine cd ?_|refine sk ?_|refine xt ?_|refine rt ?_);conv=>whnf)|(refine And.intro (fun h=>?_) (fun h=>?_) <;> (try simp only [brsA] at h) <;> conv=>whnf)|(refine Or.inl ?_;(conv=>whnf);(first|refine ⟨_,c7,?_⟩|refine ⟨_,c70,?_⟩|refine ⟨_,c8,?_⟩|refine ⟨_,c9,?_⟩|refine ⟨_,c10,?_⟩|refine ⟨_,c11,?_⟩);conv=>whnf)|((first|refine wf ?_|refine wp' ?_|refine ai ?_|refine And.intro rfl ?_|refine an ?_|fail);conv=>whnf))
      ·exact absurd (hz.trans key.symm) h
      refine ⟨(i + 1,false),⟨hc,hn.symm⟩,(by show l.length - (i + 1) < l.length - i; omega),?_⟩
      conv=>whnf
      repeat (first|exact fa|((first|refine fb ?_|(refine And.intro ?_ ?_;rotate_left));conv=>whnf))
     ·rw [Bool.true_and] at hn
      conv=>whnf
      repeat' (first|(first|with_reducible exact nq h|with_reducible exact nt h|with_reducible exact absurd trivial h)|refine sq ?_|refine bk ?_|((first|refine rg ttok ?_|refine dw ttok mixed ?_|refine cd ?_|refine sk ?_|refine xt ?_|refine rt ?_);conv=>whnf)|(refine And.intro (fun h=>?_) (fun h=>?_) <;> (try simp only [brsA] at h) <;> conv=>whnf)|(refine Or.inl ?_;(conv=>whnf);(first|refine ⟨_,c7,?_⟩|refine ⟨_,c70,?_⟩|refine ⟨_,c8,?_⟩|refine ⟨_,c9,?_⟩|refine ⟨_,c10,?_⟩|refine ⟨_,c11,?_⟩);conv=>whnf)|((first|refine wf ?_|refine wp' ?_|refine ai ?_|refine And.intro rfl ?_|refine an ?_|fail);conv=>whnf))
      ·exact absurd (hz.trans key.symm) h
      refine ⟨(i + 1,true),⟨hc,hn.symm⟩,(by show l.length - (i + 1) < l.length - i; omega),?_⟩
      conv=>whnf
      repeat (first|exact fa|((first|refine fb ?_|(refine And.intro ?_ ?_;rotate_left));conv=>whnf))
    ·rw [decide_eq_true m0] at c70
     rw [decide_eq_false mi] at c7 hn
     rw [if_neg (fun q=>mi q.2),if_neg (fun q=>mi q.2)] at c8
     clear m0 mi
     rw [Bool.and_false] at hn
     unfold rsL spotL at *
     cases a
     ·conv=>whnf
      repeat' (first|(first|with_reducible exact nq h|with_reducible exact nt h|with_reducible exact absurd trivial h)|refine sq ?_|refine bk ?_|((first|refine rg ttok ?_|refine dw ttok mixed ?_|refine cd ?_|refine sk ?_|refine xt ?_|refine rt ?_);conv=>whnf)|(refine And.intro (fun h=>?_) (fun h=>?_) <;> (try simp only [brsA] at h) <;> conv=>whnf)|(refine Or.inl ?_;(conv=>whnf);(first|refine ⟨_,c7,?_⟩|refine ⟨_,c70,?_⟩|refine ⟨_,c8,?_⟩);conv=>whnf)|((first|refine wf ?_|refine wp' ?_|refine ai ?_|refine And.intro rfl ?_|refine an ?_|fail);conv=>whnf))
      refine ⟨(i + 1,false),⟨hc,hn.symm⟩,(by show l.length - (i + 1) < l.length - i; omega),?_⟩
      conv=>whnf
      repeat (first|exact fa|((first|refine fb ?_|(refine And.intro ?_ ?_;rotate_left));conv=>whnf))
     ·conv=>whnf
      repeat' (first|(first|with_reducible exact nq h|with_reducible exact nt h|with_reducible exact absurd trivial h)|refine sq ?_|refine bk ?_|((first|refine rg ttok ?_|refine dw ttok mixed ?_|refine cd ?_|refine sk ?_|refine xt ?_|refine rt ?_);conv=>whnf)|(refine And.intro (fun h=>?_) (fun h=>?_) <;> (try simp only [brsA] at h) <;> conv=>whnf)|(refine Or.inl ?_;(conv=>whnf);(first|refine ⟨_,c7,?_⟩|refine ⟨_,c70,?_⟩|refine ⟨_,c8,?_⟩);conv=>whnf)|((first|refine wf ?_|refine wp' ?_|refine ai ?_|refine And.intro rfl ?_|refine an ?_|fail);conv=>whnf))
      refine ⟨(i + 1,false),⟨hc,hn.symm⟩,(by show l.length - (i + 1) < l.length - i; omega),?_⟩
      conv=>whnf
      repeat (first|exact fa|((first|refine fb ?_|(refine And.intro ?_ ?_;rotate_left));conv=>whnf))
   ·generalize decide (MayR (l.getD i default)) = bi at *
    rw [decide_eq_false m0] at c70
    rw [if_neg (fun q=>m0 q.1),if_neg (fun q=>m0 q.1)] at c8
    clear m0
    unfold rsL spotL at *
    cases a
    ·rw [Bool.false_and] at hn
     conv=>whnf
     repeat' (first|(first|with_reducible exact nq h|with_reducible exact nt h|with_reducible exact absurd trivial h)|refine sq ?_|refine bk ?_|((first|refine rg ttok ?_|refine dw ttok mixed ?_|refine cd ?_|refine sk ?_|refine xt ?_|refine rt ?_);conv=>whnf)|(refine And.intro (fun h=>?_) (fun h=>?_) <;> (try simp only [brsA] at h) <;> conv=>whnf)|(refine Or.inl ?_;(conv=>whnf);(first|refine ⟨_,c7,?_⟩|refine ⟨_,c70,?_⟩|refine ⟨_,c8,?_⟩);conv=>whnf)|((first|refine wf ?_|refine wp' ?_|refine ai ?_|refine And.intro rfl ?_|refine an ?_|fail);conv=>whnf))
     refine ⟨(i + 1,false),⟨hc,hn.symm⟩,(by show l.length - (i + 1) < l.length - i; omega),?_⟩
     conv=>whnf
     repeat (first|exact fa|((first|refine fb ?_|(refine And.intro ?_ ?_;rotate_left));conv=>whnf))
    ·rw [Bool.true_and] at hn
     conv=>whnf
     repeat' (first|(first|with_reducible exact nq h|with_reducible exact nt h|with_reducible exact absurd trivial h)|refine sq ?_|refine bk ?_|((first|refine rg ttok ?_|refine dw ttok mixed ?_|refine cd ?_|refine sk ?_|refine xt ?_|refine rt ?_);conv=>whnf)|(refine And.intro (fun h=>?_) (fun h=>?_) <;> (try simp only [brsA] at h) <;> conv=>whnf)|(refine Or.inl ?_;(conv=>whnf);(first|refine ⟨_,c7,?_⟩|refine ⟨_,c70,?_⟩|refine ⟨_,c8,?_⟩);conv=>whnf)|((first|refine wf ?_|refine wp' ?_|refine ai ?_|refine And.intro rfl ?_|refine an ?_|fail);conv=>whnf))
     refine ⟨(i + 1,bi),⟨hc,hn.symm⟩,(by show l.length - (i + 1) < l.length - i; omega),?_⟩
     conv=>whnf
     repeat (first|exact fa|((first|refine fb ?_|(refine And.intro ?_ ?_;rotate_left));conv=>whnf))
  ·have h:=of_decide_eq_false h
   have e:i = l.length:=by omega
   subst e
   rw [hal] at ha
   subst ha
   conv=>whnf
   repeat' (first|(first|with_reducible exact nq h|with_reducible exact nt h|with_reducible exact absurd trivial h)|refine sq ?_|refine bk ?_|((first|refine rg ttok ?_|refine dw ttok mixed ?_|refine cd ?_|refine sk ?_|refine xt ?_|refine rt ?_);conv=>whnf)|(refine And.intro (fun h=>?_) (fun h=>?_) <;> (try simp only [brsA] at h) <;> conv=>whnf)|(refine Or.inl ?_;(conv=>whnf);refine ⟨_,aw,?_⟩;conv=>whnf)|((first|refine wf ?_|refine wp' ?_|refine ai ?_|refine And.intro rfl ?_|refine an ?_|fail);conv=>whnf))
theorem law_ok (hns:(default:DRT).ns) (l:List RS) (hk:∀ r ∈ l,Rk r) (hl:l.length ≤ 12) (hm:∀ r ∈ l,MayR r):ACalls Tryz.prog G 3 [slS l] (.sb true):=by
 have hS:=sort_p (G:=G) hns l (by omega) hm
 have c13:=rsort_p (G:=G) l (by omega) hm
 have hal:allT l l.length = true:=allT_end.2 hm
 have hLm:∀ r ∈ vals (putAll (mkMS l hm)),Rk r:=by
  intro r hr
  obtain ⟨x,_,rfl⟩:=List.mem_map.1 hr
  exact x.2.1.rk
 have hLl:(vals (putAll (mkMS l hm))).length ≤ l.length:=by
  unfold vals
  rw [List.length_map]
  have:=putAll_len (mkMS l hm) (mkMS l hm).length (Nat.le_refl _)
  rw [List.take_length,mkMS_len] at this
  exact this
 generalize vals (putAll (mkMS l hm)) = L at *
 have c12:=rsame_c (G:=G) L L hLm hLm (by omega) (by omega)
 rw [decide_eq_true rfl] at c12
 have aw:=sawake_c (G:=G) (join_112 hns)
 have nq:∀ {p:Prop},(false = true) → p:=fun e=>Bool.noConfusion e
 have nt:∀ {p:Prop},(true = false) → p:=fun e=>Bool.noConfusion e
 unfold slS at *
 refine ACalls.of_WA ttok Tryz.func3 rfl rfl _ rfl ?_
 conv=>whnf
 repeat' (first|(exact absurd (by assumption) (by omega))|refine sq ?_|refine bk ?_|((first|refine rg ttok ?_|refine dw ttok mixed ?_|refine cd ?_|refine sk ?_|refine xt ?_|refine rt ?_);conv=>whnf)|(refine And.intro (fun h=>?_) (fun h=>?_) <;> (try simp only [brsA] at h) <;> conv=>whnf)|(refine Or.inl ?_;(conv=>whnf);refine ⟨_,hS,?_⟩;conv=>whnf)|((first|refine wf ?_|refine wp' ?_|refine ai ?_|refine And.intro rfl ?_|refine an ?_|fail);conv=>whnf))
 refine WA_loopI (fun x:Nat × Bool=>x.1 ≤ l.length ∧ x.2 = allT l x.1) (fun x=>match x with | (i,a)=>[(5,.sb a),(6,.int .i64 (i:Int))]) (fun _=>[]) (fun x=>l.length - x.1) (0,true) ⟨Nat.zero_le _,rfl⟩ ?_ ?_
 ·conv=>whnf
  repeat (first|exact fa|((first|refine fb ?_|(refine And.intro ?_ ?_;rotate_left));conv=>whnf))
 ·rintro ⟨i,a⟩ ⟨hi,ha⟩
  have hi:i ≤ l.length:=hi
  have ha:a = allT l i:=ha
  conv=>whnf
  repeat (first|refine sq ?_|refine bk ?_|((first|refine rg ttok ?_|refine dw ttok mixed ?_|refine cd ?_|refine sk ?_|refine xt ?_|refine rt ?_);conv=>whnf))
  refine ⟨fun h=>?_,fun h=>?_⟩
  ·have h:=of_decide_eq_true h
   have hc:i < l.length:=by omega
   have c7:=rMay_r (G:=G) (l.getD i default) (rk_get hk i)
   have c70:=rMay_r (G:=G) (l.getD 0 default) (rk_get hk 0)
   have c8:=sCmp_r (G:=G) (rk_get hk 0) (rk_get hk i)
   have hn:=allT_next hc
   rw [← ha] at hn
   clear ha
   rw [spR_L] at c7 c70
   rw [spR_L,spR_L] at c8
   by_cases m0:MayR (l.getD 0 default)
   ·by_cases mi:MayR (l.getD i default)
    ·have c9:=rCmp_r (G:=G) m0 mi
     have c10:=spText_r (G:=G) hns _ mi
     have c11:=rText_r (G:=G) _ mi
     have hz:=cmpR_zero m0 mi
     have key:=rs_eqb (rk_get hk 0) (rk_get hk i)
     rw [spR_L,spR_L] at c9
     rw [spR_L] at c10 c11
     rw [decide_eq_true m0] at c70
     rw [decide_eq_true mi] at c7 hn
     rw [if_pos ⟨m0,mi⟩,if_pos ⟨m0,mi⟩] at c8
     clear m0 mi
     generalize cmpR (l.getD 0 default) (l.getD i default) = z at *
     generalize txR (l.getD i default) = t at *
     unfold rsL spotL at *
     cases a
     ·rw [Bool.false_and] at hn
      conv=>whnf
      repeat' (first|(first|with_reducible exact nq h|with_reducible exact nt h|with_reducible exact absurd trivial h)|refine sq ?_|refine bk ?_|((first|refine rg ttok ?_|refine dw ttok mixed ?_|refine cd ?_|refine sk ?_|refine xt ?_|refine rt ?_);conv=>whnf)|(refine And.intro (fun h=>?_) (fun h=>?_) <;> (try simp only [brsA] at h) <;> conv=>whnf)|(refine Or.inl ?_;(conv=>whnf);(first|refine ⟨_,c7,?_⟩|refine ⟨_,c70,?_⟩|refine ⟨_,c8,?_⟩|refine ⟨_,c9,?_⟩|refine ⟨_,c10,?_⟩|refine ⟨_,c11,?_⟩);conv=>whnf)|((first|refine wf ?_|refine wp' ?_|refine ai ?_|refine And.intro rfl ?_|refine an ?_|fail);conv=>whnf))
      ·exact absurd (hz.trans key.symm) h
      refine ⟨(i + 1,false),⟨hc,hn.symm⟩,(by show l.length - (i + 1) < l.length - i; omega),?_⟩
      conv=>whnf
      repeat (first|exact fa|((first|refine fb ?_|(refine And.intro ?_ ?_;rotate_left));conv=>whnf))
     ·rw [Bool.true_and] at hn
      conv=>whnf
      repeat' (first|(first|with_reducible exact nq h|with_reducible exact nt h|with_reducible exact absurd trivial h)|refine sq ?_|refine bk ?_|((first|refine rg ttok ?_|refine dw ttok mixed ?_|refine cd ?_|refine sk ?_|refine xt ?_|refine rt ?_);conv=>whnf)|(refine And.intro (fun h=>?_) (fun h=>?_) <;> (try simp only [brsA] at h) <;> conv=>whnf)|(refine Or.inl ?_;(conv=>whnf);(first|refine ⟨_,c7,?_⟩|refine ⟨_,c70,?_⟩|refine ⟨_,c8,?_⟩|refine ⟨_,c9,?_⟩|refine ⟨_,c10,?_⟩|refine ⟨_,c11,?_⟩);conv=>whnf)|((first|refine wf ?_|refine wp' ?_|refine ai ?_|refine And.intro rfl ?_|refine an ?_|fail);conv=>whnf))
      ·exact absurd (hz.trans key.symm) h
      refine ⟨(i + 1,true),⟨hc,hn.symm⟩,(by show l.length - (i + 1) < l.length - i; omega),?_⟩
      conv=>whnf
      repeat (first|exact fa|((first|refine fb ?_|(refine And.intro ?_ ?_;rotate_left));conv=>whnf))
    ·rw [decide_eq_true m0] at c70
     rw [decide_eq_false mi] at c7 hn
     rw [if_neg (fun q=>mi q.2),if_neg (fun q=>mi q.2)] at c8
     clear m0 mi
     rw [Bool.and_false] at hn
     unfold rsL spotL at *
     cases a
     ·conv=>whnf
      repeat' (first|(first|with_reducible exact nq h|with_reducible exact nt h|with_reducible exact absurd trivial h)|refine sq ?_|refine bk ?_|((first|refine rg ttok ?_|refine dw ttok mixed ?_|refine cd ?_|refine sk ?_|refine xt ?_|refine rt ?_);conv=>whnf)|(refine And.intro (fun h=>?_) (fun h=>?_) <;> (try simp only [brsA] at h) <;> conv=>whnf)|(refine Or.inl ?_;(conv=>whnf);(first|refine ⟨_,c7,?_⟩|refine ⟨_,c70,?_⟩|refine ⟨_,c8,?_⟩);conv=>whnf)|((first|refine wf ?_|refine wp' ?_|refine ai ?_|refine And.intro rfl ?_|refine an ?_|fail);conv=>whnf))
      refine ⟨(i + 1,false),⟨hc,hn.symm⟩,(by show l.length - (i + 1) < l.length - i; omega),?_⟩
      conv=>whnf
      repeat (first|exact fa|((first|refine fb ?_|(refine And.intro ?_ ?_;rotate_left));conv=>whnf))
     ·conv=>whnf
      repeat' (first|(first|with_reducible exact nq h|with_reducible exact nt h|with_reducible exact absurd trivial h)|refine sq ?_|refine bk ?_|((first|refine rg ttok ?_|refine dw ttok mixed ?_|refine cd ?_|refine sk ?_|refine xt ?_|refine rt ?_);conv=>whnf)|(refine And.intro (fun h=>?_) (fun h=>?_) <;> (try simp only [brsA] at h) <;> conv=>whnf)|(refine Or.inl ?_;(conv=>whnf);(first|refine ⟨_,c7,?_⟩|refine ⟨_,c70,?_⟩|refine ⟨_,c8,?_⟩);conv=>whnf)|((first|refine wf ?_|refine wp' ?_|refine ai ?_|refine And.intro rfl ?_|refine an ?_|fail);conv=>whnf))
      refine ⟨(i + 1,false),⟨hc,hn.symm⟩,(by show l.length - (i + 1) < l.length - i; omega),?_⟩
      conv=>whnf
      repeat (first|exact fa|((first|refine fb ?_|(refine And.intro ?_ ?_;rotate_left));conv=>whnf))
   ·generalize decide (MayR (l.getD i default)) = bi at *
    rw [decide_eq_false m0] at c70
    rw [if_neg (fun q=>m0 q.1),if_neg (fun q=>m0 q.1)] at c8
    clear m0
    unfold rsL spotL at *
    cases a
    ·rw [Bool.false_and] at hn
     conv=>whnf
     repeat' (first|(first|with_reducible exact nq h|with_reducible exact nt h|with_reducible exact absurd trivial h)|refine sq ?_|refine bk ?_|((first|refine rg ttok ?_|refine dw ttok mixed ?_|refine cd ?_|refine sk ?_|refine xt ?_|refine rt ?_);conv=>whnf)|(refine And.intro (fun h=>?_) (fun h=>?_) <;> (try simp only [brsA] at h) <;> conv=>whnf)|(refine Or.inl ?_;(conv=>whnf);(first|refine ⟨_,c7,?_⟩|refine ⟨_,c70,?_⟩|refine ⟨_,c8,?_⟩);conv=>whnf)|((first|refine wf ?_|refine wp' ?_|refine ai ?_|refine And.intro rfl ?_|refine an ?_|fail);conv=>whnf))
     refine ⟨(i + 1,false),⟨hc,hn.symm⟩,(by show l.length - (i + 1) < l.length - i; omega),?_⟩
     conv=>whnf
     repeat (first|exact fa|((first|refine fb ?_|(refine And.intro ?_ ?_;rotate_left));conv=>whnf))
    ·rw [Bool.true_and] at hn
     conv=>whnf
     repeat' (first|(first|with_reducible exact nq h|with_reducible exact nt h|with_reducible exact absurd trivial h)|refine sq ?_|refine bk ?_|((first|refine rg ttok ?_|refine dw ttok mixed ?_|refine cd ?_|refine sk ?_|refine xt ?_|refine rt ?_);conv=>whnf)|(refine And.intro (fun h=>?_) (fun h=>?_) <;> (try simp only [brsA] at h) <;> conv=>whnf)|(refine Or.inl ?_;(conv=>whnf);(first|refine ⟨_,c7,?_⟩|refine ⟨_,c70,?_⟩|refine ⟨_,c8,?_⟩);conv=>whnf)|((first|refine wf ?_|refine wp' ?_|refine ai ?_|refine And.intro rfl ?_|refine an ?_|fail);conv=>whnf))
     refine ⟨(i + 1,bi),⟨hc,hn.symm⟩,(by show l.length - (i + 1) < l.length - i; omega),?_⟩
     conv=>whnf
     repeat (first|exact fa|((first|refine fb ?_|(refine And.intro ?_ ?_;rotate_left));conv=>whnf))
  ·have h:=of_decide_eq_false h
   have e:i = l.length:=by omega
   subst e
   rw [hal] at ha
   subst ha
   conv=>whnf
   repeat' (first|(first|with_reducible exact nq h|with_reducible exact nt h|with_reducible exact absurd trivial h)|refine sq ?_|refine bk ?_|((first|refine rg ttok ?_|refine dw ttok mixed ?_|refine cd ?_|refine sk ?_|refine xt ?_|refine rt ?_);conv=>whnf)|(refine And.intro (fun h=>?_) (fun h=>?_) <;> (try simp only [brsA] at h) <;> conv=>whnf)|(refine Or.inl ?_;(conv=>whnf);(first|refine ⟨_,c12,?_⟩|refine ⟨_,c13,?_⟩|refine ⟨_,aw,?_⟩);conv=>whnf)|((first|refine wf ?_|refine wp' ?_|refine ai ?_|refine And.intro rfl ?_|refine an ?_|fail);conv=>whnf))
theorem spotSorts_c (hns:(default:DRT).ns) (l:List RS) (hk:∀ r ∈ l,Rk r):ACalls Tryz.prog G 3 [slS l] (.sb true):=by
 by_cases hl:l.length ≤ 12
 ·cases ha:l.any badS with
  | true=>exact law_bad hns l hk hl ha
  | false =>
   refine law_ok hns l hk hl fun r hr=>?_
   have:=List.any_eq_false.1 ha r hr
   unfold badS at this
   simpa using this
 ·have aw:=sawake_c (G:=G) (join_112 hns)
  unfold slS
  refine ACalls.of_WA ttok Tryz.func3 rfl rfl _ rfl ?_
  conv=>whnf
  repeat' (first|(exact absurd (by assumption) (by omega))|refine sq ?_|refine bk ?_|((first|refine rg ttok ?_|refine dw ttok mixed ?_|refine cd ?_|refine sk ?_|refine xt ?_|refine rt ?_);conv=>whnf)|(refine And.intro (fun h=>?_) (fun h=>?_) <;> (try simp only [brsA] at h) <;> conv=>whnf)|(refine Or.inl ?_;(conv=>whnf);refine ⟨_,aw,?_⟩;conv=>whnf)|((first|refine wf ?_|refine wp' ?_|refine ai ?_|refine And.intro rfl ?_|refine an ?_|fail);conv=>whnf))
end Go.Proofs.YtmeohhbdkoeadaaGreat

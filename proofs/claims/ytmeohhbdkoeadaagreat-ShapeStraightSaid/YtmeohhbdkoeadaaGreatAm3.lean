/-
  THE ENGINE, part 3: an abstract machine of symbolic values, each step proved sound.
-/
import Derived.Test.YtmeohhbdkoeadaaGreatAm2
import Derived.Laws.BytesArg
import Derived.ProofKit
import Derived.LaidMore
import Derived.OpenShut
import Derived.Stop.Joined
import Derived.Orders
set_option linter.unusedSimpArgs false
set_option linter.unusedSectionVars false
set_option linter.unusedVariables false
set_option maxHeartbeats 4000000
namespace Go.Proofs.YtmeohhbdkoeadaaGreat.Am
variable [Inhabited DRT]
open Go.RowKit (Below)
section
variable {c:Ctx} {s:List A} {m:List Blk} {a:Act} {w w':World} {ids ids':Ids} {P:Program} {im im':Nat → Prop} {tt:TT} {G:GInv}
variable {next:Act → World → Prop} {Q:Exit → Act → World → Prop} {o:Oper}

/-- What is known of a key's type. -/
structure KeyT (P:Program) (kt:TypeId) (agg:Bool) (sh:List KS):Prop where
 ex:∃ d ns,P.underlying kt = some d ∧ agg = isRowD d ∧ eqShape P 6 kt = some ns ∧ shOk ns sh = true
theorem KeyT.mkV {kt:TypeId} {agg:Bool} {sh:List KS} (h:KeyT P kt agg sh) (k:List KC):mkV P kt (kVs sh k) = kV agg sh k:=by
 obtain ⟨d,ns,h1,h2,_,_⟩:=h.ex
 unfold Am.mkV kV
 rw [h1,h2]
 cases d <;> rfl
theorem KeyT.chk {kt:TypeId} {agg:Bool} {sh:List KS} (h:KeyT P kt agg sh) {k:List KC} (hk:kOk sh k) (em:Bool):(Instr.checkKey em 10000 kt (kV agg sh k)).run P w = .ok () w:=by
 rw [← h.mkV]
 obtain ⟨d,ns,_,_,h3,h4⟩:=h.ex
 exact chk_run em 6 kt ns _ _ 9994 h3 (okL_keys h4 hk hk)
theorem KeyT.eq {kt:TypeId} {agg:Bool} {sh:List KS} (h:KeyT P kt agg sh) {k k':List KC} (hk:kOk sh k) (hk':kOk sh k'):(Op.equal kt (kV agg sh k) (kV agg sh k')).run P w = .ok (decide (k = k')) w:=by
 rw [← h.mkV,← h.mkV]
 obtain ⟨d,ns,_,_,h3,h4⟩:=h.ex
 exact eqShape_run 6 kt ns _ _ _ 9994 h3 (okL_keys h4 hk hk')
theorem ask_run {kt:TypeId} {agg:Bool} {sh:List KS} (h:KeyT P kt agg sh) {k:List KC} (hk:kOk sh k):∀ (es:List MapEntry) (f:Nat → List KC) (i0:Nat),(∀ i (h:i < es.length),kOk sh (f i) ∧ es[i].key = kV agg sh (f i)) →
  ∃ res,(Instr.findAsking kt (kV agg sh k) es i0).run P w = .ok res w ∧ ((res = none ∧ ∀ i,i < es.length → f i ≠ k) ∨ ∃ i,∃ (h:i < es.length),f i = k ∧ res = some (i0 + i,es[i].val))
 | [],f,i0,_=>⟨none,by simp [Instr.findAsking],.inl ⟨rfl,fun _ h=>by simp at h⟩⟩
 | e :: es,f,i0,hf=>by
  have h0:=hf 0 (by simp)
  have he:=h.eq (w:=w) hk h0.1
  have h0':e.key = kV agg sh (f 0):=h0.2
  rw [← h0'] at he
  by_cases hkk:k = f 0
  ·refine ⟨some (i0,e.val),?_,.inr ⟨0,by simp,hkk.symm,rfl⟩⟩
   simp only [Instr.findAsking,Sem.run_bind,he,Result.andThen_ok]
   rw [decide_eq_true hkk]; rfl
  ·obtain ⟨res,h1,h2⟩:=ask_run h hk es (fun i=>f (i + 1)) (i0 + 1) (fun i hi=>hf (i + 1) (by simpa using hi))
   refine ⟨res,?_,?_⟩
   ·simp only [Instr.findAsking,Sem.run_bind,he,Result.andThen_ok]
    rw [decide_eq_false hkk]; exact h1
   ·rcases h2 with ⟨e1,e2⟩ | ⟨i,hi,e1,e2⟩
    ·refine .inl ⟨e1,fun i hi=>?_⟩
     cases i with
     | zero=>exact fun e=>hkk e.symm
     | succ i=>exact e2 i (by simpa using hi)
    ·exact .inr ⟨i + 1,by simpa using hi,e1,by rw [e2]; simp; omega⟩
theorem now_run {d:TypeDesc} {sh:List KS} (hsame:∀ k k',kOk sh k → kOk sh k' → Instr.sameNow d (kV false sh k) (kV false sh k') = some (decide (k = k'))) {k:List KC} (hk:kOk sh k):∀ (es:List MapEntry) (f:Nat → List KC) (i0:Nat),(∀ i (h:i < es.length),kOk sh (f i) ∧ es[i].key = kV false sh (f i)) →
  ∃ res,Instr.findNow d (kV false sh k) es i0 = some res ∧ ((res = none ∧ ∀ i,i < es.length → f i ≠ k) ∨ ∃ i,∃ (h:i < es.length),f i = k ∧ res = some (i0 + i,es[i].val))
 | [],f,i0,_=>⟨none,rfl,.inl ⟨rfl,fun _ h=>by simp at h⟩⟩
 | e :: es,f,i0,hf=>by
  have h0:=hf 0 (by simp)
  have he:=hsame k (f 0) hk h0.1
  have h0':e.key = kV false sh (f 0):=h0.2
  rw [← h0'] at he
  by_cases hkk:k = f 0
  ·refine ⟨some (i0,e.val),?_,.inr ⟨0,by simp,hkk.symm,rfl⟩⟩
   rw [decide_eq_true hkk] at he
   simp only [Instr.findNow,he]
  ·rw [decide_eq_false hkk] at he
   obtain ⟨res,h1,h2⟩:=now_run hsame hk es (fun i=>f (i + 1)) (i0 + 1) (fun i hi=>hf (i + 1) (by simpa using hi))
   refine ⟨res,?_,?_⟩
   ·simp only [Instr.findNow,he]; exact h1
   ·rcases h2 with ⟨e1,e2⟩ | ⟨i,hi,e1,e2⟩
    ·refine .inl ⟨e1,fun i hi=>?_⟩
     cases i with
     | zero=>exact fun e=>hkk e.symm
     | succ i=>exact e2 i (by simpa using hi)
    ·exact .inr ⟨i + 1,by simpa using hi,e1,by rw [e2]; simp; omega⟩
theorem kOk_one {s:KS} {k:List KC} (h:kOk [s] k):∃ x,k = [x] ∧ kOk [s] [x]:=by
 match k,h with
 | [x],h=>exact ⟨x,rfl,h⟩
 | [],h=>cases s <;> exact h.elim
 | x :: y :: l,h=>cases s <;> cases x <;> exact h.elim
theorem find_run {kt:TypeId} {agg:Bool} {sh:List KS} (h:KeyT P kt agg sh) {k:List KC} (hk:kOk sh k) (es:Array MapEntry) (f:Nat → List KC) (hf:∀ i (h:i < es.size),kOk sh (f i) ∧ es[i].key = kV agg sh (f i)) :
  ∃ res,(Instr.findKey kt (kV agg sh k) es.toList).run P w = .ok res w ∧ ((res = none ∧ ∀ i,i < es.size → f i ≠ k) ∨ ∃ i,∃ (h:i < es.size),f i = k ∧ res = some (i,es[i].val)):=by
 obtain ⟨d,ns,h1,h2,h3,h4⟩:=h.ex
 have hf':∀ i (h:i < es.toList.length),kOk sh (f i) ∧ es.toList[i].key = kV agg sh (f i):=fun i hi=>by simpa using hf i (by simpa using hi)
 cases agg with
 | true =>
  have hw:(match P.underlying kt with | some (.array _ _) | some (.struct _)=>true | _=>false) = true:=by
   rw [h1]; cases d <;> simp [isRowD] at h2 <;> rfl
  obtain ⟨res,e1,e2⟩:=ask_run (w:=w) h hk es.toList f 0 hf'
  exact ⟨res,by rw [run_findKey_eq w hw]; exact e1,by simpa using e2⟩
 | false =>
  have hsame:∀ k k',kOk sh k → kOk sh k' → Instr.sameNow d (kV false sh k) (kV false sh k') = some (decide (k = k')):=by
   intro k k' g1 g2
   unfold eqShape at h3
   rw [h1] at h3
   cases d <;> simp [isRowD] at h2 <;> simp only at h3 <;> first|(cases h3;done)|skip
   all_goals
    cases h3
    match sh,h4,g1,g2 with
    | [s],h4,g1,g2 =>
     obtain ⟨x,rfl,g1⟩:=kOk_one g1
     obtain ⟨y,rfl,g2⟩:=kOk_one g2
     cases s <;> simp [shOk] at h4 <;> cases x <;> first|exact g1.elim|skip
     all_goals
      cases y <;> first|exact g2.elim|skip
      simp [kV,kVs,kV1,Instr.sameNow,Bool.beq_eq_decide_eq]
      try (rw [beq_toListBytes,ba_toList,ba_toList,Bool.eq_iff_iff]; simp)
    | [],h4,_,_=>simp [shOk] at h4
    | s :: s' :: ss,h4,_,_=>cases s <;> simp [shOk] at h4
  obtain ⟨res,e1,e2⟩:=now_run hsame hk es.toList f 0 hf'
  exact ⟨res,MapKept.run_findKey h1 e1,by simpa using e2⟩

/-- What a map's type tells. -/
theorem mapTy_inv (htt:TTok P tt) {t:TypeId} {K:Bool → List KS → A → Prop} (h:mapTy tt t K) (im:Nat → Prop) (w:World) :
  ∃ kt et agg sh z zv,P.underlying t = some (.map kt et) ∧ KeyT P kt agg sh ∧ (zeroValue et).run P w = .ok zv w ∧ RelI im w z zv ∧ K agg sh z:=by
 unfold mapTy at h
 split at h
 ·exact h.elim
 ·rename_i ti hti
  split at h
  ·rename_i tk te hk htk hte
   split at h
   ·rename_i ns sh hns hsh
    split at h
    ·rename_i hok hlen
     obtain ⟨i,d,z0,g1,g2,g3,g4,g5,g6,g7,g8,_,_,_,_,_,_,g9,_⟩:=htt.facts htk
     obtain ⟨zv,z1,z2,z3⟩:=htt.zeroRun hte im w
     have hkt:KeyT P ti.alen tk.agg sh:=⟨d,ns,g2,g8,by rw [← g9]; exact hns,hok⟩
     rw [fB_eq] at h
     split at h
     ·rename_i ha
      rw [fl_eq] at h
      exact ⟨_,_,_,_,_,zv,htt.mapFact hti hk,hkt,z1,z2 ha,h⟩
     ·rename_i ha
      obtain ⟨z,e1,e2⟩:=z3 ha
      rw [e1] at h
      simp only [fv_eq] at h
      exact ⟨_,_,_,_,_,zv,htt.mapFact hti hk,hkt,z1,e2,h⟩
    ·exact h.elim
   ·exact h.elim
  ·exact h.elim

theorem look_run {t kt et:TypeId} {agg:Bool} {sh:List KS} (ht:P.underlying t = some (.map kt et)) (hkt:KeyT P kt agg sh) {zv:Value} (hz:(zeroValue et).run P w = .ok zv w) {k:List KC} (hk:kOk sh k)
  {r:Nat} {es:Array MapEntry} {clock:Nat} (hh:w.heap[r]? = some (.map es clock)) {f:Nat → List KC} (hf:∀ i (h:i < es.size),kOk sh (f i) ∧ es[i].key = kV agg sh (f i)) (ok:Bool) :
  (∃ i,∃ (h:i < es.size),f i = k ∧ (Instr.lookup t (.map (some r)) (kV agg sh k) ok).run P w = .ok (if ok then .tuple #[es[i].val,.bool true] else es[i].val) w) ∨
  ((∀ i,i < es.size → f i ≠ k) ∧ (Instr.lookup t (.map (some r)) (kV agg sh k) ok).run P w = .ok (if ok then .tuple #[zv,.bool false] else zv) w):=by
 obtain ⟨res,e1,e2⟩:=find_run (w:=w) hkt hk es f hf
 have hc:=hkt.chk (w:=w) hk es.isEmpty
 rcases e2 with ⟨rfl,e2⟩ | ⟨i,hi,e2,rfl⟩
 ·refine .inr ⟨e2,?_⟩
  simp only [Instr.lookup,Sem.run_bind,run_underlying ht,Result.andThen_ok,MapKept.run_getObj_map hh,Sem.run_pure,hc,e1,hz]
 ·refine .inl ⟨i,hi,e2,?_⟩
  simp only [Instr.lookup,Sem.run_bind,run_underlying ht,Result.andThen_ok,MapKept.run_getObj_map hh,Sem.run_pure,hc,e1]

theorem sLook_sound (htt:TTok P tt) (hs:Sim c s m a w ids) {t:TypeId} {X Y:Operand} {ok:Bool} (ho:o.op = .lookup t X Y ok) {K:KT} (h:sLook tt t (ev s X) (ev s Y) ok m fun v=>K v m) (hn:NextOk c s o K next):o.wp P a w next Q:=by
 have e:execOp a.eval o = (do pure (.value (← Instr.lookup t (a.eval X) (a.eval Y) ok))):=by
  obtain ⟨dst,op,ty,pos,after,guard⟩:=o
  simp only at ho; subst ho; rfl
 unfold sLook at h
 obtain ⟨kt,et,agg,sh,z,zv,h1,h2,h3,h4,h⟩:=mapTy_inv htt h (imOf c ids w) w
 split at h
 ·exact h.elim
 ·rename_i k hk
  obtain ⟨g1,g2⟩:=keyA_rel hk (hs.ev Y)
  have main:∀ (has:List KC → Bool) (val:List KC → A) (r:Nat) (es:Array MapEntry) (clock:Nat) (f:Nat → List KC),a.eval X = .map (some r) → w.heap[r]? = some (.map es clock) →
    (∀ i (h:i < es.size),kOk sh (f i) ∧ es[i].key = kV agg sh (f i) ∧ has (f i) = true) → (∀ k,kOk sh k → has k = true → ∃ i,i < es.size ∧ f i = k) → (∀ i (h:i < es.size),RelI (imOf c ids w) w (val (f i)) es[i].val) →
    lookR z k ok has val (fun v=>K v m) → o.wp P a w next Q:=by
   intro has val r es clock f q1 q2 q3 q4 q5 q6
   simp only [lookR,fd_eq] at q6
   rcases look_run h1 h2 h3 g1 q2 (fun i hi=>⟨(q3 i hi).1,(q3 i hi).2.1⟩) ok with ⟨i,hi,e1,e2⟩ | ⟨e1,e2⟩
   ·have hhas:has k = true:=by rw [← e1]; exact (q3 i hi).2.2
    have hrel:=q5 i hi
    rw [e1] at hrel
    cases ok with
    | true =>
     refine wp_val hs hn ⟨_,.tuple #[es[i].val,.bool true],by rw [e,q1,g2]; simp only [Sem.run_bind,e2,Result.andThen_ok]; rfl,q6.1 hhas,?_⟩
     exact .imm (.tup [val k,.bool true] [es[i].val,.bool true] rfl (fun j g g'=>by
      match j with
      | 0=>exact hrel
      | 1=>exact .bool true
      | j + 2=>exact absurd g (by simp)))
    | false=>exact wp_val hs hn ⟨_,es[i].val,by rw [e,q1,g2]; simp only [Sem.run_bind,e2,Result.andThen_ok]; rfl,q6.1 hhas,.imm hrel⟩
   ·have hhas:has k = false:=by
     cases hb:has k with
     | false=>rfl
     | true=>obtain ⟨i,hi,he⟩:=q4 k g1 hb; exact absurd he (e1 i hi)
    cases ok with
    | true =>
     refine wp_val hs hn ⟨_,.tuple #[zv,.bool false],by rw [e,q1,g2]; simp only [Sem.run_bind,e2,Result.andThen_ok]; rfl,q6.2 hhas,?_⟩
     exact .imm (.tup [z,.bool false] [zv,.bool false] rfl (fun j g g'=>by
      match j with
      | 0=>exact h4
      | 1=>exact .bool false
      | j + 2=>exact absurd g (by simp)))
    | false=>exact wp_val hs hn ⟨_,zv,by rw [e,q1,g2]; simp only [Sem.run_bind,e2,Result.andThen_ok]; rfl,q6.2 hhas,.imm h4⟩
  have hx:=hs.ev X
  split at h
  ·rename_i agg' sh' has val hv; rw [hv] at hx
   unfold lookG at h
   split at h
   ·rename_i hb1 hb2
    have hb1:=boolEq_iff hb1
    have hb2:=ksEq_iff hb2
    subst hb1; subst hb2
    cases hx with
    | imm hx =>
     generalize hX:a.eval X = V at hx
     cases hx with
     | mv _ _ _ _ r es clock f hb hh hk' hd hc hv'=>exact main has val r es clock f hX hh hk' hc hv' h
   ·exact h.elim
  ·rename_i b hv; rw [hv] at hx
   split at h
   ·rename_i agg' sh' has val hmb
    unfold lookG at h
    split at h
    ·rename_i hb1 hb2
     have hb1:=boolEq_iff hb1
     have hb2:=ksEq_iff hb2
     subst hb1; subst hb2
     obtain ⟨p,h5,h6⟩:=hs.omap_at hx (by rw [hmb]; simp)
     obtain ⟨x,hxm,hbr⟩:=hs.blk_at h5
     rw [getD_of_get hxm] at hmb; subst hmb
     obtain ⟨es,clock,f,q1,q2,q3,q4,q5⟩:=hbr
     exact main has val p.blk es clock f h6 q1 q2 q4 q5.1 h
    ·exact h.elim
   ·exact h.elim
  ·rename_i hv; rw [hv] at hx
   have hX:=hx.nilm_inv
   have hc:=h2.chk (w:=w) g1 true
   have hrun:(Instr.lookup t (.map none) (kV agg sh k) ok).run P w = .ok (if ok then .tuple #[zv,.bool false] else zv) w:=by
    have hfk:(Instr.findKey kt (kV agg sh k) ([]:List MapEntry)).run P w = .ok none w:=by
     obtain ⟨res,e1,e2⟩:=find_run (w:=w) h2 g1 #[] (fun _=>[]) (fun i hi=>by simp at hi)
     rcases e2 with ⟨rfl,_⟩ | ⟨i,hi,_⟩
     ·exact e1
     ·simp at hi
    simp only [Instr.lookup,Sem.run_bind,run_underlying h1,Result.andThen_ok,Sem.run_pure]
    simp only [Array.isEmpty_empty,hc,Result.andThen_ok,hfk]
    simp only [Sem.run_bind,h3,Result.andThen_ok,Sem.run_pure]
   split at h
   ·refine wp_val hs hn ⟨_,.tuple #[zv,.bool false],by rw [e,hX,g2]; simp only [Sem.run_bind,hrun,Result.andThen_ok]; rfl,h,?_⟩
    exact .imm (.tup [z,.bool false] [zv,.bool false] rfl (fun j g g'=>by
     match j with
     | 0=>exact h4
     | 1=>exact .bool false
     | j + 2=>exact absurd g (by simp)))
   ·exact wp_val hs hn ⟨_,zv,by rw [e,hX,g2]; simp only [Sem.run_bind,hrun,Result.andThen_ok]; rfl,h,.imm h4⟩
  ·exact h.elim

/-- A block of ours that is an object is written. -/
theorem Sim.setObj (hs:Sim c s m a w ids) (b:Nat) (p:Id) (hid:ids[b]? = some (.lv p)) (x:Blk) (ob:Obj)
  (hx:∀ w',w'.heap[p.blk]? = some ob → (∀ a v,RelI (imOf c ids w) w a v → RelI (imOf c ids w') w' a v) → BRel ids (imOf c ids w') w' x (.lv p)) :
  Sim c s (m.set b x) a { w with heap:=w.heap.setIfInBounds p.blk ob } ids:=by
 have hmem:IdE.lv p ∈ ids:=List.mem_of_getElem? hid
 have hfr:=hs.fresh p hmem
 have hsz:({ w with heap:=w.heap.setIfInBounds p.blk ob }:World).heap.size = w.heap.size:=by simp
 have hoth:∀ k,k ≠ p.blk → ({ w with heap:=w.heap.setIfInBounds p.blk ob }:World).heap[k]? = w.heap[k]?:=by
  intro k hk; simp [Array.getElem?_setIfInBounds_ne (fun e=>hk e.symm)]
 have hown:∀ p',IdE.lv p' ∈ ids → ∀ x,p'.has x → x < ({ w with heap:=w.heap.setIfInBounds p.blk ob }:World).heap.size ∧ (w.heap.size ≤ x ∨ ∃ (b:Nat) (p:Id),ids[b]? = some (.lv p) ∧ p.has x):=by
  intro p' hp' y hy
  obtain ⟨k,hk⟩:=List.getElem?_of_mem hp'
  exact ⟨by rw [hsz]; exact (hs.freshX p' hp' y hy).2,.inr ⟨k,p',hk,hy⟩⟩
 have hbl:∀ k,k < w.heap.size → (∀ (b:Nat) (p:Id),ids[b]? = some (.lv p) → ¬ p.has k) → ({ w with heap:=w.heap.setIfInBounds p.blk ob }:World).heap[k]? = w.heap[k]? :=
  fun k _ hk=>hoth k (fun e=>hk b p hid (.inl e))
 obtain ⟨hi1,hi2⟩:=hs.im_stays (w':={ w with heap:=w.heap.setIfInBounds p.blk ob }) (ids':=ids) (by rw [hsz]; exact Nat.le_refl _) hbl hown
 refine hs.goOn rfl rfl rfl (by rw [hsz]; exact Nat.le_refl _) hbl hown (fun _ h=>h) hs.distinctX rfl (by simp [hs.mlen]) (fun i h h'=>(hs.slots i h h').mono hi1 hi2 (fun _ _ h _=>h)) ?_
 intro k hk hk'
 simp only [List.length_set] at hk
 rw [List.getElem_set]
 split
 ·rename_i he
  subst he
  have e:ids[b] = .lv p:=by rw [List.getElem?_eq_getElem hk'] at hid; exact Option.some.inj hid
  rw [e]
  refine hx _ ?_ (fun a v h=>h.mono hi1 hi2)
  simp [hfr.2]
 ·rename_i he
  refine (hs.blks k hk hk').mono hi1 hi2 (fun _ _ h _=>h) ?_
  intro q hq y hy
  refine hoth y (fun e=>he ?_)
  exact hs.distinctX b k p q y hid (by rw [List.getElem?_eq_getElem hk',hq]) (.inl e) hy

theorem sameBits_keys:∀ (sh:List KS) (k:List KC),kOk sh k → ∀ n,((kVs sh k).zip (kVs sh k)).all (fun (x,y)=>Instr.sameBits n x y) = true
 | [],[],_,n=>rfl
 | s :: ss,x :: k,h,n=>by
  cases s <;> cases x <;> first|exact h.elim|skip
  all_goals
   simp only [kVs,List.zip_cons_cons,List.all_cons,Bool.and_eq_true]
   refine ⟨by simp [kV1,Instr.sameBits,beq_toListBytes],sameBits_keys ss k h n⟩
 | [],_ :: _,h,_=>h.elim
 | s :: _,[],h,_=>by cases s <;> exact h.elim
theorem sameBits_kV {agg:Bool} {sh:List KS} {k:List KC} (hk:kOk sh k) (h1:agg = false → sh.length = 1):Instr.sameBits 10000 (kV agg sh k) (kV agg sh k) = true:=by
 cases agg with
 | true =>
  have:=sameBits_keys sh k hk 9999
  simp only [kV,Instr.sameBits]
  simpa using this
 | false =>
  match sh,k,hk,h1 rfl with
  | [s],k,hk,_ =>
   obtain ⟨x,rfl,hk⟩:=kOk_one hk
   cases s <;> cases x <;> first|exact hk.elim|simp [kV,kVs,kV1,Instr.sameBits,beq_toListBytes]
theorem KeyT.len1 {kt:TypeId} {agg:Bool} {sh:List KS} (h:KeyT P kt agg sh) (ha:agg = false):sh.length = 1:=by
 obtain ⟨d,ns,h1,h2,h3,h4⟩:=h.ex
 subst ha
 unfold eqShape at h3
 rw [h1] at h3
 cases d <;> simp [isRowD] at h2 <;> simp only at h3 <;> first|(cases h3;done)|skip
 all_goals
  cases h3
  match sh,h4 with
  | [s],_=>rfl
  | [],h4=>simp [shOk] at h4
  | s :: s' :: ss,h4=>cases s <;> simp [shOk] at h4

theorem upd_run {t kt et:TypeId} {agg:Bool} {sh:List KS} (ht:P.underlying t = some (.map kt et)) (hkt:KeyT P kt agg sh) {k:List KC} (hk:kOk sh k)
  {r:Nat} {es:Array MapEntry} {clock:Nat} (hh:w.heap[r]? = some (.map es clock)) {f:Nat → List KC} (hf:∀ i (h:i < es.size),kOk sh (f i) ∧ es[i].key = kV agg sh (f i)) (v:Value) :
  (∃ i,∃ (_:i < es.size),f i = k ∧ (Instr.mapUpdate t (.map (some r)) (kV agg sh k) v).run P w = .ok () { w with heap:=w.heap.setIfInBounds r (.map (es.modify i fun e=>{ e with key:=kV agg sh k,val:=v }) clock) }) ∨
  ((∀ i,i < es.size → f i ≠ k) ∧ (Instr.mapUpdate t (.map (some r)) (kV agg sh k) v).run P w = .ok () { w with heap:=w.heap.setIfInBounds r (.map (es.push { key:=kV agg sh k,val:=v,born:=clock }) (clock + 1)) }):=by
 obtain ⟨res,e1,e2⟩:=find_run (w:=w) hkt hk es f hf
 have hc:=hkt.chk (w:=w) hk false
 rcases e2 with ⟨rfl,e2⟩ | ⟨i,hi,e2,rfl⟩
 ·refine .inr ⟨e2,?_⟩
  simp only [Instr.mapUpdate,Sem.run_bind,run_underlying ht,Result.andThen_ok,MapKept.run_getObj_map hh,hc,e1]
  exact MapKept.run_setObj_map _ hh
 ·refine .inl ⟨i,hi,e2,?_⟩
  have hst:(Instr.keyThatStays (((es[i]?).map (·.key)).getD (kV agg sh k)) (kV agg sh k)).run P w = .ok (kV agg sh k) w:=by
   have:((es[i]?).map (·.key)).getD (kV agg sh k) = kV agg sh k:=by
    rw [Array.getElem?_eq_getElem hi]
    show es[i].key = _
    rw [(hf i hi).2,e2]
   rw [this]
   unfold Instr.keyThatStays
   rw [if_pos (sameBits_kV hk hkt.len1)]
   rfl
  simp only [Instr.mapUpdate,Sem.run_bind,run_underlying ht,Result.andThen_ok,MapKept.run_getObj_map hh,hc,e1,hst]
  exact MapKept.run_setObj_map _ hh

theorem sUpd_sound (htt:TTok P tt) (hs:Sim c s m a w ids) {t:TypeId} {X Y Z:Operand} (ho:o.op = .mapUpdate t X Y Z ∨ o.op = .insert t X Y Z) {K:KT} (h:sUpd tt t (ev s X) (ev s Y) (ev s Z) m K) (hn:NextOk c s o K next):o.wp P a w next Q:=by
 have e:execOp a.eval o = (do Instr.mapUpdate t (a.eval X) (a.eval Y) (a.eval Z); pure .skip):=by
  obtain ⟨dst,op,ty,pos,after,guard⟩:=o
  simp only at ho; rcases ho with ho | ho <;> subst ho <;> rfl
 unfold sUpd at h
 obtain ⟨kt,et,agg,sh,z,zv,h1,h2,_,_,h⟩:=mapTy_inv htt h (imOf c ids w) w
 split at h
 ·rename_i k b hk hx' hown
  have hx:=hs.ev X; rw [hx'] at hx
  obtain ⟨g1,g2⟩:=keyA_rel hk (hs.ev Y)
  have hv:=hasOwn_rel 4 _ _ hown (hs.ev Z)
  split at h
  ·rename_i agg' sh' has val hmb
   split at h
   ·rename_i hb1 hb2
    have hb1:=boolEq_iff hb1
    have hb2:=ksEq_iff hb2
    subst hb1; subst hb2
    rw [fd_eq,setB_eq] at h
    obtain ⟨p,h5,h6⟩:=hs.omap_at hx (by rw [hmb]; simp)
    obtain ⟨x,hxm,hbr⟩:=hs.blk_at h5
    rw [getD_of_get hxm] at hmb; subst hmb
    obtain ⟨es,clock,f,q1,q2,q3,q4,q5,q6,q7⟩:=hbr
    rcases upd_run h1 h2 g1 q1 (fun i hi=>⟨(q2 i hi).1,(q2 i hi).2.1⟩) (a.eval Z) with ⟨i,hi,e1,e2⟩ | ⟨e1,e2⟩
    ·refine wp_of_skip (by rw [e,h6,g2]; simp only [Sem.run_bind,e2,Result.andThen_ok]; rfl) (hn _ _ _ _ ids h (Sim.junk_put (hs.setObj b p h5 _ _ ?_) _ _))
     intro w' hw' hm'
     refine ⟨_,clock,f,hw',?_,?_,?_,?_,?_,?_⟩
     ·intro j hj
      have hj':j < es.size:=by simpa using hj
      rw [Array.getElem_modify]
      split
      ·rename_i hij; subst hij
       exact ⟨(q2 i hj').1,by rw [e1],by simp [putH,e1]⟩
      ·exact ⟨(q2 j hj').1,(q2 j hj').2.1,by
        unfold putH; split
        ·rfl
        ·exact (q2 j hj').2.2⟩
     ·intro i j g3 g4; exact q3 i j (by simpa using g3) (by simpa using g4)
     ·intro k' g3 g4
      unfold putH at g4
      split at g4
      ·rename_i he; subst he; exact ⟨i,by simpa using hi,e1⟩
      ·obtain ⟨j,hj,hj'⟩:=q4 k' g3 g4; exact ⟨j,by simpa using hj,hj'⟩
     ·intro j hj
      have hj':j < es.size:=by simpa using hj
      rw [Array.getElem_modify]
      split
      ·rename_i hij; subst hij
       unfold putV; rw [if_pos e1]; exact hm' _ _ hv
      ·rename_i hij
       unfold putV; rw [if_neg (fun he=>hij (q3 i j hi hj' (by rw [e1,he])))]
       exact hm' _ _ (q5 j hj')
     ·intro j hj
      have hj':j < es.size:=by simpa using hj
      rw [Array.getElem_modify]
      split
      ·exact q6 j hj'
      ·exact q6 j hj'
     ·intro j j' hj hj' he
      have h1:j < es.size:=by simpa using hj
      have h2:j' < es.size:=by simpa using hj'
      refine q7 j j' h1 h2 ?_
      rw [Array.getElem_modify,Array.getElem_modify] at he
      split at he <;> split at he <;> exact he
    ·refine wp_of_skip (by rw [e,h6,g2]; simp only [Sem.run_bind,e2,Result.andThen_ok]; rfl) (hn _ _ _ _ ids h (Sim.junk_put (hs.setObj b p h5 _ _ ?_) _ _))
     intro w' hw' hm'
     obtain ⟨F,F1,F2⟩ : ∃ F:Nat → List KC,F es.size = k ∧ ∀ j,j < es.size → F j = f j:=⟨fun j=>if j = es.size then k else f j,by simp,fun j h=>by simp [Nat.ne_of_lt h]⟩
     refine ⟨_,clock + 1,F,hw',?_,?_,?_,?_,?_,?_⟩
     ·intro j hj
      have hj':j < es.size + 1:=by simpa using hj
      rw [Array.getElem_push]
      split
      ·rename_i hlt
       rw [F2 j hlt]
       exact ⟨(q2 j hlt).1,(q2 j hlt).2.1,by
        unfold putH; split
        ·rfl
        ·exact (q2 j hlt).2.2⟩
      ·rename_i hlt
       have:j = es.size:=by omega
       rw [this,F1]
       exact ⟨g1,rfl,by simp [putH]⟩
     ·intro i j g3 g4 g5
      have g3:i < es.size + 1:=by simpa using g3
      have g4:j < es.size + 1:=by simpa using g4
      by_cases hi:i < es.size <;> by_cases hj:j < es.size
      ·rw [F2 i hi,F2 j hj] at g5; exact q3 i j hi hj g5
      ·have:j = es.size:=by omega
       rw [this,F1,F2 i hi] at g5; exact absurd g5 (e1 i hi)
      ·have:i = es.size:=by omega
       rw [this,F1,F2 j hj] at g5; exact absurd g5.symm (e1 j hj)
      ·omega
     ·intro k' g3 g4
      unfold putH at g4
      split at g4
      ·rename_i he; subst he; exact ⟨es.size,by simp,F1⟩
      ·obtain ⟨j,hj,hj'⟩:=q4 k' g3 g4
       exact ⟨j,by simp; omega,by rw [F2 j hj]; exact hj'⟩
     ·intro j hj
      have hj':j < es.size + 1:=by simpa using hj
      rw [Array.getElem_push]
      split
      ·rename_i hlt
       rw [F2 j hlt]
       unfold putV; rw [if_neg (e1 j hlt)]
       exact hm' _ _ (q5 j hlt)
      ·rename_i hlt
       have:j = es.size:=by omega
       rw [this,F1]
       unfold putV; rw [if_pos rfl]; exact hm' _ _ hv
     ·intro j hj
      rw [Array.getElem_push]
      split
      ·rename_i hlt; exact Nat.lt_succ_of_lt (q6 j hlt)
      ·exact Nat.lt_succ_self _
     ·intro j j' hj hj' he
      have h1:j < es.size + 1:=by simpa using hj
      have h2:j' < es.size + 1:=by simpa using hj'
      rw [Array.getElem_push,Array.getElem_push] at he
      split at he <;> split at he
      ·rename_i a b; exact q7 j j' a b he
      ·rename_i a b; have:=q6 j a; simp only at he; omega
      ·rename_i a b; have:=q6 j' b; simp only at he; omega
      ·omega
   ·exact h.elim
  ·exact h.elim
 ·exact h.elim

theorem sMkMap_sound (htt:TTok P tt) (hs:Sim c s m a w ids) {t:TypeId} (ho:o.op = .makeMap t none) {K:KT} (h:sMkMap tt t m K) (hn:NextOk c s o K next):o.wp P a w next Q:=by
 have e:execOp a.eval o = (do pure (.value (← Instr.makeMap t none))):=by
  obtain ⟨dst,op,ty,pos,after,guard⟩:=o
  simp only at ho; subst ho; rfl
 unfold sMkMap at h
 obtain ⟨kt,et,agg,sh,z,zv,h1,h2,_,_,h⟩:=mapTy_inv htt h (imOf c ids w) w
 rw [pushB_eq] at h
 have hb:=below_alloc w (.map #[] 0)
 have hnew:(w.alloc (.map #[] 0)).heap[w.heap.size]? = some (.map #[] 0):=by
  show (w.heap.push _)[w.heap.size]? = _
  simp
 have hs':=hs.grow hb [.mapb agg sh (fun _=>false) (fun _=>.junk)] [.lv (mkId w.heap.size 0 0 0)] rfl (fun i g1 g2=>by
   have:i = 0:=by simp at g1; omega
   subst this
   exact ⟨#[],0,fun _=>[],hnew,(fun i h=>by simp at h),(fun i j h=>by simp at h),(fun k _ h=>by simp at h),(fun i h=>by simp at h),(fun i h=>by simp at h),(fun i j h=>by simp at h)⟩)
  (fun p hp x hx=>by
   simp at hp; subst hp
   rw [mkId_has hx]
   refine ⟨Nat.le_refl _,?_⟩
   show _ < (w.heap.push _).size
   simp) (fun vs h=>by simp at h) (fun i j p q x g1 g2 _ _=>by
   cases i with
   | zero=>cases j with
    | zero=>rfl
    | succ j=>simp at g2
   | succ i=>simp at g1)
 refine wp_of_run (v:=.map (some w.heap.size)) (w':=w.alloc (.map #[] 0)) (by rw [e]; simp only [Sem.run_bind,RowKit.run_makeMap,Result.andThen_ok]; rfl) (hn _ _ _ _ _ h (hs'.putD o.dst (.omap m.length (mkId w.heap.size 0 0 0) ?_)))
 rw [← hs.mlen]; simp
end
end Go.Proofs.YtmeohhbdkoeadaaGreat.Am
namespace Go.Proofs.YtmeohhbdkoeadaaGreat.Am
variable [Inhabited DRT]
open Go.RowKit (Below)

/-! ### A row of ours becomes the one inner row of a new nest; a nest behind a nest -/
def catN {α : Type} (n:Nat) (f g:Nat → α):Nat → α:=fun i=>match Nat.blt i n with
 | true=>f i
 | false=>g (i - n)
theorem catN_lt {α : Type} {n i:Nat} (f g:Nat → α) (h:i < n):catN n f g i = f i:=by
 unfold catN; rw [show Nat.blt i n = true from Nat.ble_eq_true_of_le h]
theorem catN_ge {α : Type} {n i:Nat} (f g:Nat → α) (h:n ≤ i):catN n f g i = g (i - n):=by
 unfold catN
 split
 ·rename_i h'
  have:i < n:=Nat.le_of_ble_eq_true h'
  omega
 ·rfl
def sBuildN (tt:TT) (t:TypeId) (b':Nat) (s:List A) (m:List Blk) (K:List A → A → List Blk → Prop):Prop :=
 match tt.lookup t,m.getD b' .dead with
 | some ti,.row ety sz n' row'=>match ti.kind,Nat.beq ti.esz 1 with
  | 3,true=>fnat ti.ety fun ty=>setB m b' .gone fun m1=>pushB m1 (.nest ty ety sz 1 none (fun _=>n') (fun _=>row')) fun b m'=>K s (.own b) m'
  | _,_=>False
 | _,_=>False
def sAppN (tt:TT) (t:TypeId) (b b2:Nat) (ty ety sz n:Nat) (len:Nat → Nat) (row:Nat → Nat → List A) (ty2 ety2 sz2 n2:Nat) (len2:Nat → Nat) (row2:Nat → Nat → List A) (s:List A) (m:List Blk) (K:List A → A → List Blk → Prop):Prop :=
 match tt.lookup t with
 | none=>False
 | some ti=>match ti.kind,Nat.beq ti.esz 1,Nat.beq ty ti.ety,Nat.beq ty2 ty,Nat.beq ety2 ety,Nat.beq sz2 sz,Nat.beq b b2,n2 with
  | 3,true,true,true,true,true,false,k + 1=>fnat ti.ebytes fun eb=>(n + (k + 1) ≤ 140737488355328 ∧ (n + (k + 1)) * eb ≤ 140737488355328) ∧
   fd.fdl 4 (s.map (scr b 4)) fun s'=>fbs (((m.map (scrB b 4)).set b (.nest ty ety sz (n + (k + 1)) none (catN n len len2) (catN n row row2))).set b2 .gone) fun m'=>K s' (.own b) m'
  | _,_,_,_,_,_,_,_=>False

def sLenN (tt:TT) (t:TypeId) (n:Nat) (s:List A) (m:List Blk) (K:List A → A → List Blk → Prop):Prop :=
 match tt.lookup t with
 | none=>False
 | some ti=>match ti.kind with
  | 3=>K s (.int .i64 n) m
  | _=>False
section
variable {c:Ctx} {s:List A} {m:List Blk} {a:Act} {w w':World} {ids ids':Ids} {P:Program} {im im':Nat → Prop} {tt:TT} {G:GInv}
variable {next:Act → World → Prop} {Q:Exit → Act → World → Prop} {o:Oper}

theorem sBuildN_sound (htt:TTok P tt) (hs:Sim c s m a w ids) {t:TypeId} {X:Operand} {b':Nat} (ho:o.op = .buildSlice t 1 #[(0,X)]) (hX:ev s X = .own b')
  {K:List A → A → List Blk → Prop} (h:sBuildN tt t b' s m K)
  (hn:∀ s1 v m' a' w' ids',K s1 v m' → Sim c (putD s1 o.dst v) m' a' w' ids' → next a' w'):o.wp P a w next Q:=by
 have hx:=hs.ev X
 rw [hX] at hx
 unfold sBuildN at h
 split at h
 ·rename_i ti ety sz n' row' hti hb'
  split at h
  ·rename_i hk he
   have hesz:ti.esz = 1:=Nat.eq_of_beq_eq_true he
   rw [fnat_eq,setB_eq,pushB_eq] at h
   obtain ⟨i0,d,z0,_,hd,_,_,_,_,_,_,_,_,_,hk3,_⟩:=htt.facts hti
   obtain ⟨ie,ze,hd',hie,hsz,hby,hz,hzs,hne⟩:=hk3 hk
   subst hd'
   obtain ⟨hbm',hm'⟩:=getD_some (by simp) hb'
   have hbi':b' < ids.length:=by rw [hs.mlen]; exact hbm'
   obtain ⟨o1,o2⟩:=one_rel (by rfl) hx
   have hrun:(Instr.buildSlice t 1 #[(0,a.eval X)]).run P w = .ok (.slice (some ⟨w.heap.size,0,none⟩) 1 1) (w.alloc (.cells #[a.eval X] ti.ety)):=by
    simp [Instr.buildSlice,underlying,hd,sizeOf,typeInfo,hie,hsz,hesz,zeroValue,hz,Instr.fill,newRow,o2,show Array.range 1 = #[0] from rfl]
   obtain ⟨v,hv⟩ : ∃ v,a.eval X = v:=⟨_,rfl⟩
   rw [hv] at hrun hx
   obtain ⟨w',hw'⟩ : ∃ w',w.alloc (.cells #[v] ti.ety) = w':=⟨_,rfl⟩
   rw [hw'] at hrun
   have hsz':w'.heap.size = w.heap.size + 1:=by rw [← hw']; simp
   have hnew:w'.heap[w.heap.size]? = some (.cells #[v] ti.ety (0,0)):=by rw [← hw']; exact heap_alloc_new w _
   have hold:∀ k,k < w.heap.size → w'.heap[k]? = w.heap[k]?:=fun k hk=>by rw [← hw']; exact Below.heap_alloc w _ k hk
   -- the inner block's name
   have hxx:∃ x:Option Nat,(∀ y,x = some y → ∃ q,ids[b']? = some (.lv q) ∧ q.blk = y) ∧
     (∀ im w',(∀ y,x = some y → w'.heap[y]? = w.heap[y]?) → (∀ u v,RelI (imOf c ids w) w u v → RelI im w' u v) → Inner im w' ety sz n' row' v x):=by
    rcases own_len hs hx hb' with ⟨e1,e2,e3⟩ | ⟨q,cap,e1,e2,e3,e4,e5,e6⟩
    ·exact ⟨none,(fun y h=>by cases h),fun _ _ _ _=>.inl ⟨e2,e1,rfl⟩⟩
    ·have hB':=hs.blks b' hbm' hbi'
     rw [List.getElem?_eq_getElem hbi'] at e1
     rw [hm',Option.some.inj e1] at hB'
     obtain ⟨q1,q2,us,q3,q4,q5,q6,q7⟩:=hB'
     refine ⟨some q.blk,(fun y h=>by cases h; exact ⟨q,by rw [List.getElem?_eq_getElem hbi']; exact e1,rfl⟩),fun im w' hk hm=>.inr ⟨q.blk,cap,us,e6,rfl,by rw [hk _ rfl]; exact q3,by rw [q4,e3],e2.1,e2.2,q6,fun i' j hi' h h'=>⟨hm _ _ (q7 i' j hi' h h').1,(q7 i' j hi' h h').2⟩⟩⟩
   obtain ⟨x,hx1,hx2⟩:=hxx
   have hxlt:∀ y,x = some y → y < w.heap.size:=fun y hy=>by
    obtain ⟨q,q1,q2⟩:=hx1 y hy
    exact (hs.freshX q (List.mem_of_getElem? q1) y (.inl q2.symm)).2
   let p':Id:=⟨w.heap.size,1,1,1,fun y=>x = some y,fun _=>none⟩
   let ids':=ids.set b' .stale ++ [.lv p']
   have hl':ids'.length = ids.length + 1:=by simp [ids']
   have get_old:∀ k,k < ids.length → k ≠ b' → ids'[k]? = ids[k]?:=by
    intro k hk hne
    simp only [ids']
    rw [List.getElem?_append_left (by simpa using hk),List.getElem?_set_ne (fun e=>hne e.symm)]
   have get_b':ids'[b']? = some .stale:=by
    simp only [ids']
    rw [List.getElem?_append_left (by simpa using hbi'),List.getElem?_set_self hbi']
   have get_q:ids'[ids.length]? = some (.lv p'):=by
    simp only [ids']
    rw [List.getElem?_append_right (by simp)]; simp
   have cases_id:∀ (k:Nat) (r:Id),ids'[k]? = some (.lv r) → (k = ids.length ∧ r = p') ∨ (k ≠ b' ∧ k < ids.length ∧ ids[k]? = some (.lv r)):=by
    intro k r h
    by_cases hkb:k = b'
    ·subst hkb; rw [get_b'] at h; cases h
    ·rcases Nat.lt_trichotomy k ids.length with hk | hk | hk
     ·rw [get_old k hk hkb] at h; exact .inr ⟨hkb,hk,h⟩
     ·subst hk; rw [get_q] at h; cases h; exact .inl ⟨rfl,rfl⟩
     ·rw [List.getElem?_eq_none (by omega)] at h; cases h
   have hown:∀ r,IdE.lv r ∈ ids' → ∀ y,r.has y → y < w'.heap.size ∧ (w.heap.size ≤ y ∨ ∃ (b:Nat) (p:Id),ids[b]? = some (.lv p) ∧ p.has y):=by
    intro r hr y hy
    rw [hsz']
    obtain ⟨k,hk⟩:=List.getElem?_of_mem hr
    rcases cases_id k r hk with ⟨_,rfl⟩ | ⟨_,_,e⟩
    ·rcases hy with h | h
     ·have h:y = w.heap.size:=h
      exact ⟨by omega,.inl (by omega)⟩
     ·obtain ⟨q,q1,q2⟩:=hx1 y h
      have hq:q.has y:=.inl q2.symm
      have:=hxlt y h
      exact ⟨by omega,.inr ⟨b',q,q1,hq⟩⟩
    ·have:=(hs.freshX r (List.mem_of_getElem? e) y hy).2
     exact ⟨by omega,.inr ⟨k,r,e,hy⟩⟩
   obtain ⟨hi1,hi2⟩:=hs.im_stays (w':=w') (ids':=ids') (by omega) (fun k hk _=>hold k hk) hown
   have hd:∀ (k:Nat) r,k ≠ b' → ids[k]? = some r → r ≠ .dead → ∃ q,ids'[k]? = some q ∧ likeE r q:=by
    intro k r hk hr _
    have hlt:k < ids.length:=by
     rcases Nat.lt_or_ge k ids.length with h' | h'
     ·exact h'
     ·rw [List.getElem?_eq_none h'] at hr; cases hr
    exact ⟨r,by rw [get_old k hlt hk]; exact hr,likeE_rfl r⟩
   have hmono:∀ u v,RelI (imOf c ids w) w u v → RelI (imOf c ids' w') w' u v:=fun u v h=>h.mono hi1 hi2
   have hS:Sim c s (m.set b' .gone ++ [.nest ti.ety ety sz 1 none (fun _=>n') (fun _=>row')]) a w' ids':=by
    refine hs.goOn (by rw [← hw']; rfl) (by rw [← hw']; rfl) (by rw [← hw']; rfl) (by omega) (fun k hk _=>hold k hk) hown (fun vs h=>by
     simp only [ids'] at h
     rcases List.mem_append.1 h with h | h
     ·rcases List.mem_or_eq_of_mem_set h with h | h
      ·exact h
      ·cases h
     ·simp at h) ?_ rfl (by simp [ids',hs.mlen]) (fun k h h'=>(hs.slots k h h').restale hi1 hi2 hd get_b') ?_ (.of (by rw [← hw']; exact Nat.le_refl _))
    ·intro k k' r r' y e1 e2 x1 x2
     rcases cases_id k r e1 with ⟨rfl,rfl⟩ | ⟨ne,hlt,e⟩ <;> rcases cases_id k' r' e2 with ⟨rfl,rfl⟩ | ⟨ne',hlt',e'⟩
     ·rfl
     ·exfalso
      have hy:=(hs.freshX r' (List.mem_of_getElem? e') y x2).2
      rcases x1 with h | h
      ·have h:y = w.heap.size:=h
       omega
      ·obtain ⟨q,q1,q2⟩:=hx1 y h
       exact ne' (hs.distinctX _ _ r' q y e' q1 x2 (.inl q2.symm))
     ·exfalso
      have hy:=(hs.freshX r (List.mem_of_getElem? e) y x1).2
      rcases x2 with h | h
      ·have h:y = w.heap.size:=h
       omega
      ·obtain ⟨q,q1,q2⟩:=hx1 y h
       exact ne (hs.distinctX _ _ r q y e q1 x1 (.inl q2.symm))
     ·exact hs.distinctX k k' r r' y e e' x1 x2
    ·intro k hk hk'
     have hat:ids'[k]? = some ids'[k]:=List.getElem?_eq_getElem hk'
     simp only [List.length_append,List.length_set,List.length_singleton] at hk
     rcases Nat.lt_or_ge k m.length with hkm | hkm
     ·rw [List.getElem_append_left (by simpa using hkm),List.getElem_set]
      split
      ·rename_i he; subst he
       rw [get_b'] at hat
       rw [← Option.some.inj hat]; exact rfl
      ·rename_i he
       have hki:k < ids.length:=by rw [hs.mlen]; exact hkm
       rw [get_old k hki (fun e=>he e.symm),List.getElem?_eq_getElem hki] at hat
       rw [← Option.some.inj hat]
       refine (hs.blks k hkm hki).restale hi1 hi2 hd get_b' (fun q hq y hy=>hold y ?_)
       exact (hs.freshX q (by rw [← hq]; exact List.getElem_mem _) y hy).2
     ·have hkk:k = ids.length:=by rw [hs.mlen]; omega
      have e2:ids'[k]? = some (.lv p'):=by rw [show k = ids.length from hkk]; exact get_q
      have hat:IdE.lv p' = ids'[k]:=Option.some.inj (e2.symm.trans hat)
      rw [← hat,List.getElem_append_right (by simpa using hkm)]
      simp only [List.length_set,show k - m.length = 0 by omega,List.getElem_cons_zero]
      refine ⟨rfl,rfl,?_,#[v],hnew,rfl,Nat.le_refl _,fun _=>x,?_⟩
      ·intro h
       have h:x = some w.heap.size:=h
       have:=hxlt _ h
       omega
      ·intro i hi _ hv'
       have hi0:i = 0:=by omega
       subst hi0
       refine ⟨hx2 _ _ (fun y hy=>hold y (hxlt y hy)) hmono,fun y hy=>hy,fun j hj _ _ _=>by omega⟩
   refine wp_of_run (v:=.slice (some ⟨w.heap.size,0,none⟩) 1 1) (w':=w') ?_ (hn s _ _ _ _ ids' h (hS.putD o.dst ?_))
   ·unfold execOp; rw [ho]; simp [hv,hrun]
   ·have hid:ids'[(m.set b' .gone).length]? = some (.lv p'):=by rw [List.length_set,← hs.mlen]; exact get_q
    exact .own _ 1 p' hid ⟨Nat.le_refl _,by simp [maxLen]⟩ rfl
  ·exact h.elim
 ·exact h.elim

theorem Inner.one {ety:TypeId} {sz n:Nat} {row:Nat → List A} {v:Value} {x:Option Nat} (h:Inner im w ety sz n row v x):v.oneCell' = true:=by
 rcases h with ⟨rfl,_⟩ | ⟨q,cap,vs,rfl,_⟩ <;> rfl
/-- What a nest's block holds. -/
theorem nest_vals (hs:Sim c s m a w ids) {b:Nat} {v:Value} (hx:Rel ids (imOf c ids w) w (.own b) v) {ty ety:TypeId} {sz n:Nat} {len:Nat → Nat} {row:Nat → Nat → List A} (hb:m.getD b .dead = .nest ty ety sz n none len row) :
  ∃ (xs:List Value) (kx:Nat → Option Nat),xs.length = n ∧ (∀ i (hi:i < xs.length),Inner (imOf c ids w) w ety sz (len i) (row i) xs[i] (kx i)) ∧
   (∀ i,i < n → ∀ y,kx i = some y → ∃ p,ids[b]? = some (.lv p) ∧ p.kid y) ∧ (∀ p,ids[b]? = some (.lv p) → ¬ p.kid p.blk) ∧ (∀ i j,i < n → j < n → kx j = kx i → kx i ≠ none → j = i) ∧
   ((v = .slice none 0 0 ∧ n = 0 ∧ xs = []) ∨ ∃ p cap cur,ids[b]? = some (.lv p) ∧ v = .slice (some ⟨p.blk,0,none⟩) n cap ∧ w.heap[p.blk]? = some (.cells cur ty (0,0)) ∧ n ≤ cap ∧ cap ≤ maxLen ∧ cur.size = cap ∧ cur.toList.take n = xs):=by
 obtain ⟨hbm,hm⟩:=getD_some (by simp) hb
 have hbi:b < ids.length:=by rw [hs.mlen]; exact hbm
 have hB:=hs.blks b hbm hbi
 rw [hm] at hB
 rcases hs.own_at hx (by rw [hb]; simp) with ⟨h1,h2⟩ | ⟨p,cap,h1,h2,h3,h4⟩
 ·have:ids[b] = .virt:=by rw [List.getElem?_eq_getElem hbi] at h1; exact Option.some.inj h1
  rw [this] at hB
  have hB:n = 0:=hB
  subst hB
  exact ⟨[],fun _=>none,rfl,fun i hi=>by simp at hi,fun i hi=>by omega,(fun p hp=>by rw [h1] at hp; cases hp),fun i j hi=>by omega,.inl ⟨h2,rfl,rfl⟩⟩
 ·have:ids[b] = .lv p:=by rw [List.getElem?_eq_getElem hbi] at h1; exact Option.some.inj h1
  rw [this] at hB
  obtain ⟨g1,g2,g3,vs,e1,e2,e3,kb,e4⟩:=hB
  have hl:(vs.toList.take n).length = n:=by rw [List.length_take,Array.length_toList]; omega
  refine ⟨vs.toList.take n,kb,hl,fun i hi=>?_,fun i hi y hy=>⟨p,h1,(e4 i hi (by simp) (by omega)).2.1 y hy⟩,(fun p' hp=>by rw [h1] at hp; cases hp; exact g3),
   fun i j hi hj h1 h2=>(e4 i hi (by simp) (by omega)).2.2 j hj (by simp) h1 h2,.inr ⟨p,cap,vs,h1,by rw [h4,g2],e1,by omega,h2.2,by rw [e2,← h3,g1]; omega,rfl⟩⟩
  have hi':i < n:=by omega
  have:=(e4 i hi' (by simp) (by omega)).1
  simpa using this

theorem sAppN_sound (htt:TTok P tt) (hs:Sim c s m a w ids) {t:TypeId} {X Y:Operand} {b b2:Nat} (ho:o.op = .call { callee:=.builtin .append,args:=#[X,Y],argTypes:=#[t,t] }) (hX:ev s X = .own b) (hY:ev s Y = .own b2)
  {ty ety:TypeId} {sz n:Nat} {len:Nat → Nat} {row:Nat → Nat → List A} {ty2 ety2:TypeId} {sz2 n2:Nat} {len2:Nat → Nat} {row2:Nat → Nat → List A}
  (hb:m.getD b .dead = .nest ty ety sz n none len row) (hb2:m.getD b2 .dead = .nest ty2 ety2 sz2 n2 none len2 row2)
  {K:List A → A → List Blk → Prop} (h:sAppN tt t b b2 ty ety sz n len row ty2 ety2 sz2 n2 len2 row2 s m K)
  (hn:∀ s1 v m' a' w' ids',K s1 v m' → Sim c (putD s1 o.dst v) m' a' w' ids' → next a' w'):o.wp P a w next Q:=by
 have hx:=hs.ev X
 have hy:=hs.ev Y
 rw [hX] at hx
 rw [hY] at hy
 have e:(execOp a.eval o) = (do pure (.value (← Builtin.append_ #[t,t] o.type #[a.eval X,a.eval Y]))):=by
  obtain ⟨dst,op,ty,pos,after,guard⟩:=o
  simp only at ho; subst ho
  simp [execOp,resolve,invoke,builtin]
 unfold sAppN at h
 split at h
 ·exact h.elim
 ·rename_i ti hti
  split at h
  ·rename_i k hk he q1 q2 q3 q4 q5
   have hesz:ti.esz = 1:=Nat.eq_of_beq_eq_true he
   obtain rfl:=Nat.eq_of_beq_eq_true q1
   obtain rfl:=Nat.eq_of_beq_eq_true q2
   obtain rfl:=Nat.eq_of_beq_eq_true q3
   obtain rfl:=Nat.eq_of_beq_eq_true q4
   have hne:b ≠ b2:=fun e=>by subst e; rw [Nat.beq_refl] at q5; cases q5
   rw [fnat_eq] at h
   obtain ⟨⟨hc1,hc2⟩,h⟩:=h
   rw [fdl_eq,fbs_eq] at h
   obtain ⟨i0,d,z0,_,hd,_,_,_,_,_,_,_,_,_,hk3,_⟩:=htt.facts hti
   obtain ⟨ie,ze,hd',hie,hsz,hby,hz,hzs,hne0⟩:=hk3 hk
   subst hd'
   have hzs':ze.cells.size = ie.size:=by rw [hzs,hsz]
   have hsz1:ie.size = 1:=by rw [hsz,hesz]
   obtain ⟨hbm,hm⟩:=getD_some (by simp) hb
   have hbi:b < ids.length:=by rw [hs.mlen]; exact hbm
   obtain ⟨hbm2,hm2⟩:=getD_some (by simp) hb2
   have hbi2:b2 < ids.length:=by rw [hs.mlen]; exact hbm2
   obtain ⟨xs,kx,x1,x2,x3,x4,x5,x6⟩:=nest_vals hs hx hb
   obtain ⟨ys,ky,y1,y2,y3,y4,y5,y6⟩:=nest_vals hs hy hb2
   obtain ⟨q,cap2,cur2,r1,r2,r3,r4,r5,r6,r7⟩ : ∃ p cap cur,ids[b2]? = some (.lv p) ∧ a.eval Y = .slice (some ⟨p.blk,0,none⟩) (k + 1) cap ∧ w.heap[p.blk]? = some (.cells cur ti.ety (0,0)) ∧ k + 1 ≤ cap ∧ cap ≤ maxLen ∧ cur.size = cap ∧ cur.toList.take (k + 1) = ys:=by
    rcases y6 with ⟨_,h,_⟩ | h
    ·omega
    ·exact h
   have hyv:(a.eval Y = .slice none 0 0 ∧ k + 1 = 0 ∧ ys = []) ∨ ∃ ad cp,a.eval Y = .slice (some ad) (k + 1) cp ∧ ys.length = (k + 1) * ie.size ∧ (∀ j u,ys[j]? = some u → w.cell? (ad.add j) = some u):=by
    refine .inr ⟨⟨q.blk,0,none⟩,cap2,r2,by rw [hsz1,y1]; omega,fun j u hu=>?_⟩
    have hadd:(⟨q.blk,0,none⟩ : Addr).add j = ⟨q.blk,j,none⟩:=by unfold Addr.add; split <;> simp_all
    rw [hadd,cell_of_row w q.blk j cur2 ti.ety (0,0) r3]
    rw [← r7,List.getElem?_take] at hu
    split at hu
    ·simpa using hu
    ·cases hu
   have hxv:(a.eval X = .slice none 0 0 ∧ n = 0 ∧ xs = []) ∨ ∃ g cap cur,a.eval X = .slice (some ⟨g,0,none⟩) n cap ∧ w.heap[g]? = some (.cells cur ti.ety (0,0)) ∧ n ≤ cap ∧ cap ≤ maxLen ∧ cur.size = cap * ie.size ∧ cur.toList.take (n * ie.size) = xs:=by
    rcases x6 with h | ⟨p,cap,cur,e1,e2,e3,e4,e5,e6,e7⟩
    ·exact .inl h
    ·exact .inr ⟨p.blk,cap,cur,e2,e3,e4,e5,by rw [hsz1,e6]; omega,by rw [hsz1,Nat.mul_one]; exact e7⟩
   have hownb:(a.eval X).ownBlock = none ∨ ∃ p,ids[b]? = some (.lv p) ∧ (a.eval X).ownBlock = some p.blk:=by
    rcases x6 with ⟨h,_⟩ | ⟨p,cap,cur,e1,e2,_⟩
    ·exact .inl (by rw [h]; rfl)
    ·exact .inr ⟨p,e1,by rw [e2]; rfl⟩
   obtain ⟨v',w',hrun,o1,o2,o3,o4,o5,odr,o6⟩:=append_out (P:=P) (w:=w) t o.type ti.ety ie ze hd hie hz hzs' (a.eval X) n xs hxv (a.eval Y) (k + 1) ys hyv
    (fun u hu=>by obtain ⟨i,hi,rfl⟩:=List.getElem_of_mem hu; exact (y2 i hi).one) hc1 (by rw [hby]; exact hc2)
   rcases o6 with ⟨_,hz0⟩ | ⟨g,cap,cur,rfl,g1,g2,g3,g4,g5,g6,g7⟩
   ·omega
   rw [hsz1] at g4 g5
   rw [Nat.mul_one] at g4 g5
   have hblk:∀ k,k < w.heap.size → (∀ p,ids[b]? = some (.lv p) → p.blk ≠ k) → w'.heap[k]? = w.heap[k]?:=by
    intro k hk hp
    refine o5 k hk (fun e=>?_)
    rcases hownb with h | ⟨p,h1,h2⟩
    ·rw [h] at e; cases e
    ·rw [h2] at e; exact hp p h1 (Option.some.inj e)
   have hbl:∀ k,k < w.heap.size → (∀ (b:Nat) (p:Id),ids[b]? = some (.lv p) → ¬ p.has k) → w'.heap[k]? = w.heap[k]?:=fun k hk hp=>hblk k hk (fun p h1 h2=>hp b p h1 (.inl h2.symm))
   let p':Id:=⟨g,cur.size,n + (k + 1),1,fun y=>(∃ i,i < n ∧ kx i = some y) ∨ ∃ i,i < k + 1 ∧ ky i = some y,fun _=>none⟩
   let ids':=(ids.set b (.lv p')).set b2 .stale
   have get_old:∀ k,k ≠ b → k ≠ b2 → ids'[k]? = ids[k]?:=by
    intro k h1 h2
    simp only [ids']
    rw [List.getElem?_set_ne (fun e=>h2 e.symm),List.getElem?_set_ne (fun e=>h1 e.symm)]
   have get_b:ids'[b]? = some (.lv p'):=by
    simp only [ids']
    rw [List.getElem?_set_ne (fun e=>hne e.symm),List.getElem?_set_self hbi]
   have get_b2:ids'[b2]? = some .stale:=by
    simp only [ids']
    rw [List.getElem?_set_self (by simpa using hbi2)]
   have cases_id:∀ (k:Nat) (r:Id),ids'[k]? = some (.lv r) → (k = b ∧ r = p') ∨ (k ≠ b ∧ k ≠ b2 ∧ ids[k]? = some (.lv r)):=by
    intro k r h
    by_cases hkb:k = b
    ·subst hkb; rw [get_b] at h; cases h; exact .inl ⟨rfl,rfl⟩
    ·by_cases hkb':k = b2
     ·subst hkb'; rw [get_b2] at h; cases h
     ·rw [get_old k hkb hkb'] at h; exact .inr ⟨hkb,hkb',h⟩
   -- whose a block of the new nest was
   have hwas:∀ y,p'.has y → (w.heap.size ≤ y ∧ y = g) ∨ ∃ (b':Nat) (p:Id),(b' = b ∨ b' = b2) ∧ ids[b']? = some (.lv p) ∧ p.has y:=by
    rintro y (h | ⟨i,hi,h⟩ | ⟨i,hi,h⟩)
    ·have h:y = g:=h
     rcases g7 with h' | h'
     ·exact .inl ⟨by omega,h⟩
     ·rcases hownb with h1 | ⟨p,h1,h2⟩
      ·rw [h1] at h'; cases h'
      ·rw [h2] at h'
       exact .inr ⟨b,p,.inl rfl,h1,.inl (by rw [h]; exact (Option.some.inj h').symm)⟩
    ·obtain ⟨p,h1,h2⟩:=x3 i hi y h
     exact .inr ⟨b,p,.inl rfl,h1,.inr h2⟩
    ·obtain ⟨p,h1,h2⟩:=y3 i hi y h
     exact .inr ⟨b2,p,.inr rfl,h1,.inr h2⟩
   have hown:∀ r,IdE.lv r ∈ ids' → ∀ y,r.has y → y < w'.heap.size ∧ (w.heap.size ≤ y ∨ ∃ (b:Nat) (p:Id),ids[b]? = some (.lv p) ∧ p.has y):=by
    intro r hr y hy
    obtain ⟨k,hk⟩:=List.getElem?_of_mem hr
    rcases cases_id k r hk with ⟨_,rfl⟩ | ⟨_,_,e⟩
    ·rcases hwas y hy with ⟨h1,h2⟩ | ⟨b',p,_,h1,h2⟩
     ·exact ⟨by omega,.inl h1⟩
     ·exact ⟨Nat.lt_of_lt_of_le (hs.freshX p (List.mem_of_getElem? h1) y h2).2 o4,.inr ⟨b',p,h1,h2⟩⟩
    ·exact ⟨Nat.lt_of_lt_of_le (hs.freshX r (List.mem_of_getElem? e) y hy).2 o4,.inr ⟨k,r,e,hy⟩⟩
   obtain ⟨hi1,hi2⟩:=hs.im_stays (w':=w') (ids':=ids') o4 hbl hown
   -- first the names of b are struck, then b2 is gone
   have hdS:∀ (b':Nat) p,b' ≠ b → ids[b']? = some p → p ≠ .dead → ∃ q,(ids.set b .dead)[b']? = some q ∧ likeE p q:=by
    intro b' p hb' hp _
    exact ⟨p,by rw [List.getElem?_set_ne (fun e=>hb' e.symm)]; exact hp,likeE_rfl p⟩
   have hdT:∀ (b':Nat) p,b' ≠ b2 → (ids.set b .dead)[b']? = some p → p ≠ .dead → ∃ q,ids'[b']? = some q ∧ likeE p q:=by
    intro b' p hb' hp hpd
    by_cases hbb:b' = b
    ·subst hbb
     rw [List.getElem?_set_self hbi] at hp
     cases hp; exact absurd rfl hpd
    ·rw [List.getElem?_set_ne (fun e=>hbb e.symm)] at hp
     exact ⟨p,by rw [get_old b' hbb hb']; exact hp,likeE_rfl p⟩
   have hmono:∀ u v,RelI (imOf c ids w) w u v → RelI (imOf c ids' w') w' u v:=fun u v h=>h.mono hi1 hi2
   have hkx:∀ i,i < n → ∀ y,kx i = some y → w'.heap[y]? = w.heap[y]?:=by
    intro i hi y hy
    obtain ⟨p,h1,h2⟩:=x3 i hi y hy
    refine hblk y (hs.freshX p (List.mem_of_getElem? h1) y (.inr h2)).2 (fun p0 h0 e0=>?_)
    rw [h1] at h0; cases h0
    exact x4 p h1 (by rw [e0]; exact h2)
   have hky:∀ i,i < k + 1 → ∀ y,ky i = some y → w'.heap[y]? = w.heap[y]?:=by
    intro i hi y hy
    obtain ⟨p,h1,h2⟩:=y3 i hi y hy
    refine hblk y (hs.freshX p (List.mem_of_getElem? h1) y (.inr h2)).2 (fun p0 h0 e0=>?_)
    exact hne (hs.distinctX b b2 p0 p y h0 h1 (.inl e0.symm) (.inr h2))
   have hS:Sim c (s.map (scr b 4)) (((m.map (scrB b 4)).set b (.nest ti.ety ety2 sz2 (n + (k + 1)) none (catN n len len2) (catN n row row2))).set b2 .gone) a w' ids':=by
    refine hs.goOn o1 o2 o3 o4 hbl hown (fun vs h=>by
     simp only [ids'] at h
     rcases List.mem_or_eq_of_mem_set h with h | h
     ·rcases List.mem_or_eq_of_mem_set h with h | h
      ·exact h
      ·cases h
     ·cases h) ?_ (by simp) (by simp [ids',hs.mlen]) ?_ ?_ odr
    ·intro k k' r r' y e1 e2 z1 z2
     have go:∀ (kk:Nat) (rr:Id),kk ≠ b → kk ≠ b2 → ids[kk]? = some (.lv rr) → p'.has y → rr.has y → False:=by
      intro kk rr n1 n2 ek a1 a2
      have hlt:=(hs.freshX rr (List.mem_of_getElem? ek) y a2).2
      rcases hwas y a1 with ⟨h1,_⟩ | ⟨b',p,hb',h1,h2⟩
      ·omega
      ·have:=hs.distinctX _ _ p rr y h1 ek h2 a2
       rcases hb' with rfl | rfl
       ·exact n1 this.symm
       ·exact n2 this.symm
     rcases cases_id k r e1 with ⟨rfl,rfl⟩ | ⟨ne,ne2,e⟩ <;> rcases cases_id k' r' e2 with ⟨rfl,rfl⟩ | ⟨ne',ne2',e'⟩
     ·rfl
     ·exact (go k' r' ne' ne2' e' z1 z2).elim
     ·exact (go k r ne ne2 e z2 z1).elim
     ·exact hs.distinctX k k' r r' y e e' z1 z2
    ·intro k h h'
     rw [List.getElem_map]
     have q0:=scr_reid (im':=imOf c ids w) (w':=w) (ids':=ids.set b .dead) (fun _ h=>h) (fun _ _=>rfl) hdS 4 _ _ (hs.slots k (by simpa using h) h')
     exact q0.restale hi1 hi2 hdT get_b2
    ·intro k hk hk'
     have hat:ids'[k]? = some ids'[k]:=List.getElem?_eq_getElem hk'
     simp only [List.length_set,List.length_map] at hk
     rw [List.getElem_set]
     split
     ·rename_i he; subst he
      rw [get_b2] at hat
      rw [← Option.some.inj hat]; exact rfl
     ·rename_i he
      rw [List.getElem_set]
      split
      ·rename_i he2; subst he2
       rw [get_b] at hat
       rw [← Option.some.inj hat]
       have hcat:∀ i (hi:i < (xs ++ ys).length) (hv:i < cur.size),cur[i] = (xs ++ ys)[i]:=by
        intro i hi hv
        have hi2:i < n + (k + 1):=by rw [List.length_append,x1,y1] at hi; exact hi
        simp only [← g5]
        simp
       refine ⟨rfl,rfl,?_,cur,g1,rfl,by show n + (k + 1) ≤ cur.size; omega,catN n kx ky,?_⟩
       ·rintro (⟨i,hi,h⟩ | ⟨i,hi,h⟩)
        ·obtain ⟨p,h1,h2⟩:=x3 i hi _ h
         rcases g7 with h' | h'
         ·have h':w.heap.size ≤ p'.blk:=h'
          have:=(hs.freshX p (List.mem_of_getElem? h1) _ (.inr h2)).2
          omega
         ·rcases hownb with h3 | ⟨p0,h3,h4⟩
          ·rw [h3] at h'; cases h'
          ·rw [h4] at h'
           rw [h1] at h3; cases h3
           have e0:p.blk = p'.blk:=Option.some.inj h'
           exact x4 p h1 (by rw [e0]; exact h2)
        ·obtain ⟨p,h1,h2⟩:=y3 i hi _ h
         rcases g7 with h' | h'
         ·have h':w.heap.size ≤ p'.blk:=h'
          have:=(hs.freshX p (List.mem_of_getElem? h1) _ (.inr h2)).2
          omega
         ·rcases hownb with h3 | ⟨p0,h3,h4⟩
          ·rw [h3] at h'; cases h'
          ·rw [h4] at h'
           have e0:p0.blk = p'.blk:=Option.some.inj h'
           exact hne (hs.distinctX b b2 p0 p p'.blk h3 h1 (.inl e0.symm) (.inr h2))
       ·intro i hi _ hv
        have hl:(xs ++ ys).length = n + (k + 1):=by rw [List.length_append,x1,y1]
        rw [hcat i (by omega) hv]
        rcases Nat.lt_or_ge i n with hin | hin
        ·rw [catN_lt _ _ hin,catN_lt _ _ hin,catN_lt _ _ hin,List.getElem_append_left (by omega)]
         refine ⟨(x2 i (by omega)).mono hi1 hi2 (hkx i hin),fun y hy=>.inl ⟨i,hin,hy⟩,fun j hj _ e1 e2=>?_⟩
         rcases Nat.lt_or_ge j n with hjn | hjn
         ·rw [catN_lt _ _ hjn] at e1; exact x5 i j hin hjn e1 e2
         ·rw [catN_ge _ _ hjn] at e1
          exfalso
          obtain ⟨y,hy⟩:=Option.ne_none_iff_exists'.1 e2
          obtain ⟨p,h1,h2⟩:=x3 i hin y hy
          obtain ⟨p2,h3,h4⟩:=y3 (j - n) (by omega) y (by rw [e1,hy])
          exact hne (hs.distinctX b b2 p p2 y h1 h3 (.inr h2) (.inr h4))
        ·rw [catN_ge _ _ hin,catN_ge _ _ hin,catN_ge _ _ hin,List.getElem_append_right (by omega)]
         have ei:i - xs.length = i - n:=by rw [x1]
         simp only [ei]
         refine ⟨(y2 (i - n) (by omega)).mono hi1 hi2 (hky (i - n) (by omega)),fun y hy=>.inr ⟨i - n,by omega,hy⟩,fun j hj _ e1 e2=>?_⟩
         rcases Nat.lt_or_ge j n with hjn | hjn
         ·rw [catN_lt _ _ hjn] at e1
          exfalso
          obtain ⟨y,hy⟩:=Option.ne_none_iff_exists'.1 e2
          obtain ⟨p,h1,h2⟩:=y3 (i - n) (by omega) y hy
          obtain ⟨p2,h3,h4⟩:=x3 j hjn y (by rw [e1,hy])
          exact hne (hs.distinctX b b2 p2 p y h3 h1 (.inr h4) (.inr h2))
         ·rw [catN_ge _ _ hjn] at e1
          have:=y5 (i - n) (j - n) (by omega) (by omega) e1 e2
          omega
      ·rename_i he2
       have hki:k < ids.length:=by rw [hs.mlen]; exact hk
       rw [get_old k (fun e=>he2 e.symm) (fun e=>he e.symm),List.getElem?_eq_getElem hki] at hat
       rw [← Option.some.inj hat,List.getElem_map]
       have q0:=BRel.rescr (im':=imOf c ids w) (w':=w) (ids':=ids.set b .dead) (fun _ h=>h) (fun _ _=>rfl) hdS 4 (fun _ _ _ _=>rfl) (hs.blks k hk hki)
       refine q0.restale hi1 hi2 hdT get_b2 (fun r hr y hy=>?_)
       have er:ids[k]? = some (.lv r):=by rw [List.getElem?_eq_getElem hki,hr]
       exact hblk y (hs.freshX r (List.mem_of_getElem? er) y hy).2 (fun p h1 h2=>he2 (hs.distinctX b k p r y h1 er (.inl h2.symm) hy))
   refine wp_of_run (v:=.slice (some ⟨g,0,none⟩) (n + (k + 1)) cap) (w':=w') (by rw [e]; simp [hrun]) (hn _ _ _ _ _ _ h (hS.putD o.dst (.own b cap p' get_b ⟨g2,g3⟩ ?_)))
   show cap * 1 = cur.size
   omega
  ·exact h.elim
theorem sLenN_sound (htt:TTok P tt) (hs:Sim c s m a w ids) {t:TypeId} {X:Operand} {b:Nat} (ho:o.op = .call { callee:=.builtin .len,args:=#[X],argTypes:=#[t] }) (hX:ev s X = .own b)
  {ty ety:TypeId} {sz n:Nat} {hole:Option Nat} {len:Nat → Nat} {row:Nat → Nat → List A} (hb:m.getD b .dead = .nest ty ety sz n hole len row)
  {K:List A → A → List Blk → Prop} (h:sLenN tt t n s m K)
  (hn:∀ s1 v m' a' w' ids',K s1 v m' → Sim c (putD s1 o.dst v) m' a' w' ids' → next a' w'):o.wp P a w next Q:=by
 have hx:=hs.ev X
 rw [hX] at hx
 have e:(execOp a.eval o) = (do pure (.value (← Builtin.len_ #[t] o.type #[a.eval X]))):=by
  obtain ⟨dst,op,ty,pos,after,guard⟩:=o
  simp only at ho; subst ho
  rw [BigFrame.execOp_builtin,BigFrame.builtin_len]; simp
 unfold sLenN at h
 split at h
 ·exact h.elim
 ·rename_i ti hti
  split at h
  ·rename_i hk
   obtain ⟨i0,d,z0,_,hd,_,_,_,_,_,_,_,_,_,hk3,_⟩:=htt.facts hti
   obtain ⟨ie,ze,hd',_⟩:=hk3 hk
   subst hd'
   obtain ⟨hbm,hm⟩:=getD_some (by simp) hb
   have hbi:b < ids.length:=by rw [hs.mlen]; exact hbm
   have hB:=hs.blks b hbm hbi
   rw [hm] at hB
   have hv:∃ ad cap,a.eval X = .slice ad n cap:=by
    rcases hs.own_at hx (by rw [hb]; simp) with ⟨h1,h2⟩ | ⟨p,cap,h1,h2,h3,h4⟩
    ·have:ids[b] = .virt:=by rw [List.getElem?_eq_getElem hbi] at h1; exact Option.some.inj h1
     rw [this] at hB
     have hB:n = 0:=hB
     subst hB
     exact ⟨_,_,h2⟩
    ·have:ids[b] = .lv p:=by rw [List.getElem?_eq_getElem hbi] at h1; exact Option.some.inj h1
     rw [this] at hB
     have e2:p.n = n:=hB.2.1
     exact ⟨_,_,by rw [h4,e2]⟩
   obtain ⟨ad,cap,hv⟩:=hv
   refine wp_of_run (v:=.int .i64 n) (w':=w) ?_ (hn s _ m _ _ ids h (hs.putD o.dst (.imm (.int _ _))))
   rw [e,hv]; simp [Builtin.len_,underlying,hd,goInt]
  ·exact h.elim
end
end Go.Proofs.YtmeohhbdkoeadaaGreat.Am
namespace Go.Proofs.YtmeohhbdkoeadaaGreat.Am
variable [Inhabited DRT]
open Go.RowKit (Below)
section
variable {c:Ctx} {s:List A} {m:List Blk} {a:Act} {w w':World} {ids ids':Ids} {P:Program} {im im':Nat → Prop} {tt:TT} {G:GInv}
variable {next:Act → World → Prop} {Q:Exit → Act → World → Prop} {o:Oper}

theorem del_run {t kt et:TypeId} {agg:Bool} {sh:List KS} (ht:P.underlying t = some (.map kt et)) (hkt:KeyT P kt agg sh) {k:List KC} (hk:kOk sh k)
  {r:Nat} {es:Array MapEntry} {clock:Nat} (hh:w.heap[r]? = some (.map es clock)) {f:Nat → List KC} (hf:∀ i (h:i < es.size),kOk sh (f i) ∧ es[i].key = kV agg sh (f i)) (t' ty:TypeId) :
  (∃ i,∃ (_:i < es.size),f i = k ∧ (Builtin.delete_ #[t,t'] ty #[.map (some r),kV agg sh k]).run P w = .ok (.tuple #[]) { w with heap:=w.heap.setIfInBounds r (.map (es.eraseIdxIfInBounds i) clock) }) ∨
  ((∀ i,i < es.size → f i ≠ k) ∧ (Builtin.delete_ #[t,t'] ty #[.map (some r),kV agg sh k]).run P w = .ok (.tuple #[]) { w with heap:=w.heap.setIfInBounds r (.map es clock) }):=by
 obtain ⟨res,e1,e2⟩:=find_run (w:=w) hkt hk es f hf
 have hc:=hkt.chk (w:=w) hk es.isEmpty
 rcases e2 with ⟨rfl,e2⟩ | ⟨i,hi,e2,rfl⟩
 ·refine .inr ⟨e2,?_⟩
  have hso:=MapKept.run_setObj_map (P:=P) (.map es clock) hh
  simp [Builtin.delete_,run_underlying ht,MapKept.run_getObj_map hh,hc,e1,hso]
 ·refine .inl ⟨i,hi,e2,?_⟩
  have hso:=MapKept.run_setObj_map (P:=P) (.map (es.eraseIdxIfInBounds i) clock) hh
  simp [Builtin.delete_,run_underlying ht,MapKept.run_getObj_map hh,hc,e1,hso]

theorem sDel_sound (htt:TTok P tt) (hs:Sim c s m a w ids) {t t':TypeId} {X Y:Operand} (ho:o.op = .call { callee:=.builtin .delete,args:=#[X,Y],argTypes:=#[t,t'] }) {K:KT} (h:sDel tt t (ev s X) (ev s Y) m K) (hn:NextOk c s o K next):o.wp P a w next Q:=by
 have e:(execOp a.eval o) = (do pure (.value (← Builtin.delete_ #[t,t'] o.type #[a.eval X,a.eval Y]))):=by
  obtain ⟨dst,op,ty,pos,after,guard⟩:=o
  simp only at ho; subst ho
  rw [BigFrame.execOp_builtin,BigFrame.builtin_delete]; simp
 unfold sDel at h
 obtain ⟨kt,et,agg,sh,z,zv,h1,h2,_,_,h⟩:=mapTy_inv htt h (imOf c ids w) w
 split at h
 ·rename_i k b hk hx'
  have hx:=hs.ev X; rw [hx'] at hx
  obtain ⟨g1,g2⟩:=keyA_rel hk (hs.ev Y)
  split at h
  ·rename_i agg' sh' has val hmb
   split at h
   ·rename_i hb1 hb2
    have hb1:=boolEq_iff hb1
    have hb2:=ksEq_iff hb2
    subst hb1; subst hb2
    rw [setB_eq] at h
    obtain ⟨p,h5,h6⟩:=hs.omap_at hx (by rw [hmb]; simp)
    obtain ⟨x,hxm,hbr⟩:=hs.blk_at h5
    rw [getD_of_get hxm] at hmb; subst hmb
    obtain ⟨es,clock,f,q1,q2,q3,q4,q5,q6,q7⟩:=hbr
    have htup:∀ w',Rel ids (imOf c ids w') w' (.tup []) (.tuple #[]):=fun w'=>.imm (.tup [] [] rfl (fun _ h=>by simp at h))
    rcases del_run (w:=w) h1 h2 g1 q1 (fun i hi=>⟨(q2 i hi).1,(q2 i hi).2.1⟩) t' o.type with ⟨i,hi,e1,e2⟩ | ⟨e1,e2⟩
    ·refine wp_of_run (by rw [e,h6,g2]; simp only [Sem.run_bind,e2,Result.andThen_ok]; rfl) (hn _ _ _ _ ids h ((hs.setObj b p h5 _ _ ?_).putD _ (htup _)))
     intro w' hw' hm'
     have hsz:(es.eraseIdxIfInBounds i).size = es.size - 1:=by simp only [Array.eraseIdxIfInBounds,hi,dif_pos]; simp
     have hget:∀ j (hj:j < (es.eraseIdxIfInBounds i).size),(es.eraseIdxIfInBounds i)[j] = if h:j < i then es[j]'(by omega) else es[j + 1]'(by omega):=by
      intro j hj
      simp only [Array.eraseIdxIfInBounds,hi,dif_pos]
      rw [Array.getElem_eraseIdx]
     obtain ⟨F,F1,F2⟩ : ∃ F:Nat → List KC,(∀ j,j < i → F j = f j) ∧ ∀ j,¬ j < i → F j = f (j + 1):=⟨fun j=>if j < i then f j else f (j + 1),fun j h=>by simp [h],fun j h=>by simp [h]⟩
     refine ⟨_,clock,F,hw',?_,?_,?_,?_,?_,?_⟩
     ·intro j hj
      rw [hget j hj]
      by_cases hji:j < i
      ·rw [dif_pos hji,F1 j hji]
       exact ⟨(q2 j (by omega)).1,(q2 j (by omega)).2.1,by
        unfold putH; rw [if_neg (fun he=>by have:=q3 j i (by omega) hi (by rw [he,e1]); omega)]; exact (q2 j (by omega)).2.2⟩
      ·rw [dif_neg hji,F2 j hji]
       exact ⟨(q2 (j + 1) (by omega)).1,(q2 (j + 1) (by omega)).2.1,by
        unfold putH; rw [if_neg (fun he=>by have:=q3 (j + 1) i (by omega) hi (by rw [he,e1]); omega)]; exact (q2 (j + 1) (by omega)).2.2⟩
     ·intro j j' g3 g4 g5
      by_cases hj:j < i <;> by_cases hj':j' < i
      ·rw [F1 j hj,F1 j' hj'] at g5; exact q3 j j' (by omega) (by omega) g5
      ·rw [F1 j hj,F2 j' hj'] at g5; have:=q3 j (j' + 1) (by omega) (by omega) g5; omega
      ·rw [F2 j hj,F1 j' hj'] at g5; have:=q3 (j + 1) j' (by omega) (by omega) g5; omega
      ·rw [F2 j hj,F2 j' hj'] at g5; have:=q3 (j + 1) (j' + 1) (by omega) (by omega) g5; omega
     ·intro k' g3 g4
      unfold putH at g4
      split at g4
      ·cases g4
      ·rename_i hne
       obtain ⟨j,hj,hj'⟩:=q4 k' g3 g4
       have hji:j ≠ i:=fun he=>hne (by rw [← hj',he,e1])
       by_cases hlt:j < i
       ·exact ⟨j,by omega,by rw [F1 j hlt]; exact hj'⟩
       ·exact ⟨j - 1,by omega,by rw [F2 (j - 1) (by omega),show j - 1 + 1 = j by omega]; exact hj'⟩
     ·intro j hj
      rw [hget j hj]
      by_cases hji:j < i
      ·rw [dif_pos hji,F1 j hji]; exact hm' _ _ (q5 j (by omega))
      ·rw [dif_neg hji,F2 j hji]; exact hm' _ _ (q5 (j + 1) (by omega))
     ·intro j hj
      rw [hget j hj]
      split
      ·exact q6 j (by omega)
      ·exact q6 (j + 1) (by omega)
     ·intro j j' hj hj' he
      rw [hget j hj,hget j' hj'] at he
      split at he <;> split at he
      ·exact q7 j j' (by omega) (by omega) he
      ·have:=q7 j (j' + 1) (by omega) (by omega) he; omega
      ·have:=q7 (j + 1) j' (by omega) (by omega) he; omega
      ·have:=q7 (j + 1) (j' + 1) (by omega) (by omega) he; omega
    ·refine wp_of_run (by rw [e,h6,g2]; simp only [Sem.run_bind,e2,Result.andThen_ok]; rfl) (hn _ _ _ _ ids h ((hs.setObj b p h5 _ _ ?_).putD _ (htup _)))
     intro w' hw' hm'
     refine ⟨_,clock,f,hw',?_,q3,?_,fun j hj=>hm' _ _ (q5 j hj),q6,q7⟩
     ·intro j hj
      exact ⟨(q2 j hj).1,(q2 j hj).2.1,by unfold putH; rw [if_neg (e1 j hj)]; exact (q2 j hj).2.2⟩
     ·intro k' g3 g4
      unfold putH at g4
      split at g4
      ·cases g4
      ·exact q4 k' g3 g4
   ·exact h.elim
  ·exact h.elim
 ·exact h.elim
/-! ### Entries of maps that are laid, and then written -/
theorem ent_run {t kt et:TypeId} {agg:Bool} {sh:List KS} (ht:P.underlying t = some (.map kt et)) (hkt:KeyT P kt agg sh) {zv:Value} (hz:(zeroValue et).run P w = .ok zv w) {k:List KC} (hk:kOk sh k)
  {r:Nat} {es:Array MapEntry} {clock:Nat} (hh:w.heap[r]? = some (.map es clock)) {f:Nat → List KC} (hf:∀ i (h:i < es.size),kOk sh (f i) ∧ es[i].key = kV agg sh (f i)) :
  (∃ i,∃ (h:i < es.size),f i = k ∧ (Instr.mapEntry t (.map (some r)) (kV agg sh k)).run P w = .ok (.tuple #[es[i].val,.int .i64 (es[i].born:Nat)]) { w with heap:=w.heap.setIfInBounds r (.map (es.modify i fun e=>{ e with key:=kV agg sh k }) clock) }) ∨
  ((∀ i,i < es.size → f i ≠ k) ∧ (Instr.mapEntry t (.map (some r)) (kV agg sh k)).run P w = .ok (.tuple #[zv,.int .i64 (clock:Nat)]) { w with heap:=w.heap.setIfInBounds r (.map (es.push { key:=kV agg sh k,val:=zv,born:=clock }) (clock + 1)) }):=by
 obtain ⟨res,e1,e2⟩:=find_run (w:=w) hkt hk es f hf
 have hc:=hkt.chk (w:=w) hk false
 rcases e2 with ⟨rfl,e2⟩ | ⟨i,hi,e2,rfl⟩
 ·refine .inr ⟨e2,?_⟩
  have hso:=MapKept.run_setObj_map (P:=P) (.map (es.push { key:=kV agg sh k,val:=zv,born:=clock }) (clock + 1)) hh
  simp only [Instr.mapEntry,Sem.run_bind,run_underlying ht,Result.andThen_ok,MapKept.run_getObj_map hh,hc,e1,hz,hso]
  rfl
 ·refine .inl ⟨i,hi,e2,?_⟩
  have hst:(Instr.keyThatStays (((es[i]?).map (·.key)).getD (kV agg sh k)) (kV agg sh k)).run P w = .ok (kV agg sh k) w:=by
   have:((es[i]?).map (·.key)).getD (kV agg sh k) = kV agg sh k:=by
    rw [Array.getElem?_eq_getElem hi]
    show es[i].key = _
    rw [(hf i hi).2,e2]
   rw [this]
   unfold Instr.keyThatStays
   rw [if_pos (sameBits_kV hk hkt.len1)]
   rfl
  have hso:=MapKept.run_setObj_map (P:=P) (.map (es.modify i fun e=>{ e with key:=kV agg sh k }) clock) hh
  simp only [Instr.mapEntry,Sem.run_bind,run_underlying ht,Result.andThen_ok,MapKept.run_getObj_map hh,hc,e1,hst,hso]
  rw [Array.getElem?_eq_getElem hi]
  rfl
theorem est_run {t:TypeId} {r:Nat} {es:Array MapEntry} {clock:Nat} (hh:w.heap[r]? = some (.map es clock)) {i:Nat} (hi:i < es.size) (hu:∀ j (h:j < es.size),es[j].born = es[i].born → j = i) (v:Value) :
  (Instr.entryStore t (.map (some r)) (.int .i64 (es[i].born:Nat)) v).run P w = .ok () { w with heap:=w.heap.setIfInBounds r (.map (es.modify i fun e=>{ e with val:=v }) clock) }:=by
 have hso:=MapKept.run_setObj_map (P:=P) (.map (es.modify i fun e=>{ e with val:=v }) clock) hh
 have hfi:es.findIdx? (fun e=>(e.born:Int) == ((es[i].born:Nat):Int)) = some i:=by
  rw [Array.findIdx?_eq_some_iff_getElem]
  refine ⟨hi,by simp,fun j hj=>?_⟩
  have hne:es[j].born ≠ es[i].born:=fun e=>by have:=hu j (by omega) e; omega
  have hne':((es[j].born:Nat):Int) ≠ ((es[i].born:Nat):Int):=fun e=>hne (by omega)
  simp
  exact hne'
 have e1:(asInt (.int .i64 ((es[i].born:Nat):Int))).run P w = .ok ((es[i].born:Nat):Int) w:=by simp [asInt,asIntOf]
 simp only [Instr.entryStore,Sem.run_bind,MapKept.run_getObj_map hh,Result.andThen_ok,e1,hfi,hso]
/-- A block of ours that is an object is written, and what is known of its entries grows. -/
theorem Sim.setObjH (hs:Sim c s m a w ids) (b:Nat) (p p':Id) (hid:ids[b]? = some (.lv p)) (hl:p.like p') (hk:∀ x,p'.has x → p.has x) (x:Blk) (ob:Obj)
  (hx:∀ w',w'.heap[p.blk]? = some ob → (∀ a v,RelI (imOf c ids w) w a v → RelI (imOf c (ids.set b (.lv p')) w') w' a v) → BRel (ids.set b (.lv p')) (imOf c (ids.set b (.lv p')) w') w' x (.lv p')) :
  Sim c s (m.set b x) a { w with heap:=w.heap.setIfInBounds p.blk ob } (ids.set b (.lv p')):=by
 have hmem:IdE.lv p ∈ ids:=List.mem_of_getElem? hid
 have hfr:=hs.fresh p hmem
 have hbi:b < ids.length:=(List.getElem?_eq_some_iff.1 hid).1
 have hsz:({ w with heap:=w.heap.setIfInBounds p.blk ob }:World).heap.size = w.heap.size:=by simp
 have hoth:∀ k,k ≠ p.blk → ({ w with heap:=w.heap.setIfInBounds p.blk ob }:World).heap[k]? = w.heap[k]?:=by
  intro k hk; simp [Array.getElem?_setIfInBounds_ne (fun e=>hk e.symm)]
 have mem:∀ (k:Nat) (r:Id),(ids.set b (.lv p'))[k]? = some (.lv r) → (k = b ∧ r = p') ∨ (k ≠ b ∧ ids[k]? = some (.lv r)):=by
  intro k r h
  rw [List.getElem?_set] at h
  split at h
  ·rename_i e; subst e
   cases h; exact .inl ⟨rfl,rfl⟩
  ·rename_i hne; exact .inr ⟨fun e=>hne e.symm,h⟩
 have hown:∀ r,IdE.lv r ∈ ids.set b (.lv p') → ∀ x,r.has x → x < ({ w with heap:=w.heap.setIfInBounds p.blk ob }:World).heap.size ∧ (w.heap.size ≤ x ∨ ∃ (b:Nat) (p:Id),ids[b]? = some (.lv p) ∧ p.has x):=by
  intro r hr y hy
  obtain ⟨k,hk'⟩:=List.getElem?_of_mem hr
  rcases mem k r hk' with ⟨_,rfl⟩ | ⟨_,e⟩
  ·exact ⟨by rw [hsz]; exact (hs.freshX p hmem y (hk y hy)).2,.inr ⟨b,p,hid,hk y hy⟩⟩
  ·exact ⟨by rw [hsz]; exact (hs.freshX r (List.mem_of_getElem? e) y hy).2,.inr ⟨k,r,e,hy⟩⟩
 have hbl:∀ k,k < w.heap.size → (∀ (b:Nat) (p:Id),ids[b]? = some (.lv p) → ¬ p.has k) → ({ w with heap:=w.heap.setIfInBounds p.blk ob }:World).heap[k]? = w.heap[k]? :=
  fun k _ hk=>hoth k (fun e=>hk b p hid (.inl e))
 obtain ⟨hi1,hi2⟩:=hs.im_stays (w':={ w with heap:=w.heap.setIfInBounds p.blk ob }) (ids':=ids.set b (.lv p')) (by rw [hsz]; exact Nat.le_refl _) hbl hown
 have hd:∀ (k:Nat) r,ids[k]? = some r → r ≠ .dead → ∃ q,(ids.set b (.lv p'))[k]? = some q ∧ likeE r q:=by
  intro k r hr _
  rw [List.getElem?_set]
  split
  ·rename_i e; subst e
   rw [hid] at hr; cases hr
   exact ⟨_,rfl,p',rfl,hl⟩
  ·exact ⟨r,hr,likeE_rfl r⟩
 refine hs.goOn rfl rfl rfl (by rw [hsz]; exact Nat.le_refl _) hbl hown (fun vs h=>by
  rcases List.mem_or_eq_of_mem_set h with h | h
  ·exact h
  ·cases h) ?_ rfl (by simp [hs.mlen]) (fun i h h'=>(hs.slots i h h').reid hi1 hi2 hd) ?_
 ·intro k k' r r' x e1 e2 x1 x2
  rcases mem k r e1 with ⟨rfl,rfl⟩ | ⟨ne,e⟩ <;> rcases mem k' r' e2 with ⟨rfl,rfl⟩ | ⟨ne',e'⟩
  ·rfl
  ·exact absurd (hs.distinctX _ _ p r' x hid e' (hk x x1) x2).symm ne'
  ·exact absurd (hs.distinctX _ _ r p x e hid x1 (hk x x2)) ne
  ·exact hs.distinctX k k' r r' x e e' x1 x2
 ·intro k hk1 hk2
  simp only [List.length_set] at hk1 hk2
  rw [List.getElem_set,List.getElem_set]
  split
  ·refine hx _ ?_ (fun a v h=>h.mono hi1 hi2)
   simp [hfr.2]
  ·rename_i he
   refine (hs.blks k hk1 hk2).reid hi1 hi2 hd ?_
   intro q hq y hy
   refine hoth y (fun e=>he ?_)
   exact hs.distinctX b k p q y hid (by rw [List.getElem?_eq_getElem hk2,hq]) (.inl e) hy
def sEnt (tt:TT) (t:TypeId) (x key:A) (m:List Blk) (K:KT):Prop :=
 mapTy tt t fun agg sh _=>match keyA agg sh key,x with
  | some k,.omap b=>match m.getD b .dead with
   | .mapx agg' sh' has val=>match boolEq agg agg',ksEq sh sh' with
    | true,true=>setB m b (.mapx agg' sh' (putH has k true) (putV val k .junk)) fun m'=>K (.tup [.junk,.ent b k]) m'
    | _,_=>False
   | _=>False
  | _,_=>False
def sESt (x st v:A) (m:List Blk) (K:KT):Prop :=
 match x,st,hasOwn 4 v with
 | .omap b,.ent b' k,false=>match Nat.beq b b',m.getD b .dead with
  | true,.mapx agg sh has val=>fd 4 v fun v'=>setB m b (.mapx agg sh has (putV val k v')) fun m'=>K .junk m'
  | _,_=>False
 | _,_,_=>False
theorem sEnt_sound (htt:TTok P tt) (hs:Sim c s m a w ids) {t:TypeId} {X Y:Operand} (ho:o.op = .mapEntry t X Y) {K:KT} (h:sEnt tt t (ev s X) (ev s Y) m K) (hn:NextOk c s o K next):o.wp P a w next Q:=by
 have e:execOp a.eval o = (do pure (.value (← Instr.mapEntry t (a.eval X) (a.eval Y)))):=by
  obtain ⟨dst,op,ty,pos,after,guard⟩:=o
  simp only at ho; subst ho; rfl
 unfold sEnt at h
 obtain ⟨kt,et,agg,sh,z,zv,h1,h2,hz,_,h⟩:=mapTy_inv htt h (imOf c ids w) w
 split at h
 ·rename_i k b hk hx'
  have hx:=hs.ev X; rw [hx'] at hx
  obtain ⟨g1,g2⟩:=keyA_rel hk (hs.ev Y)
  split at h
  ·rename_i agg' sh' has val hmb
   split at h
   ·rename_i hb1 hb2
    have hb1:=boolEq_iff hb1
    have hb2:=ksEq_iff hb2
    subst hb1; subst hb2
    rw [setB_eq] at h
    obtain ⟨p,h5,h6⟩:=hs.omap_at hx (by rw [hmb]; simp)
    obtain ⟨x,hxm,hbr⟩:=hs.blk_at h5
    rw [getD_of_get hxm] at hmb; subst hmb
    obtain ⟨es,clock,f,q1,q2,q3,q4,q5,q6,q7,q8⟩:=hbr
    have hbi:b < ids.length:=(List.getElem?_eq_some_iff.1 h5).1
    rcases ent_run h1 h2 hz g1 q1 (fun i hi=>⟨(q2 i hi).1,(q2 i hi).2.1⟩) with ⟨i,hi,e1,e2⟩ | ⟨e1,e2⟩
    ·refine wp_of_run (by rw [e,h6,g2]; simp only [Sem.run_bind,e2,Result.andThen_ok]; rfl) (hn _ _ _ _ _ h ((hs.setObjH b p p h5 p.like_rfl (fun _ h=>h) _ _ ?_).putD _ ?_))
     ·intro w' hw' hm'
      refine ⟨_,clock,f,hw',?_,?_,?_,?_,?_,q7,?_⟩
      ·intro j hj
       have hj':j < es.size:=by simpa using hj
       rw [Array.getElem_modify]
       split
       ·rename_i hij; subst hij
        exact ⟨(q2 i hj').1,by rw [e1],by simp [putH,e1]⟩
       ·exact ⟨(q2 j hj').1,(q2 j hj').2.1,by
         unfold putH; split
         ·rfl
         ·exact (q2 j hj').2.2⟩
      ·intro i j g3 g4; exact q3 i j (by simpa using g3) (by simpa using g4)
      ·intro k' g3 g4
       unfold putH at g4
       split at g4
       ·rename_i he; subst he; exact ⟨i,by simpa using hi,e1⟩
       ·obtain ⟨j,hj,hj'⟩:=q4 k' g3 g4; exact ⟨j,by simpa using hj,hj'⟩
      ·intro j hj
       have hj':j < es.size:=by simpa using hj
       rw [Array.getElem_modify]
       split
       ·rename_i hij; subst hij
        unfold putV; rw [if_pos e1]; exact .junk _
       ·rename_i hij
        unfold putV; rw [if_neg (fun he=>hij (q3 i j hi hj' (by rw [e1,he])))]
        exact hm' _ _ (q5 j hj')
      ·intro j hj
       have hj':j < es.size:=by simpa using hj
       rw [Array.getElem_modify]
       split
       ·exact q6 j hj'
       ·exact q6 j hj'
      ·intro n k' hn'
       obtain ⟨j,hj,e3,e4⟩:=q8 n k' hn'
       refine ⟨j,by simpa using hj,?_,e4⟩
       rw [Array.getElem_modify]
       split <;> exact e3
     ·refine .tup [.junk,.ent b k] [_,_] rfl fun j hj hj'=>?_
      match j with
      | 0=>exact .imm (.junk _)
      | 1=>exact .ent b k p _ (by rw [List.getElem?_set_self hbi]) (by rw [q6 i hi,e1])
    ·refine wp_of_run (by rw [e,h6,g2]; simp only [Sem.run_bind,e2,Result.andThen_ok]; rfl)
      (hn _ _ _ _ _ h ((hs.setObjH b p ⟨p.blk,p.k,p.n,p.sz,p.kid,fun n=>if n = clock then some k else p.hist n⟩ h5 ⟨rfl,rfl,rfl,rfl,fun n k' hh=>by
       show (if n = clock then some k else p.hist n) = some k'
       rw [if_neg (fun e=>by subst e; rw [q7 n (Nat.le_refl _)] at hh; cases hh)]; exact hh⟩ (fun _ h=>h) _ _ ?_).putD _ ?_))
     ·intro w' hw' hm'
      obtain ⟨F,F1,F2⟩ : ∃ F:Nat → List KC,F es.size = k ∧ ∀ j,j < es.size → F j = f j:=⟨fun j=>if j = es.size then k else f j,by simp,fun j h=>by simp [Nat.ne_of_lt h]⟩
      refine ⟨_,clock + 1,F,hw',?_,?_,?_,?_,?_,?_,?_⟩
      ·intro j hj
       have hj':j < es.size + 1:=by simpa using hj
       rw [Array.getElem_push]
       split
       ·rename_i hlt
        rw [F2 j hlt]
        exact ⟨(q2 j hlt).1,(q2 j hlt).2.1,by
         unfold putH; split
         ·rfl
         ·exact (q2 j hlt).2.2⟩
       ·rename_i hlt
        have:j = es.size:=by omega
        rw [this,F1]
        exact ⟨g1,rfl,by simp [putH]⟩
      ·intro i j g3 g4 g5
       have g3:i < es.size + 1:=by simpa using g3
       have g4:j < es.size + 1:=by simpa using g4
       by_cases hi:i < es.size <;> by_cases hj:j < es.size
       ·rw [F2 i hi,F2 j hj] at g5; exact q3 i j hi hj g5
       ·have:j = es.size:=by omega
        rw [this,F1,F2 i hi] at g5; exact absurd g5 (e1 i hi)
       ·have:i = es.size:=by omega
        rw [this,F1,F2 j hj] at g5; exact absurd g5.symm (e1 j hj)
       ·omega
      ·intro k' g3 g4
       unfold putH at g4
       split at g4
       ·rename_i he; subst he; exact ⟨es.size,by simp,F1⟩
       ·obtain ⟨j,hj,hj'⟩:=q4 k' g3 g4
        exact ⟨j,by simp; omega,by rw [F2 j hj]; exact hj'⟩
      ·intro j hj
       have hj':j < es.size + 1:=by simpa using hj
       rw [Array.getElem_push]
       split
       ·rename_i hlt
        rw [F2 j hlt]
        unfold putV; rw [if_neg (e1 j hlt)]
        exact hm' _ _ (q5 j hlt)
       ·rename_i hlt
        have:j = es.size:=by omega
        rw [this,F1]
        unfold putV; rw [if_pos rfl]; exact .junk _
      ·intro j hj
       have hj':j < es.size + 1:=by simpa using hj
       rw [Array.getElem_push]
       show (if _ = clock then some k else p.hist _) = _
       split
       ·rename_i hlt
        rw [F2 j hlt,if_neg (fun e=>?_)]
        ·exact q6 j hlt
        ·have:=q7 _ (Nat.le_of_eq e.symm)
         rw [q6 j hlt] at this; cases this
       ·rename_i hlt
        have:j = es.size:=by omega
        rw [this,F1,if_pos rfl]
      ·intro n hn'
       show (if n = clock then some k else p.hist n) = none
       rw [if_neg (by omega)]; exact q7 n (by omega)
      ·intro n k' hn'
       have hn':(if n = clock then some k else p.hist n) = some k':=hn'
       split at hn'
       ·rename_i en
        cases hn'
        exact ⟨es.size,by simp,by simp [en],F1⟩
       ·obtain ⟨j,hj,e3,e4⟩:=q8 n k' hn'
        refine ⟨j,by simp; omega,?_,by rw [F2 j hj]; exact e4⟩
        rw [Array.getElem_push,dif_pos hj]; exact e3
     ·refine .tup [.junk,.ent b k] [_,_] rfl fun j hj hj'=>?_
      match j with
      | 0=>exact .imm (.junk _)
      | 1=>exact .ent b k _ _ (by rw [List.getElem?_set_self hbi]) (by show (if clock = clock then some k else _) = _; rw [if_pos rfl])
   ·exact h.elim
  ·exact h.elim
 ·exact h.elim
theorem sESt_sound (hs:Sim c s m a w ids) {t:TypeId} {X Y Z:Operand} (ho:o.op = .entryStore t X Y Z) {K:KT} (h:sESt (ev s X) (ev s Y) (ev s Z) m K) (hn:NextOk c s o K next):o.wp P a w next Q:=by
 have e:execOp a.eval o = (do Instr.entryStore t (a.eval X) (a.eval Y) (a.eval Z); pure .skip):=by
  obtain ⟨dst,op,ty,pos,after,guard⟩:=o
  simp only at ho; subst ho; rfl
 unfold sESt at h
 split at h
 ·rename_i b b' k hx' hy' hown
  have hx:=hs.ev X; rw [hx'] at hx
  have hy:=hs.ev Y; rw [hy'] at hy
  have hv:=hasOwn_rel 4 _ _ hown (hs.ev Z)
  split at h
  ·rename_i agg sh has val hbb hmb
   have hbb:=Nat.eq_of_beq_eq_true hbb
   subst hbb
   rw [fd_eq,setB_eq] at h
   obtain ⟨p,h5,h6⟩:=hs.omap_at hx (by rw [hmb]; simp)
   obtain ⟨x,hxm,hbr⟩:=hs.blk_at h5
   rcases hy.ent_inv with ⟨p2,n,g1,g2,g3⟩ | ⟨g1,_⟩
   rotate_left
   ·rw [h5] at g1; cases g1
   rw [h5] at g1; cases g1
   rw [getD_of_get hxm] at hmb; subst hmb
   obtain ⟨es,clock,f,q1,q2,q3,q4,q5,q6,q7,q8⟩:=hbr
   obtain ⟨i,hi,e3,e4⟩:=q8 n k g2
   subst e3
   have hu:∀ j (h:j < es.size),es[j].born = es[i].born → j = i:=fun j hj he=>by
    have k1:=q6 j hj
    have k2:=q6 i hi
    rw [he,k2] at k1
    exact q3 j i hj hi (Option.some.inj k1).symm
   have e2:=est_run (P:=P) (t:=t) q1 hi hu (a.eval Z)
   refine wp_of_skip (by rw [e,h6,g3]; simp only [Sem.run_bind,e2,Result.andThen_ok]; rfl) (hn _ _ _ _ _ h (Sim.junk_put (hs.setObj b p h5 _ _ ?_) _ _))
   intro w' hw' hm'
   refine ⟨_,clock,f,hw',?_,?_,?_,?_,?_,q7,?_⟩
   ·intro j hj
    have hj':j < es.size:=by simpa using hj
    rw [Array.getElem_modify]
    split <;> exact q2 j hj'
   ·intro i j g3 g4; exact q3 i j (by simpa using g3) (by simpa using g4)
   ·intro k' g3 g4
    obtain ⟨j,hj,hj'⟩:=q4 k' g3 g4; exact ⟨j,by simpa using hj,hj'⟩
   ·intro j hj
    have hj':j < es.size:=by simpa using hj
    rw [Array.getElem_modify]
    split
    ·rename_i hij; subst hij
     unfold putV; rw [if_pos e4]; exact hm' _ _ hv
    ·rename_i hij
     unfold putV; rw [if_neg (fun he=>hij (q3 i j hi hj' (by rw [e4,he])))]
     exact hm' _ _ (q5 j hj')
   ·intro j hj
    have hj':j < es.size:=by simpa using hj
    rw [Array.getElem_modify]
    split <;> exact q6 j hj'
   ·intro n k' hn'
    obtain ⟨j,hj,e3,e4⟩:=q8 n k' hn'
    refine ⟨j,by simpa using hj,?_,e4⟩
    rw [Array.getElem_modify]
    split <;> exact e3
  ·exact h.elim
 ·exact h.elim
end

/-! ### A row of bytes of ours, as a text -/
def u8s (row:Nat → List A):Nat → Option (List UInt8)
 | 0=>some []
 | n + 1=>match u8s row n with
  | some l=>match row n with
   | [.int .u8 v]=>some (l ++ [UInt8.ofNat v.toNat])
   | _=>none
  | none=>none
def sConvB (tt:TT) (src dst:TypeId) (x:A) (m:List Blk) (K:KT):Prop :=
 match x with
 | .own b=>match m.getD b .dead with
  | .row _ sz n row=>match tt.lookup src,tt.lookup dst with
   | some si,some di=>match si.kind,di.kind,tt.lookup si.ety,Nat.beq sz 1 with
    | 3,4,some ei,true=>match ei.kind,ei.ik,u8s row n with
     | 5,.u8,some l=>K (.str l) m
     | _,_,_=>False
    | _,_,_,_=>False
   | _,_=>False
  | _=>False
 | _=>sConv tt src dst x fun v=>K v m
theorem u8s_get:∀ (row:Nat → List A) (n:Nat) (l:List UInt8),u8s row n = some l → l.length = n ∧ ∀ i,i < n → ∃ v:Int,row i = [.int .u8 v] ∧ l[i]? = some (UInt8.ofNat v.toNat)
 | row,0,l,h=>by
  simp only [u8s,Option.some.injEq] at h
  subst h
  exact ⟨rfl,fun i h=>absurd h (Nat.not_lt_zero _)⟩
 | row,n + 1,l,h=>by
  unfold u8s at h
  split at h
  ·rename_i l0 h0
   obtain ⟨g1,g2⟩:=u8s_get row n l0 h0
   split at h
   ·rename_i v hv
    have h:=Option.some.inj h
    subst h
    refine ⟨by simp [g1],fun i hi=>?_⟩
    rcases Nat.lt_or_eq_of_le (Nat.le_of_lt_succ hi) with q | q
    ·obtain ⟨v',e1,e2⟩:=g2 i q
     exact ⟨v',e1,by rw [List.getElem?_append_left (by omega)]; exact e2⟩
    ·subst q
     exact ⟨v,hv,by rw [List.getElem?_append_right (by omega),g1]; simp⟩
   ·cases h
  ·cases h
section
variable {c:Ctx} {s:List A} {m:List Blk} {a:Act} {w w':World} {ids ids':Ids} {P:Program} {im im':Nat → Prop} {tt:TT} {G:GInv}
variable {next:Act → World → Prop} {Q:Exit → Act → World → Prop} {o:Oper}
theorem sConvB_sound (htt:TTok P tt) (hs:Sim c s m a w ids) {X:Operand} {src dst:TypeId} (ho:o.op = .convert src dst X) {K:KT} (h:sConvB tt src dst (ev s X) m K) (hn:NextOk c s o K next):o.wp P a w next Q:=by
 unfold sConvB at h
 split at h
 ·rename_i b hv
  split at h
  ·rename_i ty sz n row hmb
   split at h
   ·rename_i si di hsi hdi
    split at h
    ·rename_i ei hk1 hk2 hei hsz
     split at h
     ·rename_i l hk3 hik hl
      have hsz:sz = 1:=Nat.eq_of_beq_eq_true hsz
      subst hsz
      have hx:=hs.ev X
      rw [hv] at hx
      have e:execOp a.eval o = (do let z ← convert src dst (a.eval X); pure (.value z)):=by unfold execOp; rw [ho]
      obtain ⟨_,d1,_,_,hd1,_,_,_,_,_,_,_,_,_,b3,_⟩:=htt.facts hsi
      obtain ⟨_,_,rfl,_⟩:=b3 hk1
      obtain ⟨_,d2,_,_,hd2,_,_,_,_,_,_,_,_,_,_,_,b4,_⟩:=htt.facts hdi
      obtain rfl:=b4 hk2
      obtain ⟨_,d3,_,_,hd3,_,_,_,_,_,_,_,_,_,_,b5,_⟩:=htt.facts hei
      obtain rfl:=b5 hk3
      rw [hik] at hd3
      obtain ⟨hll,hlg⟩:=u8s_get row n l hl
      rcases hs.own_at hx (by rw [hmb]; simp) with ⟨h1,h2⟩ | ⟨p,cap,h1,_,_,h2⟩
      ·have hb:b < ids.length:=by
        rcases Nat.lt_or_ge b ids.length with h' | h'
        ·exact h'
        ·rw [List.getElem?_eq_none h'] at h1; cases h1
       have hm:b < m.length:=by rw [← hs.mlen]; exact hb
       have hB:=hs.blks b hm hb
       rw [List.getElem?_eq_getElem hb] at h1
       rw [Option.some.inj h1] at hB
       have e2:m.getD b .dead = m[b]:=by rw [List.getD_eq_getElem?_getD,List.getElem?_eq_getElem hm]; rfl
       rw [← e2,hmb] at hB
       have hn0:n = 0:=hB
       have hl0:l = []:=List.length_eq_zero_iff.1 (by omega)
       subst hl0
       refine wp_val hs hn ⟨_,.string ByteArray.empty,?_,h,.imm (.str [])⟩
       have hrun:=run_convert_bytes_nil (P:=P) (w:=w) src si.ety hd1 hd3 0 0 dst hd2
       rw [e,h2]
       simp only [Sem.run_bind,hrun,Result.andThen_ok]
       rfl
      ·obtain ⟨x,hxm,hbr⟩:=hs.blk_at h1
       rw [getD_of_get hxm] at hmb; subst hmb
       obtain ⟨g1,g2,vs,g3,g4,g5,g6,g7⟩:=hbr
       have hcell:∀ i,i < n → w.cell? ⟨p.blk,0 + i,none⟩ = some (.int .u8 (((List.range n).map fun i=>match row i with | [.int _ v]=>v | _=>0).getD i 0)):=by
        intro i hi
        obtain ⟨v,e1,_⟩:=hlg i hi
        have hlt:i * 1 + 0 < vs.size:=by omega
        have hr:=(g7 i 0 hi (by rw [g6 i hi]; omega) hlt).1
        have e3:(row i)[0]'(by rw [g6 i hi]; omega) = .int .u8 v:=by simp only [e1,List.getElem_cons_zero]
        rw [e3] at hr
        have hv':vs[i * 1 + 0] = .int .u8 v:=by
         generalize vs[i * 1 + 0] = vv at hr
         cases hr; rfl
        have e4:((List.range n).map fun i=>match row i with | [.int _ v]=>v | _=>0).getD i 0 = v:=by
         simp [List.getD_eq_getElem?_getD,hi,e1]
        rw [e4]
        unfold World.cell?
        simp only [g3,Nat.zero_add]
        have hlt2:i < vs.size:=by omega
        simp only [Nat.mul_one,Nat.add_zero] at hv'
        simp [Array.getElem?_eq_getElem hlt2,hv']
       have hrun:=run_convert_bytes_arg (P:=P) (w:=w) src si.ety hd1 hd3 p.blk 0 n cap ((List.range n).map fun i=>match row i with | [.int _ v]=>v | _=>0) (by simp) hcell dst hd2
       refine wp_val hs hn ⟨_,.string ⟨l.toArray⟩,?_,h,.imm (.str l)⟩
       rw [e,h2,g2]
       have hsl:strOfNums ((List.range n).map fun i=>match row i with | [.int _ v]=>v | _=>0) = ⟨l.toArray⟩:=by
        unfold strOfNums
        congr 2
        apply List.ext_getElem?
        intro i
        rcases Nat.lt_or_ge i n with hi | hi
        ·obtain ⟨v,e1,e5⟩:=hlg i hi
         rw [e5]
         simp [hi,e1]
        ·rw [List.getElem?_eq_none (by simpa using hi),List.getElem?_eq_none (by omega)]
       rw [hsl] at hrun
       simp [hrun]
     ·exact h.elim
    ·exact h.elim
   ·exact h.elim
  ·exact h.elim
 ·exact sConv_sound htt hs ho h hn
end

/-! ### One operation, maps and handed blocks among them -/
def stepM (P:Program) (G:GInv) (tt:TT) (o:Oper) (s:List A) (m:List Blk) (K:List A → A → List Blk → Prop):Prop :=
 match o.op with
 | .call { callee:=.value f,args,.. }=>sCall P G (ev s f) (args.toList.map (ev s)) m (K s) ∨ sCallM P G (ev s f) (args.toList.map (ev s)) s m K ∨
   fNL (ddN [] (((args.toList.map (ev s)).map (reach m 8)).flatten)) (fun ρ=>frzMany ρ s m fun s' m'=>sCall P G (ev s' f) (args.toList.map (ev s')) m' (K s')) ∨
   sCallN P G (ev s f) (args.toList.map (ev s)) m (K s)
 | .call { callee:=.builtin .delete,args,argTypes }=>match args.toList,argTypes.toList with
  | [x,k],[t,_]=>sDel tt t (ev s x) (ev s k) m (K s)
  | _,_=>False
 | .makeMap t r=>match r with
  | none=>sMkMap tt t m (K s)
  | some _=>False
 | .convert src dst x=>sConvB tt src dst (ev s x) m (K s)
 | .lookup t x k ok=>sLook tt t (ev s x) (ev s k) ok m fun v=>K s v m
 | .mapUpdate t x k v=>sUpd tt t (ev s x) (ev s k) (ev s v) m (K s)
 | .insert t x k v=>sUpd tt t (ev s x) (ev s k) (ev s v) m (K s)
 | .mapEntry t x k=>sEnt tt t (ev s x) (ev s k) m (K s)
 | .entryStore _ x st v=>sESt (ev s x) (ev s st) (ev s v) m (K s)
 | .buildSlice t len ps=>match len,ps.toList with
  | 1,[(0,x)]=>match ev s x with
   | .own b'=>sBuildN tt t b' s m K
   | _=>stepN P G tt o s m K
  | _,_=>stepN P G tt o s m K
 | .call { callee:=.builtin .len,args,argTypes }=>match args.toList,argTypes.toList with
  | [x],[t]=>match ev s x with
   | .own b=>match m.getD b .dead with
    | .nest _ _ _ n _ _ _=>sLenN tt t n s m K
    | _=>stepN P G tt o s m K
   | _=>stepN P G tt o s m K
  | _,_=>stepN P G tt o s m K
 | .call { callee:=.builtin .append,args,argTypes }=>match args.toList,argTypes.toList with
  | [x,y],[t,t']=>match ev s x,ev s y with
   | .own b,.own b2=>match m.getD b .dead,m.getD b2 .dead with
    | .nest ty ety sz n none len row,.nest ty2 ety2 sz2 n2 none len2 row2=>match Nat.beq t' t with
     | true=>sAppN tt t b b2 ty ety sz n len row ty2 ety2 sz2 n2 len2 row2 s m K
     | false=>False
    | _,_=>stepN P G tt o s m K
   | _,_=>stepN P G tt o s m K
  | _,_=>stepN P G tt o s m K
 | _=>stepN P G tt o s m K
section
variable {c:Ctx} {s:List A} {m:List Blk} {a:Act} {w w':World} {ids ids':Ids} {P:Program} {im im':Nat → Prop} {tt:TT} {G:GInv}
variable {next:Act → World → Prop} {Q:Exit → Act → World → Prop} {o:Oper}
theorem stepM_sound (htt:TTok P tt) (hG:G.ok c) (hs:Sim c s m a w ids) {K:List A → A → List Blk → Prop} (h:stepM P G tt o s m K)
  (hn:∀ s1 v m' a' w' ids',K s1 v m' → Sim c (putD s1 o.dst v) m' a' w' ids' → next a' w'):o.wp P a w next Q:=by
 have hn':NextOk c s o (K s) next:=fun v m' a' w' ids' h1 h2=>hn s v m' a' w' ids' h1 h2
 unfold stepM at h
 split at h
 ·rename_i f args ts ho
  rcases h with h | h | h | h
  ·exact sCall_sound hs hG ho h hn'
  ·exact sCallM_sound hs hG ho h hn
  ·rw [fNL_eq] at h
   obtain ⟨s',m',ids',h',hs'⟩:=frzMany_sound _ hs h
   exact sCall_sound hs' hG ho h' (fun v m' a' w' ids' h1 h2=>hn s' v m' a' w' ids' h1 h2)
  ·exact sCallN_sound hs hG ho h hn'
 ·rename_i args ts ho
  split at h
  ·rename_i x k t t' hx ht
   have e1:args = #[x,k]:=by apply Array.ext'; simpa using hx
   have e2:ts = #[t,t']:=by apply Array.ext'; simpa using ht
   subst e1; subst e2
   exact sDel_sound htt hs ho h hn'
  ·exact h.elim
 ·rename_i t r ho
  split at h
  ·exact sMkMap_sound htt hs ho h hn'
  ·exact h.elim
 ·rename_i ho; exact sConvB_sound htt hs ho h hn'
 ·rename_i ho; exact sLook_sound htt hs ho h hn'
 ·rename_i ho; exact sUpd_sound htt hs (.inl ho) h hn'
 ·rename_i ho; exact sUpd_sound htt hs (.inr ho) h hn'
 ·rename_i ho; exact sEnt_sound htt hs ho h hn'
 ·rename_i ho; exact sESt_sound hs ho h hn'
 ·rename_i t len ps ho
  split at h
  ·rename_i x hps
   split at h
   ·rename_i b' hX
    have e1:ps = #[(0,x)]:=by apply Array.ext'; simpa using hps
    subst e1
    exact sBuildN_sound htt hs ho hX h hn
   ·exact stepN_sound htt hG hs h hn
  ·exact stepN_sound htt hG hs h hn
 ·rename_i args ts ho
  split at h
  ·rename_i x t hx ht
   have e1:args = #[x]:=by apply Array.ext'; simpa using hx
   have e2:ts = #[t]:=by apply Array.ext'; simpa using ht
   subst e1; subst e2
   split at h
   ·rename_i b hX
    split at h
    ·rename_i hb
     exact sLenN_sound htt hs ho hX hb h hn
    ·exact stepN_sound htt hG hs h hn
   ·exact stepN_sound htt hG hs h hn
  ·exact stepN_sound htt hG hs h hn
 ·rename_i args ts ho
  split at h
  ·rename_i x y t t' hx ht
   have e1:args = #[x,y]:=by apply Array.ext'; simpa using hx
   have e2:ts = #[t,t']:=by apply Array.ext'; simpa using ht
   subst e1; subst e2
   split at h
   ·rename_i b b2 hX hY
    split at h
    ·rename_i hb hb2
     split at h
     ·rename_i htt'
      have htt':=Nat.eq_of_beq_eq_true htt'
      subst htt'
      exact sAppN_sound htt hs ho hX hY hb hb2 h hn
     ·exact h.elim
    ·exact stepN_sound htt hG hs h hn
   ·exact stepN_sound htt hG hs h hn
  ·exact stepN_sound htt hG hs h hn
 ·exact stepN_sound htt hG hs h hn
end
end Go.Proofs.YtmeohhbdkoeadaaGreat.Am
namespace Go.Proofs.YtmeohhbdkoeadaaGreat.Am
variable [Inhabited DRT]
open Go.RowKit (Below)

def putF (s:List A) (d:Option Nat) (v:A) (K:List A → Prop):Prop :=
 match d with
 | some d=>setF s d v K
 | none=>K s
theorem putF_eq (s:List A) (d:Option Nat) (v:A) (K:List A → Prop):putF s d v K = K (putD s d v):=by
 cases d with
 | none=>rfl
 | some d=>exact setF_eq _ _ _ _
def gslot (ops:List Oper) (j:Nat):Option Nat:=(ops[j]?).bind (·.dst)
def guard1 (g:Option Nat) (want:Bool) (s:List A) (X Y:List A → Prop):Prop :=
 match g with
 | none=>False
 | some d=>match s.getD d .junk with
  | .bool b=>match b,want with
   | true,true=>X s
   | false,false=>X s
   | true,false=>Y s
   | false,true=>Y s
  | .sb b=>match want with
   | true=>(b = true → setF s d (.bool true) X) ∧ (b = false → setF s d (.bool false) Y)
   | false=>(b = false → setF s d (.bool false) X) ∧ (b = true → setF s d (.bool true) Y)
  | .tup vs=>match vs with
   | []=>Y s
   | _=>False
  | _=>False
def runL (P:Program) (G:GInv) (tt:TT) (ops:List Oper):List Oper → List A → List Blk → (List A → List Blk → Prop) → Prop
 | [],s,m,K=>K s m
 | o :: rest,s,m,K=>match o.guard with
  | none=>stepM P G tt o s m fun s1 v m'=>putF s1 o.dst v fun s'=>runL P G tt ops rest s' m' K
  | some (j,want)=>guard1 (gslot ops j) want s
    (fun s=>stepM P G tt o s m fun s1 v m'=>putF s1 o.dst v fun s'=>runL P G tt ops rest s' m' K)
    (fun s=>putF s o.dst (.tup []) fun s'=>runL P G tt ops rest s' m K)

section
variable {c:Ctx} {s:List A} {m:List Blk} {a:Act} {w w':World} {ids ids':Ids} {P:Program} {im im':Nat → Prop} {tt:TT} {G:GInv}
variable {next:Act → World → Prop} {Q:Exit → Act → World → Prop} {o:Oper}

theorem Sim.reslot (hs:Sim c s m a w ids) (d:Nat) {x:A} (hv:Rel ids (imOf c ids w) w x (a.tmps.getD d undef)):Sim c (s.set d x) m a w ids where
 defers:=hs.defers
 len:=by simp [hs.len]
 slots:=by
  intro i h h'
  simp only [List.length_set] at h
  rw [List.getElem_set]
  split
  ·rename_i he; subst he; simpa [Array.getD_eq_getD_getElem?,h'] using hv
  ·exact hs.slots i h h'
 mlen:=hs.mlen
 blks:=hs.blks
 distinctX:=hs.distinctX
 freshX:=hs.freshX
 frame:=hs.frame
 im0lt:=hs.im0lt
 gho:=hs.gho

theorem yielded_eq {ops:List Oper} {j d:Nat} {b:Bool} (hg:gslot ops j = some d) (hv:a.tmps.getD d undef = .bool b):yielded ops.toArray a.tmps j = some b:=by
 unfold yielded
 have h1:(ops.toArray[j]?).bind (·.dst) = some d:=by simpa [gslot] using hg
 rw [h1]
 have h2:a.tmps[d]? = some (.bool b):=by
  rcases Nat.lt_or_ge d a.tmps.size with h | h
  ·simpa [Array.getD_eq_getD_getElem?,h] using hv
  ·simp [Array.getD_eq_getD_getElem?,h,undef] at hv
 simp [h2]

theorem runL_sound (htt:TTok P tt) {ops:List Oper} {QA:List A → List Blk → Prop} (hG:G.ok c) (hQ:∀ s m a w ids,QA s m → Sim c s m a w ids → Q .normal a w) :
  ∀ (rest:List Oper) (s:List A) (m:List Blk) (a:Act) (w:World) (ids:Ids),Sim c s m a w ids → runL P G tt ops rest s m QA → wpList P ops.toArray Q rest a w
 | [],s,m,a,w,ids,hs,h=>hQ s m a w ids h hs
 | o :: rest,s,m,a,w,ids,hs,h=>by
  have exec:∀ s,Sim c s m a w ids → (stepM P G tt o s m fun s1 v m'=>putF s1 o.dst v fun s'=>runL P G tt ops rest s' m' QA) → ∀ K:Act → World → Prop,(∀ a w,wpList P ops.toArray Q rest a w → K a w) → o.wp P a w K Q:=by
   intro s hs h K hK
   refine stepM_sound htt hG hs h ?_
   intro s1 v m' a' w' ids' hk hs'
   rw [putF_eq] at hk
   exact hK _ _ (runL_sound htt hG hQ rest _ _ _ _ _ hs' hk)
  have skip:∀ s,Sim c s m a w ids → (putF s o.dst (.tup []) fun s'=>runL P G tt ops rest s' m QA) → ∀ K:Act → World → Prop,(∀ a w,wpList P ops.toArray Q rest a w → K a w) → K (a.put o.dst undef) w:=by
   intro s hs h K hK
   rw [putF_eq] at h
   exact hK _ _ (runL_sound htt hG hQ rest _ _ _ _ _ (hs.putD o.dst (.imm (.tup [] [] rfl (fun _ h=>by simp at h)))) h)
  unfold runL at h
  refine wpList_step fun K hK=>?_
  split at h
  ·rename_i hg
   have:Region.wanted o (yielded ops.toArray a.tmps) = true:=by unfold Region.wanted; rw [hg]
   rw [if_pos this]
   exact exec s hs h K hK
  ·rename_i j want hg
   have hw:Region.wanted o (yielded ops.toArray a.tmps) = (yielded ops.toArray a.tmps j == some want):=by unfold Region.wanted; rw [hg]
   rw [hw]
   unfold guard1 at h
   split at h
   ·exact h.elim
   ·rename_i d hd
    have hev:=hs.ev (.tmp d)
    simp only [ev,Act.eval] at hev
    split at h
    ·rename_i b hb; rw [hb] at hev
     rw [yielded_eq hd hev.bool_inv]
     split at h
     ·exact exec s hs h K hK
     ·exact exec s hs h K hK
     ·exact skip s hs h K hK
     ·exact skip s hs h K hK
    ·rename_i b hb; rw [hb] at hev
     have hbv:=hev.sb_inv
     rw [yielded_eq hd hbv]
     have hsim:∀ b',b = b' → Sim c (s.set d (.bool b')) m a w ids:=by
      intro b' e; subst e; exact hs.reslot d (by rw [hbv]; exact .imm (.bool _))
     rw [setF_eq,setF_eq,setF_eq,setF_eq] at h
     split at h
     ·cases b
      ·exact skip _ (hsim false rfl) (h.2 rfl) K hK
      ·exact exec _ (hsim true rfl) (h.1 rfl) K hK
     ·cases b
      ·exact exec _ (hsim false rfl) (h.1 rfl) K hK
      ·exact skip _ (hsim true rfl) (h.2 rfl) K hK
    ·rename_i vs hb; rw [hb] at hev
     split at h
     ·obtain ⟨us,hu,hu2,_⟩:=hev.tup_inv
      have hu3:us = []:=by simpa using hu2
      subst hu3
      have hy:yielded ops.toArray a.tmps j = none:=by
       unfold yielded
       have h1:(ops.toArray[j]?).bind (·.dst) = some d:=by simpa [gslot] using hd
       rw [h1]
       rcases Nat.lt_or_ge d a.tmps.size with h | h
       ·have h2:a.tmps[d]? = some (.tuple #[]):=by simpa [Array.getD_eq_getD_getElem?,h] using hu
        simp [h2]
       ·simp [h]
      rw [hy]
      exact skip s hs h K hK
     ·exact h.elim
    ·exact h.elim
end

/-! ### Code -/
theorem wp_loop_ghost {P:Program} {Q:Exit → Act → World → Prop} {a:Act} {w:World} {c:Code} (I:Nat → Act → World → Prop) (n₀ : Nat) (h₀ : I n₀ a w)
  (round:∀ n a w,I n a w → c.wp P (Exit.then (fun a' w'=>∃ n',n' < n ∧ I n' a' w') Q) a w):(Code.loop c).wp P Q a w:=by
 intro b k cs
 have key:∀ n a w,I n a w →
   ∃ e a' w',Q e a' w' ∧ Arrives P (lone (b.at a (.code c :: .inLoop c :: k)) cs w) b k cs e a' w':=by
  intro n
  induction n using Nat.strongRecOn with
  | _ n ih =>
   intro a w hI
   obtain ⟨e,a₁,w₁,hq,harr⟩:=round n a w hI b (.inLoop c :: k) cs
   cases e with
   | normal =>
    obtain ⟨n',hlt,hI₁⟩:=hq
    obtain ⟨e₂,a₂,w₂,hq₂,harr₂⟩:=ih n' hlt a₁ w₁ hI₁
    exact ⟨e₂,a₂,w₂,hq₂,.of_steps (Steps.trans harr (.one step_inLoop)) harr₂⟩
   | exit id=>exact ⟨_,a₁,w₁,hq,.pass (x:=.inLoop c) rfl (fun _ _=>.inl (by simp)) harr⟩
   | goto l=>exact ⟨_,a₁,w₁,hq,.pass (x:=.inLoop c) rfl (fun _ _=>.inl (by simp)) harr⟩
   | ret=>exact ⟨_,a₁,w₁,hq,.pass (x:=.inLoop c) rfl (fun _ _=>.inl (by simp)) harr⟩
   | panic ch=>exact ⟨_,a₁,w₁,hq,.pass (x:=.inLoop c) rfl (fun _ _=>.inl (by simp)) harr⟩
   | outgrown=>exact ⟨_,a₁,w₁,hq,.pass (x:=.inLoop c) rfl (fun _ _=>.inl (by simp)) harr⟩
 obtain ⟨e,a',w',hq,harr⟩:=key _ a w h₀
 exact ⟨e,a',w',hq,.of_steps (.one step_loop) harr⟩

def post (c:Ctx) (Q:Exit → List A → List Blk → Prop):Exit → Act → World → Prop:=fun e a w=>∃ s m ids,Q e s m ∧ Sim c s m a w ids

@[irreducible] def WA (P:Program) (G:GInv) (cd:Code) (Q:Exit → List A → List Blk → Prop) (s:List A) (m:List Blk):Prop :=
 ∀ c a w ids,G.ok c → Sim c s m a w ids → cd.wp P (post c Q) a w

def thenA (next:List A → List Blk → Prop) (Q:Exit → List A → List Blk → Prop):Exit → List A → List Blk → Prop
 | .normal,s,m=>next s m
 | e,s,m=>Q e s m
def blockA (id:Nat) (Q:Exit → List A → List Blk → Prop):Exit → List A → List Blk → Prop
 | .exit id',s,m=>match Nat.beq id' id with
  | true=>Q .normal s m
  | false=>Q (.exit id') s m
 | e,s,m=>Q e s m
def condA (v:A) (X Y:Prop):Prop :=
 match v with
 | .bool true=>X
 | .bool false=>Y
 | .sb b=>(b = true → X) ∧ (b = false → Y)
 | _=>False

section
variable {P:Program} {G:GInv} {tt:TT} {Q:Exit → List A → List Blk → Prop} {s:List A} {m:List Blk}

theorem WA_seq {x y:Code} (h:WA P G x (thenA (WA P G y Q) Q) s m):WA P G (.seq x y) Q s m:=by
 unfold WA at h ⊢
 intro c a w ids hG hs
 refine wp_seq (wp_mono (h c a w ids hG hs) ?_)
 rintro e a' w' ⟨s',m',ids',hq,hs'⟩
 cases e with
 | normal =>
  exact hq c a' w' ids' hG hs'
 | _=>exact ⟨s',m',ids',hq,hs'⟩
theorem WA_skip (h:Q .normal s m):WA P G .skip Q s m:=by
 unfold WA; intro c a w ids hG hs; exact wp_skip ⟨s,m,ids,h,hs⟩
theorem WA_ret (h:Q .ret s m):WA P G .ret Q s m:=by
 unfold WA; intro c a w ids hG hs; exact wp_ret ⟨s,m,ids,h,hs⟩
theorem WA_exit {id:Nat} (h:Q (.exit id) s m):WA P G (.exit id) Q s m:=by
 unfold WA; intro c a w ids hG hs; exact wp_exit ⟨s,m,ids,h,hs⟩
theorem WA_block {id:Nat} {x:Code} (h:WA P G x (blockA id Q) s m):WA P G (.block id x) Q s m:=by
 unfold WA at h ⊢
 intro c a w ids hG hs
 refine wp_block (wp_mono (h c a w ids hG hs) ?_)
 rintro e a' w' ⟨s',m',ids',hq,hs'⟩
 cases e with
 | exit id' =>
  simp only [blockA] at hq
  simp only [Exit.inBlock]
  split at hq
  ·rename_i he; rw [if_pos (Nat.eq_of_beq_eq_true he)]; exact ⟨s',m',ids',hq,hs'⟩
  ·rename_i he
   rw [if_neg (fun e=>by subst e; rw [Nat.beq_refl] at he; cases he)]; exact ⟨s',m',ids',hq,hs'⟩
 | _=>exact ⟨s',m',ids',hq,hs'⟩
theorem WA_cond {t:Operand} {x y:Code} (h:condA (ev s t) (WA P G x Q s m) (WA P G y Q s m)):WA P G (.cond t x y) Q s m:=by
 unfold condA at h
 unfold WA
 intro c a w ids hG hs
 have hev:=hs.ev t
 split at h
 ·rename_i hv; rw [hv] at hev; unfold WA at h; exact wp_cond_true hev.bool_inv (h c a w ids hG hs)
 ·rename_i hv; rw [hv] at hev; unfold WA at h; exact wp_cond_false hev.bool_inv (h c a w ids hG hs)
 ·rename_i b hv; rw [hv] at hev
  cases b
  ·have:=h.2 rfl; unfold WA at this; exact wp_cond_false hev.sb_inv (this c a w ids hG hs)
  ·have:=h.1 rfl; unfold WA at this; exact wp_cond_true hev.sb_inv (this c a w ids hG hs)
 ·exact h.elim
theorem WA_region (htt:TTok P tt) {id:Nat} {l:List Oper} (h:runL P G tt l l s m (Q .normal)):WA P G (.region id l.toArray false) Q s m:=by
 unfold WA
 intro c a w ids hG hs
 exact wp_region_lit (runL_sound htt hG (fun s m a w ids hq hs=>⟨s,m,ids,hq,hs⟩) l s m a w ids hs h)

/-- A state that says less. -/
def WkS (s:List A) (m:List Blk) (s':List A) (m':List Blk):Prop:=∀ c a w ids,Sim c s m a w ids → ∃ ids',Sim c s' m' a w ids'

theorem WA_weaken {cd:Code} {s':List A} {m':List Blk} (hw:WkS s m s' m') (h:WA P G cd Q s' m'):WA P G cd Q s m:=by
 unfold WA at h ⊢
 intro c a w ids hG hs
 obtain ⟨ids',hs'⟩:=hw c a w ids hs
 exact h c a w ids' hG hs'
theorem WA_mono {cd:Code} {Q':Exit → List A → List Blk → Prop} (h:WA P G cd Q s m) (hq:∀ e s m,Q e s m → Q' e s m):WA P G cd Q' s m:=by
 unfold WA at h ⊢
 intro c a w ids hG hs
 refine wp_mono (h c a w ids hG hs) ?_
 rintro e a' w' ⟨s',m',ids',hq',hs'⟩
 exact ⟨s',m',ids',hq _ _ _ hq',hs'⟩

def roundA {ι : Type} (S : ι → List A) (M : ι → List Blk) (μ : ι → Nat) (i : ι) (Q:Exit → List A → List Blk → Prop):Exit → List A → List Blk → Prop
 | .normal,s,m=>∃ j,μ j < μ i ∧ WkS s m (S j) (M j)
 | e,s,m=>Q e s m
theorem WA_loop {ι : Type} {body:Code} (S : ι → List A) (M : ι → List Blk) (μ : ι → Nat) (i0 : ι) (h0:WkS s m (S i0) (M i0))
  (hr:∀ i,WA P G body (roundA S M μ i Q) (S i) (M i)):WA P G (.loop body) Q s m:=by
 refine WA_weaken h0 ?_
 unfold WA
 intro c a w ids hG hs
 refine wp_loop_ghost (fun n a w=>∃ i ids,μ i = n ∧ Sim c (S i) (M i) a w ids) (μ i0) ⟨i0,ids,rfl,hs⟩ ?_
 rintro n a w ⟨i,ids,rfl,hs⟩
 have:=hr i
 unfold WA at this
 refine wp_mono (this c a w ids hG hs) ?_
 rintro e a' w' ⟨s',m',ids',hq,hs'⟩
 cases e with
 | normal =>
  obtain ⟨j,hlt,hw⟩:=hq
  obtain ⟨ids'',hs''⟩:=hw c a' w' ids' hs'
  exact ⟨μ j,hlt,j,ids'',rfl,hs''⟩
 | _=>exact ⟨s',m',ids',hq,hs'⟩
end
end Go.Proofs.YtmeohhbdkoeadaaGreat.Am
namespace Go.Proofs.YtmeohhbdkoeadaaGreat.Am
variable [Inhabited DRT]
open Go.RowKit (Below)

def andL:List Prop → Prop
 | []=>True
 | [p]=>p
 | p :: q :: ps=>p ∧ andL (q :: ps)
theorem andL_cons {p:Prop} {ps:List Prop}:andL (p :: ps) ↔ p ∧ andL ps:=by
 cases ps <;> simp [andL]
theorem andL_append {ps qs:List Prop}:andL (ps ++ qs) ↔ andL ps ∧ andL qs:=by
 induction ps with
 | nil=>simp [andL]
 | cons p ps ih=>rw [List.cons_append,andL_cons,andL_cons,ih,and_assoc]

/-- What must hold that the first value may be taken for the second one, where blocks from n on are forgotten. -/
def fitA:Nat → Nat → A → A → List Prop
 | 0,_,_,y=>match y with
  | .junk=>[]
  | _=>[False]
 | d + 1,n,x,y=>match y with
  | .junk=>[]
  | .int k b=>match x with
   | .int k' a=>match kindEq k' k with
    | true=>[a = b]
    | false=>[False]
   | _=>[False]
  | .bool b=>match x with
   | .bool a=>[a = b]
   | .sb a=>[a = b]
   | _=>[False]
  | .sb b=>match x with
   | .bool a=>[a = b]
   | .sb a=>[a = b]
   | _=>[False]
  | .str b=>match x with
   | .str a=>[a = b]
   | _=>[False]
  | .nilp=>match x with
   | .nilp=>[]
   | _=>[False]
  | .nils=>match x with
   | .nils=>[]
   | _=>[False]
  | .nilfn=>match x with
   | .nilfn=>[]
   | _=>[False]
  | .nilm=>match x with
   | .nilm=>[]
   | _=>[False]
  | .mv g' n' k' v'=>match x with
   | .mv g1 n1 k1 v1=>[g1 = g',n1 = n',∀ i,k1 i = k' i,∀ i,k1 i = true → v1 i = v' i]
   | _=>[False]
  | .omap b=>match x with
   | .omap b'=>match Nat.beq b' b,Nat.blt b n with
    | true,true=>[]
    | _,_=>[False]
   | _=>[False]
  | .ent _ _=>[False]
  | .osl _ _=>[False]
  | .ref b o=>match x with
   | .ref b' o'=>match Nat.beq b' b,Nat.beq o' o,Nat.blt b n with
    | true,true,true=>[]
    | _,_,_=>[False]
   | _=>[False]
  | .oref b i o=>match x with
   | .oref b' i' o'=>match Nat.beq b' b,Nat.blt b n with
    | true,true=>[i' = i,o' = o]
    | _,_=>[False]
   | _=>[False]
  | .own b=>match x with
   | .own b'=>match Nat.beq b' b,Nat.blt b n with
    | true,true=>[]
    | _,_=>[False]
   | _=>[False]
  | .sl n' sz' row'=>match x with
   | .sl n1 sz row=>match Nat.beq sz sz' with
    | true=>[n1 = n',(∀ i,i < n1 → row i = row' i) ∨ ∀ i,i < n1 → andL (fitL d 0 (row i) (row' i))]
    | false=>[False]
   | .nils=>[n' = 0]
   | _=>[False]
  | .bref cs' o'=>match x with
   | .bref cs o=>[cs = cs',o = o']
   | _=>[False]
  | .agg cs'=>match x with
   | .agg cs=>fitL d n cs cs'
   | _=>[False]
  | .tup cs'=>match x with
   | .tup cs=>fitL d n cs cs'
   | _=>[False]
  | .fn f' cs'=>match x with
   | .fn f cs=>(f = f') :: fitL d n cs cs'
   | _=>[False]
where fitL (d n:Nat):List A → List A → List Prop
 | [],[]=>[]
 | x :: xs,y :: ys=>fitA d n x y ++ fitL d n xs ys
 | _,_=>[False]
def fitB (n:Nat) (x y:Blk):List Prop :=
 match x,y with
 | .box ty cs,.box ty' cs'=>match Nat.beq ty ty' with
  | true=>fitA.fitL 4 n cs cs'
  | false=>[False]
 | .row ty sz n1 row,.row ty' sz' n1' row'=>match Nat.beq ty ty',Nat.beq sz sz' with
  | true,true=>[n1 = n1',(∀ i,i < n1 → row i = row' i) ∨ ∀ i,i < n1 → andL (fitA.fitL 4 0 (row i) (row' i))]
  | _,_=>[False]
 | .nest ty ety sz n1 ho le row,.nest ty' ety' sz' n1' ho' le' row'=>match Nat.beq ty ty',Nat.beq ety ety',Nat.beq sz sz',ho,ho' with
  | true,true,true,none,none=>[n1 = n1',∀ i,i < n1 → le i = le' i ∧ ∀ j,j < le i → row i j = row' i j]
  | _,_,_,_,_=>[False]
 | .mapb g1 n1 k1 v1,.mapb g' n' k' v'=>[g1 = g',n1 = n',∀ i,k1 i = k' i,∀ i,k1 i = true → v1 i = v' i]
 | .mapx g1 n1 k1 v1,.mapb g' n' k' v'=>[g1 = g',n1 = n',∀ i,k1 i = k' i,∀ i,k1 i = true → v1 i = v' i]
 | .ghost cs,.ghost cs'=>fitA.fitL 4 n cs cs'
 | .dead,.dead=>[]
 | .gone,.gone=>[]
 | _,_=>[False]
def fitBs (n:Nat):List Blk → List Blk → List Prop
 | _,[]=>[]
 | x :: xs,y :: ys=>fitB n x y ++ fitBs n xs ys
 | [],_ :: _=>[False]
/-- The first state may be taken for the second. -/
def fitS (s:List A) (m:List Blk) (s':List A) (m':List Blk):Prop:=andL (fitA.fitL 5 m'.length s s' ++ fitBs m'.length m m')

section
variable {c:Ctx} {s:List A} {m:List Blk} {a:Act} {w w':World} {ids ids':Ids} {P:Program} {im im':Nat → Prop} {tt:TT} {G:GInv}

theorem RelI.up (hi:∀ b,im b → im' b) {x:A} {v:Value} (h:RelI im w x v):RelI im' w x v:=h.mono hi (fun _ _=>rfl)

theorem fitL_len:∀ (d n:Nat) (xs ys:List A),andL (fitA.fitL d n xs ys) → xs.length = ys.length
 | _,_,[],[],_=>rfl
 | d,n,x :: xs,y :: ys,h=>by
  rw [fitA.fitL,andL_append] at h
  simp [fitL_len d n xs ys h.2]
 | _,_,[],_ :: _,h=>by simp [fitA.fitL,andL] at h
 | _,_,_ :: _,[],h=>by simp [fitA.fitL,andL] at h
theorem fitL_get:∀ (d n:Nat) (xs ys:List A),andL (fitA.fitL d n xs ys) → ∀ j (h:j < xs.length) (h':j < ys.length),andL (fitA d n xs[j] ys[j])
 | _,_,[],_,_,j,h,_=>by simp at h
 | _,_,_ :: _,[],_,j,_,h'=>by simp at h'
 | d,n,x :: xs,y :: ys,h,j,h1,h2=>by
  rw [fitA.fitL,andL_append] at h
  cases j with
  | zero=>exact h.1
  | succ j=>exact fitL_get d n xs ys h.2 j (by simpa using h1) (by simpa using h2)

theorem take_get {n b:Nat} {p:IdE} (h:ids[b]? = some p) (hb:b < n):(ids.take n)[b]? = some p:=by
 rw [List.getElem?_take,if_pos hb]; exact h

theorem Rel.nil_rel {x:A} {v:Value} (h:Rel [] im w x v):RelI im w x v:=by
 induction h with
 | imm h=>exact h
 | ref b off p h=>simp at h
 | oref b i off p h=>simp at h
 | own0 b h=>simp at h
 | own b cap p h=>simp at h
 | ownS b x n cap h=>simp at h
 | refS b off x y h=>simp at h
 | orefS b i off x y h=>simp at h
 | omapS b x h=>simp at h
 | omap b p h=>simp at h
 | ent b k p n h hn=>simp at h
 | entS b k n h=>simp at h
 | osl b k cap x p h hx=>simp at h
 | osl0 b k h=>simp at h
 | oslS b k x n cap h=>simp at h
 | agg cs vs hl ho hr ih=>exact .agg cs vs hl ho ih
 | tup cs vs hl hr ih=>exact .tup cs vs hl ih
 | fn f cs vs hl hr ih=>exact .fn f cs vs hl ih

theorem fitA_rel (hi:∀ b,im b → im' b):∀ (d n:Nat) (x y:A) (v:Value),andL (fitA d n x y) → Rel ids im w x v → Rel (ids.take n) im' w y v
 | 0,n,x,y,v,h,hr=>by
  cases y <;> simp [fitA,andL] at h
  exact .imm (.junk _)
 | d + 1,n,x,y,v,h,hr=>by
  have lists:∀ cs cs':List A,andL (fitA.fitL d n cs cs') → cs.length = cs'.length ∧ ∀ (us:List Value),(∀ j (h:j < cs.length) (h':j < us.length),Rel ids im w cs[j] us[j]) → ∀ j (h:j < cs'.length) (h':j < us.length),Rel (ids.take n) im' w cs'[j] us[j]:=by
   intro cs cs' h
   have hl:=fitL_len _ _ _ _ h
   refine ⟨hl,fun us hus j h1 h2=>fitA_rel hi d n _ _ _ (fitL_get _ _ _ _ h j (by omega) h1) (hus j (by omega) h2)⟩
  unfold fitA at h
  split at h
  ·exact .imm (.junk _)
  ·split at h
   ·split at h
    ·rename_i hk; rw [kindEq_iff] at hk; subst hk
     have h:_ = _:=h
     subst h; rw [hr.int_inv]; exact .imm (.int _ _)
    ·exact h.elim
   ·exact h.elim
  ·split at h
   ·have h:_ = _:=h
    subst h; rw [hr.bool_inv]; exact .imm (.bool _)
   ·have h:_ = _:=h
    subst h; rw [hr.sb_inv]; exact .imm (.bool _)
   ·exact h.elim
  ·split at h
   ·have h:_ = _:=h
    subst h; rw [hr.bool_inv]; exact .imm (.sb _)
   ·have h:_ = _:=h
    subst h; rw [hr.sb_inv]; exact .imm (.sb _)
   ·exact h.elim
  ·split at h
   ·have h:_ = _:=h
    subst h; rw [hr.str_inv]; exact .imm (.str _)
   ·exact h.elim
  ·split at h
   ·rw [hr.nilp_inv]; exact .imm .nilp
   ·exact h.elim
  ·split at h
   ·rw [hr.nils_inv]; exact .imm .nils
   ·exact h.elim
  ·split at h
   ·cases hr with | imm hr=>cases hr; exact .imm .nilfn
   ·exact h.elim
  ·split at h
   ·rw [hr.nilm_inv]; exact .imm .nilm
   ·exact h.elim
  ·split at h
   ·obtain ⟨e1,e2,e3,e4⟩:=h
    subst e1; subst e2
    cases hr with
    | imm hr =>
     cases hr with
     | mv _ _ _ _ r es clock f hb hh hk hd hc hv =>
      exact .imm (.mv _ _ _ _ r es clock f (hi _ hb) hh (fun i h=>by rw [← e3]; exact hk i h) hd (fun k h1 h2=>hc k h1 (by rw [e3]; exact h2)) (fun i h=>by rw [← e4 _ (hk i h).2.2]; exact (hv i h).up hi))
   ·exact h.elim
  ·split at h
   ·split at h
    ·rename_i h1 h3
     have h1:=Nat.eq_of_beq_eq_true h1
     subst h1
     rcases hr.omap_inv with ⟨p,g1,rfl⟩ | ⟨g1,x,rfl⟩
     rotate_left
     ·exact .omapS _ x (take_get g1 (Nat.le_of_ble_eq_true (by assumption)))
     exact .omap _ p (take_get g1 (Nat.le_of_ble_eq_true h3))
    ·exact h.elim
   ·exact h.elim
  ·exact h.elim
  ·exact h.elim
  ·split at h
   ·split at h
    ·rename_i h1 h2 h3
     have h1:=Nat.eq_of_beq_eq_true h1
     have h2:=Nat.eq_of_beq_eq_true h2
     subst h1; subst h2
     rcases hr.ref_inv with ⟨p,g1,rfl⟩ | ⟨g1,x,y,rfl⟩
     rotate_left
     ·exact .refS _ _ x y (take_get g1 (Nat.le_of_ble_eq_true h3))
     exact .ref _ _ p (take_get g1 (Nat.le_of_ble_eq_true h3))
    ·exact h.elim
   ·exact h.elim
  ·split at h
   ·split at h
    ·rename_i h1 h3
     have h1:=Nat.eq_of_beq_eq_true h1
     subst h1
     obtain ⟨e1,e2⟩:=h
     subst e1; subst e2
     rcases hr.oref_inv with ⟨p,g1,rfl⟩ | ⟨g1,x,y,rfl⟩
     rotate_left
     ·exact .orefS _ _ _ x y (take_get g1 (Nat.le_of_ble_eq_true h3))
     exact .oref _ _ _ p (take_get g1 (Nat.le_of_ble_eq_true h3))
    ·exact h.elim
   ·exact h.elim
  ·split at h
   ·split at h
    ·rename_i h1 h3
     have h1:=Nat.eq_of_beq_eq_true h1
     subst h1
     rcases hr.own_inv with ⟨g1,rfl⟩ | ⟨p,cap,g1,g2,g3,rfl⟩ | ⟨g1,x,n,cap,rfl⟩
     ·exact .own0 _ (take_get g1 (Nat.le_of_ble_eq_true h3))
     ·exact .own _ cap p (take_get g1 (Nat.le_of_ble_eq_true h3)) g2 g3
     ·exact .ownS _ x n cap (take_get g1 (Nat.le_of_ble_eq_true h3))
    ·exact h.elim
   ·exact h.elim
  ·split at h
   ·split at h
    ·rename_i h1
     have h1:=Nat.eq_of_beq_eq_true h1
     subst h1
     obtain ⟨e1,e2⟩:=h
     subst e1
     cases hr with
     | imm hr =>
      cases hr with
      | sl0=>exact .imm (.sl0 _ _)
      | sle=>exact .imm (.sle _ _ _ _)
      | sl _ _ _ blk base cap vs hb hcap hl hc ho hr =>
       rcases e2 with e2 | e2
       ·refine .imm (.sl _ _ _ blk base cap vs (hi _ hb) hcap (fun i h=>by rw [← e2 i h]; exact hl i h) hc ho ?_)
        intro i j hij hj
        have:=hr i j hij (by rw [e2 i hij]; exact hj)
        simp only [e2 i hij] at this
        exact this.up hi
       ·refine .imm (.sl _ _ _ blk base cap vs (hi _ hb) hcap (fun i h=>by rw [← fitL_len _ _ _ _ (e2 i h)]; exact hl i h) hc ho ?_)
        intro i j hij hj
        have hlen:=fitL_len _ _ _ _ (e2 i hij)
        have:=fitA_rel hi d 0 _ _ _ (fitL_get _ _ _ _ (e2 i hij) j (by omega) hj) (.imm (hr i j hij (by omega)))
        exact Rel.nil_rel (by simpa using this)
    ·exact h.elim
   ·have h:_ = _:=h
    subst h
    rw [hr.nils_inv]; exact .imm (.sl0 _ _)
   ·exact h.elim
  ·split at h
   ·obtain ⟨e1,e2⟩:=h
    subst e1; subst e2
    cases hr with | imm hr=>exact .imm (hr.up hi)
   ·exact h.elim
  ·split at h
   ·obtain ⟨hl,hg⟩:=lists _ _ h
    obtain ⟨us,rfl,u2,u3,u4⟩:=hr.agg_inv
    exact .agg _ us (by omega) u3 (hg us u4)
   ·exact h.elim
  ·split at h
   ·obtain ⟨hl,hg⟩:=lists _ _ h
    obtain ⟨us,rfl,u2,u4⟩:=hr.tup_inv
    exact .tup _ us (by omega) (hg us u4)
   ·exact h.elim
  ·split at h
   ·rw [andL_cons] at h
    obtain ⟨h1,h⟩:=h
    subst h1
    obtain ⟨hl,hg⟩:=lists _ _ h
    obtain ⟨us,rfl,u2,u4⟩:=hr.fn_inv
    exact .fn _ _ us (by omega) (hg us u4)
   ·exact h.elim

theorem fitBs_len:∀ (n:Nat) (xs ys:List Blk),andL (fitBs n xs ys) → ys.length ≤ xs.length
 | _,_,[],_=>Nat.zero_le _
 | n,x :: xs,y :: ys,h=>by
  rw [fitBs,andL_append] at h
  simp; exact fitBs_len n xs ys h.2
 | _,[],_ :: _,h=>h.elim
theorem fitBs_get:∀ (n:Nat) (xs ys:List Blk),andL (fitBs n xs ys) → ∀ j (h:j < xs.length) (h':j < ys.length),andL (fitB n xs[j] ys[j])
 | _,[],_,_,j,h,_=>by simp at h
 | _,_ :: _,[],_,j,_,h'=>by simp at h'
 | n,x :: xs,y :: ys,h,j,h1,h2=>by
  rw [fitBs,andL_append] at h
  cases j with
  | zero=>exact h.1
  | succ j=>exact fitBs_get n xs ys h.2 j (by simpa using h1) (by simpa using h2)

theorem fitB_rel (hi:∀ b,im b → im' b) {n:Nat} {x y:Blk} {p:IdE} (h:andL (fitB n x y)) (hr:BRel ids im w x p):BRel (ids.take n) im' w y p:=by
 unfold fitB at h
 split at h
 ·rename_i ty cs ty' cs'
  split at h
  ·rename_i ht
   have ht:=Nat.eq_of_beq_eq_true ht
   subst ht
   have hl:=fitL_len _ _ _ _ h
   cases p with
   | dead=>exact hr
   | stale=>exact hr
   | virt=>exact hr
   | gho vs=>exact hr
   | lv p =>
    obtain ⟨vs,h1,h2,h3,h4⟩:=hr
    exact ⟨vs,h1,h2,by omega,fun j hj hj'=>⟨fitA_rel hi 4 n _ _ _ (fitL_get _ _ _ _ h j (by omega) hj) (h4 j (by omega) hj').1,(h4 j (by omega) hj').2⟩⟩
  ·exact h.elim
 ·rename_i ty sz n1 row ty' sz' n1' row'
  split at h
  ·rename_i ht hs
   have ht:=Nat.eq_of_beq_eq_true ht
   have hs:=Nat.eq_of_beq_eq_true hs
   subst ht; subst hs
   obtain ⟨e1,e2⟩:=h
   subst e1
   cases p with
   | dead=>exact hr
   | stale=>exact hr
   | virt=>exact hr
   | gho vs=>exact hr
   | lv p =>
    obtain ⟨g1,g2,vs,h1,h2,h3,hl,h4⟩:=hr
    rcases e2 with e2 | e2
    ·refine ⟨g1,g2,vs,h1,h2,h3,fun i hi=>by rw [← e2 i hi]; exact hl i hi,?_⟩
     intro i j hi' hj hj'
     have:=h4 i j hi' (by rw [e2 i hi']; exact hj) hj'
     simp only [e2 i hi'] at this
     exact ⟨this.1.up hi,this.2⟩
    ·refine ⟨g1,g2,vs,h1,h2,h3,fun i hi=>by rw [← fitL_len _ _ _ _ (e2 i hi)]; exact hl i hi,?_⟩
     intro i j hi' hj hj'
     have hlen:=fitL_len _ _ _ _ (e2 i hi')
     have h5:=h4 i j hi' (by omega) hj'
     have:=fitA_rel (ids:=[]) hi 4 0 _ _ _ (fitL_get _ _ _ _ (e2 i hi') j (by omega) hj) (.imm h5.1)
     exact ⟨Rel.nil_rel (by simpa using this),h5.2⟩
  ·exact h.elim
 ·rename_i ty ety sz n1 ho le row ty' ety' sz' n1' ho' le' row'
  split at h
  ·rename_i ht he hs
   have ht:=Nat.eq_of_beq_eq_true ht
   have he:=Nat.eq_of_beq_eq_true he
   have hs:=Nat.eq_of_beq_eq_true hs
   subst ht; subst hs; subst he
   obtain ⟨e1,e2⟩:=h
   subst e1
   cases p with
   | dead=>exact hr
   | stale=>exact hr
   | virt=>exact hr
   | gho vs=>exact hr
   | lv p =>
    obtain ⟨g1,g2,g3,vs,h1,h2,h3,kb,h4⟩:=hr
    refine ⟨g1,g2,g3,vs,h1,h2,h3,kb,fun i hi' hh h=>?_⟩
    obtain ⟨k1,k2,k3⟩:=h4 i hi' hh h
    refine ⟨?_,k2,k3⟩
    obtain ⟨e3,e4⟩:=e2 i hi'
    rcases k1 with ⟨q1,q2,q3⟩ | ⟨q,cap,us,q1,q2,q3,q4,q5,q6,q7,q8⟩
    ·exact .inl ⟨q1,by omega,q3⟩
    ·refine .inr ⟨q,cap,us,by rw [← e3]; exact q1,q2,q3,q4,by omega,q6,fun i' hi''=>by rw [← e4 i' (by omega)]; exact q7 i' (by omega),?_⟩
     intro i' j hi'' hj hj'
     have:=q8 i' j (by omega) (by rw [e4 i' (by omega)]; exact hj) hj'
     simp only [e4 i' (by omega)] at this
     exact ⟨this.1.up hi,this.2⟩
  ·exact h.elim
 ·obtain ⟨e1,e2,e3,e4⟩:=h
  subst e1; subst e2
  cases p with
  | dead=>exact hr
  | stale=>exact hr
  | virt=>exact hr
  | gho vs=>exact hr
  | lv p =>
   obtain ⟨es,clock,f,h1,h2,h3,h4,h5,h6⟩:=hr
   exact ⟨es,clock,f,h1,fun i h=>by rw [← e3]; exact h2 i h,h3,fun k g1 g2=>h4 k g1 (by rw [e3]; exact g2),fun i h=>by rw [← e4 _ (h2 i h).2.2]; exact (h5 i h).up hi,h6⟩
 ·obtain ⟨e1,e2,e3,e4⟩:=h
  subst e1; subst e2
  cases p with
  | dead=>exact hr
  | stale=>exact hr
  | virt=>exact hr
  | gho vs=>exact hr
  | lv p =>
   obtain ⟨es,clock,f,h1,h2,h3,h4,h5,h6,h7,h8⟩:=hr
   refine ⟨es,clock,f,h1,fun i h=>by rw [← e3]; exact h2 i h,h3,fun k g1 g2=>h4 k g1 (by rw [e3]; exact g2),fun i h=>by rw [← e4 _ (h2 i h).2.2]; exact (h5 i h).up hi,fun i h=>?_,fun i j g1 g2 e=>?_⟩
   ·refine Classical.byContradiction fun hc=>?_
    have:=h7 es[i].born (by omega)
    rw [h6 i h] at this; cases this
   ·have k1:=h6 i g1
    have k2:=h6 j g2
    rw [e,k2] at k1
    exact h3 i j g1 g2 (Option.some.inj k1).symm
 ·have hl:=fitL_len _ _ _ _ h
  cases p with
  | dead=>exact hr
  | stale=>exact hr
  | virt=>exact hr
  | lv p=>exact hr
  | gho vs=>exact ⟨by rw [← hl]; exact hr.1,fun j hj hj'=>fitA_rel hi 4 n _ _ _ (fitL_get _ _ _ _ h j (by omega) hj) (hr.2 j (by omega) hj')⟩
 ·have hr:p = .dead:=hr
  exact hr
 ·have hr:p = .stale:=hr
  exact hr
 ·exact h.elim

theorem Sim.fit (hs:Sim c s m a w ids) {s':List A} {m':List Blk} (h:fitS s m s' m'):Sim c s' m' a w (ids.take m'.length):=by
 unfold fitS at h
 rw [andL_append] at h
 obtain ⟨h1,h2⟩:=h
 have hl:=fitL_len _ _ _ _ h1
 have hlb:=fitBs_len _ _ _ h2
 have hi:∀ b,imOf c ids w b → imOf c (ids.take m'.length) w b:=by
  rintro b (h | ⟨q1,q2,q3⟩)
  ·exact .inl h
  ·exact .inr ⟨q1,q2,fun p hp=>q3 p (List.mem_of_mem_take hp)⟩
 have hidl:ids.length = m.length:=hs.mlen
 refine ⟨hs.defers,by rw [hs.len,hl],?_,by simp; omega,?_,?_,?_,hs.frame,hs.im0lt,fun vs h=>hs.gho vs (List.mem_of_mem_take h)⟩
 ·intro i g1 g2
  exact fitA_rel hi 5 _ _ _ _ (fitL_get _ _ _ _ h1 i (by omega) g1) (hs.slots i (by omega) g2)
 ·intro b g1 g2
  have:=hs.blks b (by omega) (by omega)
  rw [List.getElem_take]
  exact fitB_rel hi (fitBs_get _ _ _ h2 b (by omega) g1) this
 ·intro i j p q x g1 g2 g3 g3'
  rw [List.getElem?_take] at g1 g2
  split at g1
  ·split at g2
   ·exact hs.distinctX i j p q x g1 g2 g3 g3'
   ·cases g2
  ·cases g1
 ·intro p hp; exact hs.freshX p (List.mem_of_mem_take hp)
theorem WkS_of_fit {s':List A} {m':List Blk} (h:fitS s m s' m'):WkS s m s' m':=fun _ _ _ _ hs=>⟨_,hs.fit h⟩
end
end Go.Proofs.YtmeohhbdkoeadaaGreat.Am
namespace Go.Proofs.YtmeohhbdkoeadaaGreat.Am
variable [Inhabited DRT]
open Go.RowKit (Below)

def ret1 (tt:TT) (rv:ResultVar) (s:List A) (m:List Blk) (K:A → Prop):Prop :=
 match rv with
 | .tmp t=>fd 3 (wk m 5 (s.getD t .junk)) K
 | .cell p t=>sLoad tt t (s.getD p .junk) m fun v _=>fd 3 (wk m 5 v) K
def retL (tt:TT):List ResultVar → List A → List Blk → (List A → Prop) → Prop
 | [],_,_,K=>K []
 | r :: rs,s,m,K=>ret1 tt r s m fun v=>retL tt rs s m fun vs=>K (v :: vs)
def fitR (vs:List A) (r:A):Prop :=
 match vs with
 | [v]=>andL (fitA 6 0 v r)
 | vs=>andL (fitA 6 0 (.tup vs) r)
def retQ (tt:TT) (fn:Func) (r:A):Exit → List A → List Blk → Prop
 | .ret,s,m=>retL tt fn.results.toList s m fun vs=>fitR vs r
 | .normal,s,m=>retL tt fn.results.toList s m fun vs=>fitR vs r
 | _,_,_=>False

def resOf (tmps:Array Value):ResultVar → Sem Value
 | .tmp t=>pure (tmps.getD t undef)
 | .cell p t=>do loadVar t (← asAddr (tmps.getD p undef))

section
variable {c:Ctx} {s:List A} {m:List Blk} {a:Act} {w w':World} {ids ids':Ids} {P:Program} {im im':Nat → Prop} {tt:TT} {G:GInv}

theorem sLoad_run (htt:TTok P tt) (hs:Sim c s m a w ids) {t:TypeId} {x:A} {v:Value} (hx:Rel ids (imOf c ids w) w x v) {K:KT} (h:sLoad tt t x m K) :
  ∃ ad r u,v = .pointer (some ad) ∧ (loadVar t ad).run P w = .ok u w ∧ K r m ∧ Rel ids (imOf c ids w) w r u:=by
 unfold sLoad at h
 split at h
 ·exact h.elim
 ·rename_i ti ht
  split at h
  ·rename_i b off
   split at h
   ·rename_i ty cs hb
    obtain ⟨p,hid,hv⟩:=hs.ref_at hx (by rw [hb]; simp)
    obtain ⟨r,v,h1,h2,h3⟩:=ldA_sound (P:=P) htt ht (base:=0) (hs.run_box hid hb) h
    rw [Nat.zero_add] at h1
    exact ⟨_,r,v,hv,h1,h2,h3⟩
   ·exact h.elim
  ·rename_i b i off
   split at h
   ·rename_i ty sz n row hb
    obtain ⟨p,hid,hv⟩:=hs.oref_at hx (by rw [hb]; simp)
    obtain ⟨hi,h⟩:=h
    rw [fl_eq] at h
    obtain ⟨r,v,h1,h2,h3⟩:=ldA_sound (P:=P) htt ht (hs.run_row hid hb hi) h
    exact ⟨_,r,v,hv,h1,h2,h3⟩
   ·exact h.elim
  ·rename_i cs off
   cases hx with
   | imm hx =>
    cases hx with
    | bref blk base _ _ vs hb hc hov hr =>
     have hrun:Run ids (imOf c ids w) w cs blk base:=by
      refine ⟨(List.range cs.length).map vs,by simp,?_,?_,?_⟩
      ·intro j hj; simp at hj; simpa using hc j hj
      ·intro v hv; simp at hv; obtain ⟨j,hj,rfl⟩:=hv; exact hov j hj
      ·intro j hj hj'; simpa using Rel.imm (hr j hj)
     obtain ⟨r,v,h1,h2,h3⟩:=ldA_sound (P:=P) htt ht hrun h
     exact ⟨_,r,v,rfl,h1,h2,h3⟩
  ·exact h.elim

theorem ret1_run (htt:TTok P tt) (hs:Sim c s m a w ids) (rv:ResultVar) {K:A → Prop} (h:ret1 tt rv s m K) :
  ∃ r v,(resOf a.tmps rv).run P w = .ok v w ∧ K r ∧ RelI (imAll c ids w) w r v:=by
 cases rv with
 | tmp t =>
  simp only [ret1,fd_eq] at h
  exact ⟨_,a.tmps.getD t undef,rfl,h,wk_rel hs 5 _ _ (hs.ev (.tmp t))⟩
 | cell p t =>
  simp only [ret1,fd_eq] at h
  obtain ⟨ad,r,u,h1,h2,h3,h4⟩:=sLoad_run (P:=P) htt hs (hs.ev (.tmp p)) h
  refine ⟨_,u,?_,h3,wk_rel hs 5 _ _ h4⟩
  have h1:a.tmps.getD p undef = .pointer (some ad):=h1
  show (do loadVar t (← asAddr (a.tmps.getD p undef)):Sem Value).run P w = _
  rw [h1]
  simp [asAddr,h2]

theorem retL_run (htt:TTok P tt) (hs:Sim c s m a w ids):∀ (rs:List ResultVar) {K:List A → Prop},retL tt rs s m K →
  ∃ (xs:List A) (vs:List Value),(rs.mapM (resOf a.tmps)).run P w = .ok vs w ∧ K xs ∧
   vs.length = xs.length ∧ ∀ j (h:j < xs.length) (h':j < vs.length),RelI (imAll c ids w) w xs[j] vs[j]
 | [],K,h=>⟨[],[],by simp,h,rfl,fun j h=>absurd h (Nat.not_lt_zero _)⟩
 | rv :: rs,K,h=>by
  obtain ⟨r,v,h1,h2,h3⟩:=ret1_run (P:=P) htt hs rv h
  obtain ⟨xs,vs,g1,g2,g3,g4⟩:=retL_run htt hs rs h2
  refine ⟨r :: xs,v :: vs,?_,g2,by simp [g3],?_⟩
  ·rw [List.mapM_cons]
   simp only [Sem.run_bind,h1,Result.andThen_ok,g1]
   rfl
  ·intro j hj hj'
   cases j with
   | zero=>exact h3
   | succ j=>exact g4 j (by simpa using hj) (by simpa using hj')

theorem results_eq (fn:Func) (tmps:Array Value):results fn tmps = (do let vs ← fn.results.mapM (resOf tmps); pure (if h:vs.size = 1 then vs[0] else .tuple vs)):=by
 unfold results
 have:∀ f g:ResultVar → Sem Value,f = g → (do let vs ← fn.results.mapM f; pure (if h:vs.size = 1 then vs[0] else .tuple vs)) = (do let vs ← fn.results.mapM g; pure (if h:vs.size = 1 then vs[0] else .tuple vs)):=by
  rintro f _ rfl; rfl
 apply this
 funext x; cases x <;> rfl
theorem results_run {fn:Func} {vs:List Value} (h:(fn.results.toList.mapM (resOf a.tmps)).run P w = .ok vs w) :
  (results fn a.tmps).run P w = .ok (if h:vs.toArray.size = 1 then vs.toArray[0] else .tuple vs.toArray) w:=by
 rw [results_eq]
 have e:(fn.results.mapM (resOf a.tmps)).run P w = .ok vs.toArray w:=by
  rw [Array.mapM_eq_mapM_toList,map_eq_pure_bind]
  simp only [Sem.run_bind,h,Result.andThen_ok]
  rfl
 simp only [Sem.run_bind,e,Result.andThen_ok]
 rfl

theorem retQ_body (htt:TTok P tt) (hs:Sim c s m a w ids) {fn:Func} {r:A} (h:retL tt fn.results.toList s m fun vs=>fitR vs r) :
  ∃ v,(results fn a.tmps).run P w = .ok v w ∧ RelI (fun b=>c.im0 b ∨ (c.new b ∧ b < w.heap.size)) w r v:=by
 obtain ⟨xs,vs,h1,h2,h3,h4⟩:=retL_run (P:=P) htt hs _ h
 refine ⟨_,results_run h1,?_⟩
 have hi:∀ b,imAll c ids w b → c.im0 b ∨ (c.new b ∧ b < w.heap.size):=by
  rintro b ((h | ⟨q1,q2,_⟩) | ⟨p,hp,hx⟩)
  ·exact .inl h
  ·exact .inr ⟨q1,q2⟩
  ·exact .inr (hs.freshX p hp b hx)
 have fin:∀ x v,andL (fitA 6 0 x r) → RelI (imAll c ids w) w x v → RelI (fun b=>c.im0 b ∨ (c.new b ∧ b < w.heap.size)) w r v:=by
  intro x v hf hr
  have:=fitA_rel (ids:=[]) (n:=0) hi 6 x r v hf (.imm hr)
  exact this.nil_rel
 unfold fitR at h2
 split at h2
 ·rename_i x
  have:vs.length = 1:=by simpa using h3
  match vs,this with
  | [v],_=>exact fin x v h2 (h4 0 (by simp) (by simp))
 ·rename_i hne
  have hne:¬ vs.length = 1:=by
   intro e
   rw [e] at h3
   match xs,h3 with
   | [x],_=>exact hne x rfl
  rw [dif_neg (by simpa using hne)]
  exact fin _ _ h2 (.tup xs vs h3 h4)

theorem ACalls.of_WA (htt:TTok P tt) {f:FuncId} {fn:Func} {cd:Code} {args:List A} {r:A} (hf:P.funcs[f]? = some fn) (hb:fn.body = some cd)
  (hn : (fn.name == "runtime.NumGoroutine") = false) (k : Nat) (hk : fn.ntmps - args.length = k)
  (h:fl (args ++ List.replicate k .junk) fun s=>WA P G cd (retQ tt fn r) s []):ACalls P G f args r:=by
 rw [fl_eq] at h
 refine ⟨⟨fn,cd,hf,hb,hn⟩,?_⟩
 intro im w vs him hG hl hr
 refine calls_of_wp hf hb ?_
 unfold WA at h
 have hsim:Sim ⟨w,im,fun _=>False,[]⟩ (args ++ List.replicate k .junk) [] ⟨vs.toArray ++ Array.replicate (fn.ntmps - vs.toArray.size) undef,[]⟩ w []:=by
  refine ⟨rfl,by simp [hl,hk],?_,rfl,fun b h=>absurd h (Nat.not_lt_zero _),(fun b b' p q x h=>by simp at h),(fun p h=>by cases h),Fr.refl _ _ _ _,fun b hb=>⟨him b hb,fun h=>h⟩,(fun vs h=>by cases h)⟩
  intro i h1 h2
  by_cases hi:i < args.length
  ·rw [List.getElem_append_left hi,Array.getElem_append_left (by simp; omega)]
   have:=hr i hi (by omega)
   exact .imm (by simpa using this.up (fun b hb=>.inl hb))
  ·rw [List.getElem_append_right (by omega)]
   simp only [List.getElem_replicate]
   exact .imm (.junk _)
 have hnew:∀ (w':World) (b:Nat),im b ∨ (Ctx.new ⟨w,im,fun _=>False,[]⟩ b ∧ b < w'.heap.size) → im b ∨ (w.heap.size ≤ b ∧ b < w'.heap.size):=by
  rintro w' b (h | ⟨h | h,h2⟩)
  ·exact .inl h
  ·exact .inr ⟨h,h2⟩
  ·exact h.elim
 refine wp_mono (h ⟨w,im,fun _=>False,[]⟩ _ w [] ⟨hG,fun _ h=>h.elim⟩ hsim) ?_
 rintro e a' w' ⟨s',m',ids',hq,hs'⟩
 cases e with
 | ret =>
  obtain ⟨v,h1,h2⟩:=retQ_body (P:=P) htt hs' hq
  exact ⟨hs'.defers,v,h1,v,rfl,h2.up (hnew w'),hs'.frame.below fun _ h=>h⟩
 | normal =>
  obtain ⟨v,h1,h2⟩:=retQ_body (P:=P) htt hs' hq
  exact ⟨hs'.defers,v,h1,v,rfl,h2.up (hnew w'),hs'.frame.below fun _ h=>h⟩
 | _=>exact hq.elim

/-! ### Loops, with the slots that the body writes forgotten -/
def writes:Code → List Nat
 | .region _ ops _=>ops.toList.filterMap (·.dst)
 | .seq x y=>writes x ++ writes y
 | .cond _ x y=>writes x ++ writes y
 | .block _ x=>writes x
 | .loop x=>writes x
 | _=>[]
def memN (i:Nat):List Nat → Bool
 | []=>false
 | j :: js=>match Nat.beq i j with
  | true=>true
  | false=>memN i js
def jk (ws:List Nat):Nat → List A → List A
 | _,[]=>[]
 | i,x :: xs=>(match memN i ws with | true=>.junk | false=>x) :: jk ws (i + 1) xs
def ovr:List (Nat × A) → List A → List A
 | [],s=>s
 | (i,v) :: l,s=>ovr l (s.set i v)
def headS (body:Code) (s:List A) (ov:List (Nat × A)):List A:=ovr ov (jk (writes body) 0 s)
def roundF {ι : Type} (body:Code) (s0:List A) (ov : ι → List (Nat × A)) (M : ι → List Blk) (μ : ι → Nat) (i : ι) (Q:Exit → List A → List Blk → Prop):Exit → List A → List Blk → Prop
 | .normal,s,m=>∃ j,μ j < μ i ∧ fl (headS body s0 (ov j)) fun s'=>fitS s m s' (M j)
 | e,s,m=>Q e s m
theorem WA_loopO {Q:Exit → List A → List Blk → Prop} {ι : Type} {body:Code} (ov : ι → List (Nat × A)) (M : ι → List Blk) (μ : ι → Nat) (i0 : ι)
  (h0:fl (headS body s (ov i0)) fun s'=>fitS s m s' (M i0))
  (hr:∀ i,fl (headS body s (ov i)) fun s'=>WA P G body (roundF body s ov M μ i Q) s' (M i)):WA P G (.loop body) Q s m:=by
 rw [fl_eq] at h0
 refine WA_loop (fun i=>headS body s (ov i)) M μ i0 (WkS_of_fit h0) ?_
 intro i
 have:=hr i
 rw [fl_eq] at this
 refine WA_mono this ?_
 intro e s' m' hq
 cases e with
 | normal =>
  obtain ⟨j,h1,h2⟩:=hq
  rw [fl_eq] at h2
  exact ⟨j,h1,WkS_of_fit h2⟩
 | _=>exact hq

def roundI {ι : Type} (body:Code) (s0:List A) (I : ι → Prop) (ov : ι → List (Nat × A)) (M : ι → List Blk) (μ : ι → Nat) (i : ι) (Q:Exit → List A → List Blk → Prop):Exit → List A → List Blk → Prop
 | .normal,s,m=>∃ j,I j ∧ μ j < μ i ∧ fl (headS body s0 (ov j)) fun s'=>fitS s m s' (M j)
 | e,s,m=>Q e s m
/-- A loop whose rounds are told by an index that keeps a law. -/
theorem WA_loopI {Q:Exit → List A → List Blk → Prop} {ι : Type} {body:Code} (I : ι → Prop) (ov : ι → List (Nat × A)) (M : ι → List Blk) (μ : ι → Nat) (i0 : ι) (hI:I i0)
  (h0:fl (headS body s (ov i0)) fun s'=>fitS s m s' (M i0))
  (hr:∀ i,I i → fl (headS body s (ov i)) fun s'=>WA P G body (roundI body s I ov M μ i Q) s' (M i)):WA P G (.loop body) Q s m:=by
 refine WA_loopO (ι:={i : ι // I i}) (fun i=>ov i.1) (fun i=>M i.1) (fun i=>μ i.1) ⟨i0,hI⟩ h0 ?_
 rintro ⟨i,hi⟩
 have:=hr i hi
 rw [fl_eq] at this ⊢
 refine WA_mono this ?_
 intro e s' m' hq
 cases e with
 | normal =>
  obtain ⟨j,h1,h2,h3⟩:=hq
  exact ⟨⟨j,h1⟩,h2,h3⟩
 | _=>exact hq

/-- A slot that holds a nil slice holds a row of ours that has no place yet. -/
theorem WA_nil {Q:Exit → List A → List Blk → Prop} {code:Code} (k:Nat) (ty:TypeId) (sz:Nat) (hk:s[k]? = some .nils)
  (h:fnat m.length fun n=>setF s k (.own n) fun s'=>pushB m (.row ty sz 0 fun _=>[]) fun _ m'=>WA P G code Q s' m'):WA P G code Q s m:=by
 rw [fnat_eq,setF_eq,pushB_eq] at h
 unfold WA at h ⊢
 intro c a w ids hG hs
 have hs1:=hs.grow (Bw.refl _ w) [.row ty sz 0 fun _=>[]] [.virt] rfl (fun i h1 h2=>by
   have:i = 0:=by simp at h1; omega
   subst this; exact rfl) (fun p h=>by simp at h) (fun vs h=>by simp at h) (fun i j p q x h1=>by
   cases i with
   | zero=>simp at h1
   | succ i=>simp at h1)
 have hlt:k < s.length:=by
  rcases Nat.lt_or_ge k s.length with h' | h'
  ·exact h'
  ·rw [List.getElem?_eq_none h'] at hk; cases hk
 have hv:=hs.slots k hlt (by rw [hs.len]; exact hlt)
 have hsk:s[k] = .nils:=by rw [List.getElem?_eq_getElem hlt] at hk; exact Option.some.inj hk
 rw [hsk] at hv
 have hs2:=hs1.reslot k (x:=.own m.length) (by
  rw [Array.getD_eq_getD_getElem?,Array.getElem?_eq_getElem (by rw [hs.len]; exact hlt)]
  simp only [Option.getD_some]
  rw [hv.nils_inv]
  exact .own0 _ (by rw [← hs.mlen]; simp))
 exact h c a w _ hG hs2
end
end Go.Proofs.YtmeohhbdkoeadaaGreat.Am
namespace Go.Proofs.YtmeohhbdkoeadaaGreat.Am
variable [Inhabited DRT]
open Go.RowKit Go.ChangeShapes

section
variable {H:Type} {enc:TypeId × Value → H} {P:Program}
/-- Each argument reads behind the call as it read before. -/
theorem trodAll_below (hl:laidOutB P = true) {W W':World} (hb:Below W.heap.size W W'):∀ (ts:List TypeId) (vs:List Value) (ds:List (DataW H)) (ps:List MemPlace),
  ts.all (fun t=>P.readableRec t && decide (t < P.types.size)) = true → DataW.TrodAll enc P W 0 (fun _=>true) true ts vs ds ps → (∀ x ∈ ps,x.block < W.heap.size) →
  DataW.TrodAll enc P W' 0 (fun b=>decide (b < W.heap.size)) true ts vs ds ps
 | [],vs,ds,ps,_,h,_=>by
  obtain ⟨rfl,rfl,rfl⟩:=trodAll_nil h
  rfl
 | t :: ts,vs,ds,ps,hts,h,hlt=>by
  obtain ⟨v,vs',d,ds',p,q,rfl,rfl,rfl,h1,h2⟩:=trodAll_cons h
  simp only [List.all_cons,Bool.and_eq_true,decide_eq_true_eq] at hts
  exact ⟨p,q,Below.trod hl hts.1.1 hts.1.2 h1 hb (fun x hx=>hlt x (List.mem_append_left _ hx)),trodAll_below hl hb ts vs' ds' q hts.2 h2 (fun x hx=>hlt x (List.mem_append_right _ hx)),rfl⟩

/-- A law that returned true, in a world that is as it was below the heap's old size. -/
theorem post_true {f:Func} {s:ChangeSpec} {apart fresh handsOn:Bool} {W W':World} {args:Array Value} {ds gs:List (DataW H)} {before:List MemPlace} {tb:TypeId}
  (hl:laidOutB P = true) (hv:s.vars = []) (hr:f.resultTypes = #[tb]) (htb:P.underlying tb = some .bool)
  (hts:f.params.toList.all (fun t=>P.readableRec t && decide (t < P.types.size)) = true)
  (hfn:s.fn H (ds ++ gs) = { results:=[.lit (.bool true)],args:=ds })
  (hW:DataW.Whole enc P f.params.toList s.vars apart W args.toList ds gs before) (hb:Below W.heap.size W W') :
  s.post enc P f apart fresh handsOn false W args (.bool true) W':=by
 have hW':=hW
 obtain ⟨p,q,hA,hV,rfl,hz,hn⟩:=hW
 rw [hv] at hV
 obtain ⟨rfl,rfl⟩:=trodVars_none hV
 refine ⟨ds,[],p ++ [],[],p,[],hW',?_,?_,?_,hb.frame _,fun h=>by cases h⟩
 ·rw [hfn,hr]
  exact trodAll_mk1 (shut_bool htb _)
 ·rw [hfn]
  exact trodAll_below hl hb _ _ _ _ hts hA (fun x hx=>hW'.lt x (by simpa using hx))
 ·rw [hfn,hv]; rfl
end

/-- From a contract to a call. -/
theorem calls_true {P:Program} {G:GInv} {f:FuncId} {as : List A} (h:ACalls P G f as (.sb true)) {W:World} {vs:List Value} {im:Nat → Prop} (him:∀ b,im b → b < W.heap.size) (hG:G.G W) (hl:vs.length = as.length)
  (hr:∀ j (h:j < as.length) (h':j < vs.length),RelI im W as[j] vs[j]):Calls P f vs.toArray W fun e W'=>e = .returned (.bool true) ∧ Below W.heap.size W W':=by
 refine Calls_mono (h.2 im W vs him hG hl hr) ?_
 rintro e W' ⟨v,rfl,hv,hb⟩
 cases hv
 exact ⟨rfl,hb.below⟩
end Go.Proofs.YtmeohhbdkoeadaaGreat.Am
namespace Go.Proofs.YtmeohhbdkoeadaaGreat.Am
variable [Inhabited DRT]
open Go.RowKit (Below)

/-- A continuation's argument is one value, whatever is asked of it. -/
def DM (F:(A → Prop) → Prop):Prop:=∀ K,F K ↔ ∃ v,K v ∧ F (fun v'=>v' = v)
theorem DM.val (e:A):DM (fun K=>K e):=fun K=>by simp
theorem DM.fls:DM (fun _=>False):=fun K=>by simp
theorem DM.and {c:Prop} {F:(A → Prop) → Prop} (h:DM F):DM (fun K=>c ∧ F K):=fun K=>by
 constructor
 ·rintro ⟨hc,hF⟩
  obtain ⟨v,h1,h2⟩:=(h K).1 hF
  exact ⟨v,h1,hc,h2⟩
 ·rintro ⟨v,h1,hc,h2⟩
  exact ⟨hc,(h K).2 ⟨v,h1,h2⟩⟩
theorem DM.two {b:Bool} {F F':(A → Prop) → Prop} (h:DM F) (h':DM F'):DM (fun K=>(b = true → F K) ∧ (b = false → F' K)):=fun K=>by
 cases b
 ·simpa using h' K
 ·simpa using h K
theorem DM.ex {α : Type} {p : α → Prop} {F : α → (A → Prop) → Prop} (h:∀ r,DM (F r)):DM (fun K=>∃ r,p r ∧ F r K):=fun K=>by
 constructor
 ·rintro ⟨r,hp,hF⟩
  obtain ⟨v,h1,h2⟩:=(h r K).1 hF
  exact ⟨v,h1,r,hp,h2⟩
 ·rintro ⟨v,h1,r,hp,h2⟩
  exact ⟨r,hp,(h r K).2 ⟨v,h1,h2⟩⟩
theorem DM_ldA (agg:Bool) (size:Nat) (cs:List A) (off:Nat):DM (ldA agg size cs off):=by
 unfold ldA
 cases agg
 ·cases Nat.blt off cs.length
  ·exact DM.fls
  ·simp only [fv_eq]; exact DM.val _
 ·cases Nat.ble (off + size) cs.length
  ·exact DM.fls
  ·simp only [fl_eq]; exact DM.val _
theorem DM_sLoad (tt:TT) (t:TypeId) (p:A) (m:List Blk):DM (fun K=>sLoad tt t p m fun v _=>K v):=by
 unfold sLoad
 cases tt.lookup t with
 | none=>exact DM.fls
 | some ti =>
  cases p <;> simp only <;> first|exact DM.fls|skip
  case ref b off=>cases m.getD b .dead <;> simp only <;> first|exact DM.fls|exact DM_ldA _ _ _ _
  case oref b i off =>
   cases m.getD b .dead <;> simp only <;> first|exact DM.fls|skip
   simp only [fl_eq]; exact DM.and (DM_ldA _ _ _ _)
  case bref cs off=>exact DM_ldA _ _ _ _
theorem DM_sPick (x y z:A):DM (sPick x y z):=by
 unfold sPick
 split
 ·simp only [fv_eq]; exact DM.val _
 ·simp only [fv_eq]; exact DM.val _
 ·simp only [fv_eq]; exact DM.two (DM.val _) (DM.val _)
 ·exact DM.fls
theorem DM_WR (k:IntKind) (n:Int):DM (WR k n):=by
 intro K
 constructor
 ·intro h
  exact ⟨_,WR_inv h,by unfold WR; exact .inr rfl⟩
 ·rintro ⟨v,h1,h2⟩
  unfold WR at h2 ⊢
  rcases h2 with ⟨h2,h3⟩ | h3
  ·subst h3; exact .inl ⟨h2,h1⟩
  ·subst h3; exact .inr h1
theorem DM_sBinInt (op:BinOp) (k:IntKind) (a b:Int):DM (sBinInt op k a b):=by
 unfold sBinInt
 cases op <;> simp only <;> first|exact DM.fls|exact DM.val _|exact DM_WR _ _|exact DM.and (DM_WR _ _)|exact DM.and (DM.val _)
theorem DM_sBinStr (op:BinOp) (a b:List UInt8):DM (sBinStr op a b):=by
 unfold sBinStr
 cases op <;> simp only <;> first|exact DM.fls|exact DM.val _|exact DM.and (DM.val _)
theorem DM_sShift (op:BinOp) (k:IntKind) (a b:Int):DM (sShift op k a b):=by
 unfold sShift
 cases op <;> simp only <;> first|exact DM.fls|exact DM.val _|exact DM.and (DM_WR _ _)|exact DM.and (DM.val _)
theorem DM_sEq:∀ (sh:List Nat) (cs cs':List A) (g:Bool → A),DM (fun K=>sEq sh cs cs' fun r=>K (g r))
 | [],[],[],g=>by unfold sEq; exact DM.val _
 | k :: ks,x :: xs,y :: ys,g=>by
  have ih:=fun g=>DM_sEq ks xs ys g
  unfold sEq
  split
  ·cases x <;> cases y <;> simp only <;> first|exact DM.fls|skip
   rename_i p a q b
   cases kindEq p q <;> simp only
   ·exact DM.fls
   ·exact ih fun r=>g (a == b && r)
  ·cases asB x <;> cases asB y <;> simp only <;> first|exact DM.fls|skip
   rename_i a b
   exact ih fun r=>g (a == b && r)
  ·cases x <;> cases y <;> simp only <;> first|exact DM.fls|skip
   rename_i a b
   exact ih fun r=>g (a == b && r)
  ·exact DM.fls
 | [],[],_ :: _,_=>by unfold sEq; exact DM.fls
 | [],_ :: _,_,_=>by unfold sEq; exact DM.fls
 | _ :: _,[],_,_=>by unfold sEq; exact DM.fls
 | _ :: _,_ :: _,[],_=>by unfold sEq; exact DM.fls
theorem DM_sUn (op:UnOp) (x:A):DM (sUn op x):=by
 unfold sUn
 cases op <;> cases x <;> simp only <;> first|exact DM.fls|exact DM.val _|exact DM_WR _ _
theorem DM_sLen (tt:TT) (t:TypeId) (x:A) (m:List Blk):DM (sLen tt t x m):=by
 unfold sLen
 cases tt.lookup t with
 | none=>exact DM.fls
 | some ti =>
  simp only
  split <;> first|exact DM.fls|exact DM.val _|skip
  split <;> first|exact DM.fls|exact DM.val _
theorem DM_sExtract (x:A) (ix:Nat):DM (sExtract x ix):=by
 unfold sExtract
 cases x <;> simp only <;> first|exact DM.fls|skip
 rename_i vs
 cases Nat.blt ix vs.length <;> simp only [fv_eq] <;> first|exact DM.fls|exact DM.val _
theorem DM_sNil (x:A):DM (sNil x):=by
 unfold sNil
 cases x <;> simp only <;> first|exact DM.fls|exact DM.val _
theorem DM_sConv (tt:TT) (src dst:TypeId) (x:A):DM (sConv tt src dst x):=by
 unfold sConv
 split <;> first|exact DM.fls|skip
 split <;> first|exact DM.fls|exact DM.val _|(simp only [fik_eq];exact DM_WR _ _)
theorem DM_sIndex (tt:TT) (t:TypeId) (x ix:A):DM (sIndex tt t x ix):=by
 unfold sIndex
 split <;> first|exact DM.fls|skip
 split <;> first|exact DM.fls|exact DM.and (DM.val _)|skip
 split <;> first|exact DM.fls|exact DM.and (DM_ldA _ _ _ _)
theorem DM_sField (tt:TT) (t:TypeId) (x:A) (f:Nat):DM (sField tt t x f):=by
 unfold sField
 split <;> first|exact DM.fls|skip
 split <;> first|exact DM.fls|skip
 split <;> first|exact DM.fls|exact DM_ldA _ _ _ _
theorem DM_bnd {x:Option A} {d y:Nat} {F:Nat → (A → Prop) → Prop} (h:∀ n,DM (F n)):DM (fun K=>bnd x d y fun n=>F n K):=by
 unfold bnd
 split
 ·exact h _
 ·split <;> first|exact DM.fls|exact DM.and (h _)
theorem DM_sSlice (tt:TT) (t:TypeId) (x:A) (lo hi:Option A):DM (sSlice tt t x lo hi):=by
 unfold sSlice
 split <;> first|exact DM.fls|skip
 split <;> first|exact DM.fls|exact DM_bnd fun _=>DM_bnd fun _=>DM.val _|skip
 split <;> first|exact DM.fls|exact DM_bnd fun _=>DM_bnd fun _=>DM.val _
theorem DM_sBin (tt:TT) (t:TypeId) (op:BinOp) (x y:A):DM (sBin tt t op x y):=by
 unfold sBin
 split
 ·split
  ·exact DM_sShift _ _ _ _
  ·split
   ·exact DM_sBinInt _ _ _ _
   ·exact DM.fls
 ·exact DM_sBinStr _ _ _
 ·split
  ·split
   ·exact DM_sEq _ _ _ _
   ·exact DM_sEq _ _ _ (fun r=>.sb !r)
   ·exact DM.fls
  ·exact DM.fls
 ·split
  ·split
   ·split <;> first|exact DM.fls|exact DM.val _
   ·exact DM.fls
  ·split
   ·split <;> first|exact DM.fls|exact DM.val _
   ·exact DM.fls
theorem DM_mnL:∀ (ys:List A) (x:A),DM (mnL x ys)
 | [],x=>by
  have:mnL x [] = fun K=>K x:=by funext K; simp only [mnL,fv_eq]
  rw [this]; exact DM.val _
 | y :: ys,x=>by
  have:mnL x (y :: ys) = fun K=>mn2 x y fun v=>mnL v ys K:=by funext K; simp only [mnL]
  rw [this]; unfold mn2
  cases x <;> cases y <;> simp only <;> first|exact DM.fls|exact DM_mnL ys _
theorem DM_mxL:∀ (ys:List A) (x:A),DM (mxL x ys)
 | [],x=>by
  have:mxL x [] = fun K=>K x:=by funext K; simp only [mxL,fv_eq]
  rw [this]; exact DM.val _
 | y :: ys,x=>by
  have:mxL x (y :: ys) = fun K=>mx2 x y fun v=>mxL v ys K:=by funext K; simp only [mxL]
  rw [this]; unfold mx2
  cases x <;> cases y <;> simp only <;> first|exact DM.fls|exact DM_mxL ys _
theorem DM_bldF (ti:TI):∀ (ps:List (Nat × A)) (cs:List A),DM (fun K=>bldF ti ps cs fun cs=>K (.agg cs))
 | [],cs=>by unfold bldF; exact DM.val _
 | (i,v) :: ps,cs=>by
  unfold bldF
  split <;> first|exact DM.fls|skip
  split <;> first|exact DM.fls|skip
  simp only [fl_eq]; exact DM_bldF ti ps _
theorem DM_sBuild (tt:TT) (t:TypeId) (ps:List (Nat × A)) (m:List Blk):DM (fun K=>sBuild tt t ps m fun v _=>K v):=by
 unfold sBuild
 cases tt.lookup t with
 | none=>exact DM.fls
 | some ti =>
  simp only
  split <;> first|exact DM.fls|exact DM_bldF ti _ _
theorem DM_sFieldAddr (tt:TT) (t:TypeId) (p:A) (f:Nat) (m:List Blk):DM (fun K=>sFieldAddr tt t p f m fun v _=>K v):=by
 unfold sFieldAddr
 cases tt.lookup t with
 | none=>exact DM.fls
 | some ti =>
  simp only
  split <;> first|exact DM.fls|skip
  split <;> first|exact DM.fls|skip
  split <;> first|exact DM.fls|(simp only [fnat_eq];exact DM.val _)
theorem DM_sIndexAddr (tt:TT) (t:TypeId) (p ix:A) (m:List Blk):DM (fun K=>sIndexAddr tt t p ix m fun v _=>K v):=by
 unfold sIndexAddr
 cases tt.lookup t with
 | none=>exact DM.fls
 | some ti =>
  simp only
  split
  ·split
   ·split
    ·simp only [fl_eq]; exact DM.and (DM.val _)
    ·exact DM.fls
   ·split
    ·split
     ·exact DM.and (DM.val _)
     ·exact DM.fls
    ·exact DM.fls
   ·exact DM.fls
  ·split
   ·simp only [fnat_eq]; exact DM.and (DM.val _)
   ·simp only [fnat_eq]; exact DM.and (DM.val _)
   ·exact DM.fls
  ·exact DM.fls
end Go.Proofs.YtmeohhbdkoeadaaGreat.Am
namespace Go.Proofs.YtmeohhbdkoeadaaGreat.Am
variable [Inhabited DRT]
open Go.RowKit (Below)

structure Oc where
 v:A
 u:List (Nat × Blk)
 rd:List Nat
abbrev KV:=A → List (Nat × Blk) → List Nat → Prop
def updB (m:List Blk):List (Nat × Blk) → List Blk
 | []=>m
 | (b,x) :: l=>(updB m l).set b x
def updF (m:List Blk):List (Nat × Blk) → (List Blk → Prop) → Prop
 | [],K=>K m
 | (b,x) :: l,K=>updF m l fun m'=>setB m' b x K
theorem updF_eq (m:List Blk):∀ (u:List (Nat × Blk)) (K:List Blk → Prop),updF m u K = K (updB m u)
 | [],K=>rfl
 | (b,x) :: l,K=>by rw [updF,updF_eq m l,setB_eq]; rfl

/-- The blocks that are read through a value; none: it may not be said. -/
def rdLs (g:A → Option (List Nat)):List A → Option (List Nat)
 | []=>some []
 | x :: xs=>match g x,rdLs g xs with
  | some l,some r=>some (l ++ r)
  | _,_=>none
def rdA (m:List Blk):Nat → A → Option (List Nat)
 | 0,_=>none
 | d + 1,x=>match x with
  | .ref b _=>match m.getD b .dead with
   | .box _ cs=>match rdLs (rdA m d) cs with
    | some l=>some (b :: l)
    | none=>none
   | _=>none
  | .oref _ _ _=>none
  | .own b=>match m.getD b .dead with
   | .row _ _ _ _=>some [b]
   | _=>none
  | .omap b=>match m.getD b .dead with
   | .mapb _ _ _ _=>some [b]
   | _=>none
  | .agg cs=>rdLs (rdA m d) cs
  | .tup cs=>rdLs (rdA m d) cs
  | .fn _ cs=>rdLs (rdA m d) cs
  | _=>some []
def rd1:A → List Nat
 | .ref b _=>[b]
 | .oref b _ _=>[b]
 | .own b=>[b]
 | .osl b _=>[b]
 | _=>[]
def quiet:Op → Bool
 | .move _=>true
 | .assign _=>true
 | .pick _ _ _=>true
 | .build _ _=>true
 | .load _ _=>true
 | .nilCheck _=>true
 | .binOp _ _ _ _ _=>true
 | .unOp _ _ _=>true
 | .convert _ _ _=>true
 | .makeFunc _ _ _=>true
 | .fieldAddr _ _ _=>true
 | .indexAddr _ _ _=>true
 | .index _ _ _=>true
 | .field _ _ _=>true
 | .extract _ _=>true
 | .slice _ _ _ _ none=>true
 | .call { callee:=.builtin .len,.. }=>true
 | .call { callee:=.builtin .min,.. }=>true
 | .call { callee:=.builtin .max,.. }=>true
 | .call { callee:=.value _,.. }=>true
 | _=>false
def callRd (m:List Blk) (f:A) (as : List A):Option (List Nat) :=
 match f with
 | .fn _ cap=>rdLs (rdA m 5) (as ++ cap)
 | _=>none
def rdOp (o:Op) (s:List A) (m:List Blk):Option (List Nat) :=
 match o with
 | .load _ x=>some (rd1 (ev s x))
 | .indexAddr _ x _=>some (rd1 (ev s x))
 | .call { callee:=.builtin .len,args,.. }=>match args.toList with
  | [x]=>some (rd1 (ev s x))
  | _=>none
 | .call { callee:=.value f,args,.. }=>callRd m (ev s f) (args.toList.map (ev s))
 | _=>some []
/-- A place that is kept for a new block. -/
def freeAt (m:List Blk) (aid:Nat) (X:Prop):Prop :=
 match m.getD aid .dead,Nat.blt aid m.length with
 | .dead,true=>X
 | _,_=>False
def stepQ (P:Program) (G:GInv) (tt:TT) (o:Oper) (s:List A) (m:List Blk) (K:KV):Prop :=
 match quiet o.op,rdOp o.op s m with
 | true,some rd=>step P G tt o s m fun v _=>K v [] rd
 | _,_=>False
def dAlloc (tt:TT) (t:TypeId) (aid:Nat) (m:List Blk) (K:KV):Prop :=
 match tt.lookup t with
 | some ti=>freeAt m aid (K (.ref aid 0) [(aid,.box t ti.zero)] [aid])
 | none=>False
def dBox (t:TypeId) (x:A) (aid:Nat) (m:List Blk) (K:KV):Prop :=
 match cellsA x with
 | some cs=>freeAt m aid (K (.ref aid 0) [(aid,.box t cs)] [aid])
 | none=>False
/-- Of slices: a row of them is a value from the start. -/
def anySl:List A → Bool
 | []=>false
 | .sl _ _ _ :: _=>true
 | _ :: cs=>anySl cs
def dBuildSl (tt:TT) (t:TypeId) (len:Nat) (ps:List (Nat × A)) (aid:Nat) (m:List Blk) (K:KV):Prop :=
 match tt.lookup t with
 | some ti=>match ti.kind,tt.lookup ti.ety,Nat.ble (len * ti.esz) 1000000 with
  | 3,some te,true=>bldF ti ps (zer te.zero len) fun cs=>match cs.any (hasOwn 4),Nat.beq cs.length (len * ti.esz) with
   | false,true=>match anySl cs with
    | false=>freeAt m aid (fnat ti.ety fun ety=>fnat ti.esz fun esz=>K (.own aid) [(aid,.row ety esz len fun i=>takeL esz (cs.drop (i * esz)))] [aid])
    | true=>fnat ti.esz fun esz=>K (.sl len esz fun i=>takeL esz (cs.drop (i * esz))) [] []
   | _,_=>False
  | _,_,_=>False
 | none=>False
def dMake (tt:TT) (t:TypeId) (l k:A) (aid:Nat) (m:List Blk) (K:KV):Prop :=
 match tt.lookup t,l,k with
 | some ti,.int _ l,.int _ k=>match ti.kind,tt.lookup ti.ety with
  | 3,some te=>fnat ti.ebytes fun eb=>fnat ti.ety fun ety=>fnat ti.esz fun esz=>fl te.zero fun z=>(0 ≤ l ∧ l ≤ k ∧ k ≤ 140737488355328 ∧ k * (eb:Int) ≤ 140737488355328) ∧ freeAt m aid (K (.own aid) [(aid,.row ety esz l.toNat fun _=>z)] [aid])
  | _,_=>False
 | _,_,_=>False
def dApp (tt:TT) (t:TypeId) (x y:A) (aid:Nat) (m:List Blk) (K:KV):Prop :=
 match tt.lookup t with
 | none=>False
 | some ti=>match ti.kind,vrow m ti.esz y with
  | 3,some (n2,row2)=>match x with
   | .own b=>match m.getD b .dead with
    | .row ty sz n row=>match Nat.beq sz ti.esz,Nat.beq ty ti.ety with
     | true,true=>fnat ti.ebytes fun eb=>(n + n2 ≤ 140737488355328 ∧ (n + n2) * eb ≤ 140737488355328) ∧ freeAt m aid (K (.own aid) [(aid,.row ty sz (n + n2) (rowCat n row row2)),(b,.gone)] (aid :: b :: rd1 y))
     | _,_=>False
    | _=>False
   | _=>False
  | _,_=>False
def dTake (tt:TT) (t:TypeId) (b i off:Nat) (ty ety:TypeId) (sz n:Nat) (hole:Option Nat) (len:Nat → Nat) (row:Nat → Nat → List A) (aid:Nat) (m:List Blk) (K:KV):Prop :=
 match tt.lookup t with
 | none=>False
 | some ti=>match ti.kind,Nat.beq ti.ety ety,Nat.beq ti.esz sz,hole,off with
  | 3,true,true,none,0=>i < n ∧ freeAt m aid (K (.own aid) [(aid,.row ety sz (len i) (row i)),(b,.nest ty ety sz n (some i) len row)] [aid,b])
  | _,_,_,_,_=>False
def dLoad (P:Program) (G:GInv) (tt:TT) (o:Oper) (t:TypeId) (x:A) (aid:Nat) (s:List A) (m:List Blk) (K:KV):Prop :=
 match x with
 | .oref b i off=>match m.getD b .dead with
  | .nest ty ety sz n hole len row=>dTake tt t b i off ty ety sz n hole len row aid m K
  | _=>stepQ P G tt o s m K
 | _=>stepQ P G tt o s m K
def dIdx (P:Program) (G:GInv) (tt:TT) (o:Oper) (t:TypeId) (x i:A) (s:List A) (m:List Blk) (K:KV):Prop :=
 match x with
 | .own b=>match m.getD b .dead with
  | .nest _ _ _ n _ _ _=>match tt.lookup t,i with
   | some ti,.int _ ix=>match ti.kind,Nat.beq ti.esz 1 with
    | 3,true=>(0 ≤ ix ∧ ix < (n:Int)) ∧ K (.oref b ix.toNat 0) [] [b]
    | _,_=>False
   | _,_=>False
  | _=>stepQ P G tt o s m K
 | _=>stepQ P G tt o s m K
def dPut (tt:TT) (t:TypeId) (b i off:Nat) (y:A) (ty ety:TypeId) (sz n:Nat) (hole:Option Nat) (len:Nat → Nat) (row:Nat → Nat → List A) (m:List Blk) (K:KV):Prop :=
 match off,y,tt.lookup t,hole with
 | 0,.own b',some ti,some j=>match Nat.beq ti.size 1,m.getD b' .dead,Nat.beq b b' with
  | true,.row ety' sz' n' row',false=>match Nat.beq ety' ety,Nat.beq sz' sz with
   | true,true=>(i = j ∧ i < n) ∧ K .junk [(b',.gone),(b,.nest ty ety sz n none (updN len j n') (updN row j row'))] [b',b]
   | _,_=>False
  | _,_,_=>False
 | _,_,_,_=>False
def dStore (tt:TT) (t:TypeId) (x y:A) (m:List Blk) (K:KV):Prop :=
 match tt.lookup t,x with
 | some ti,.ref b off=>match m.getD b .dead with
  | .box ty cs=>stA ti.size cs off y fun cs'=>K .junk [(b,.box ty cs')] [b]
  | _=>False
 | some ti,.oref b i off=>match m.getD b .dead with
  | .row ty sz n row=>match hasOwn 4 y with
   | false=>i < n ∧ fl (row i) fun cs=>stA ti.size cs off y fun cs'=>K .junk [(b,.row ty sz n (updRow row i cs'))] [b]
   | true=>False
  | .nest ty ety sz n hole len row=>dPut tt t b i off y ty ety sz n hole len row m K
  | _=>False
 | _,_=>False
def rangeN:Nat → Nat → List Nat
 | 0,_=>[]
 | n + 1,k=>k :: rangeN n (k + 1)
def zipU:Nat → List Blk → List (Nat × Blk)
 | _,[]=>[]
 | k,x :: xs=>(k,x) :: zipU (k + 1) xs
def freeL (m:List Blk):Nat → List Blk → Prop → Prop
 | _,[],X=>X
 | k,_ :: xs,X=>freeAt m k (freeL m (k + 1) xs X)
def dCallN (P:Program) (G:GInv) (f:A) (args:List A) (aid:Nat) (m:List Blk) (K:KV):Prop :=
 callN P G f args aid fun r' mo'=>freeL m aid mo' (K r' (zipU aid mo') (rangeN mo'.length aid))
/-! Maps -/
def rdM:A → List Nat
 | .omap b=>[b]
 | _=>[]
def dLook (tt:TT) (t:TypeId) (x key:A) (ok:Bool) (m:List Blk) (K:KV):Prop:=sLook tt t x key ok m fun v=>K v [] (rdM x)
def dUpd (tt:TT) (t:TypeId) (x key v:A) (m:List Blk) (K:KV):Prop :=
 mapTy tt t fun agg sh _=>match keyA agg sh key,x,hasOwn 4 v with
  | some k,.omap b,false=>match m.getD b .dead with
   | .mapb agg' sh' has val=>match boolEq agg agg',ksEq sh sh' with
    | true,true=>fd 4 v fun v'=>K .junk [(b,.mapb agg' sh' (putH has k true) (putV val k v'))] [b]
    | _,_=>False
   | _=>False
  | _,_,_=>False
def dDel (tt:TT) (t:TypeId) (x key:A) (m:List Blk) (K:KV):Prop :=
 mapTy tt t fun agg sh _=>match keyA agg sh key,x with
  | some k,.omap b=>match m.getD b .dead with
   | .mapb agg' sh' has val=>match boolEq agg agg',ksEq sh sh' with
    | true,true=>K (.tup []) [(b,.mapb agg' sh' (putH has k false) val)] [b]
    | _,_=>False
   | _=>False
  | _,_=>False
def dMkMap (tt:TT) (t:TypeId) (aid:Nat) (m:List Blk) (K:KV):Prop :=
 mapTy tt t fun agg sh _=>freeAt m aid (K (.omap aid) [(aid,.mapb agg sh (fun _=>false) (fun _=>.junk))] [aid])
def dEnt (tt:TT) (t:TypeId) (x key:A) (m:List Blk) (K:KV):Prop :=
 mapTy tt t fun agg sh _=>match keyA agg sh key,x with
  | some k,.omap b=>match m.getD b .dead with
   | .mapx agg' sh' has val=>match boolEq agg agg',ksEq sh sh' with
    | true,true=>K (.tup [.junk,.ent b k]) [(b,.mapx agg' sh' (putH has k true) (putV val k .junk))] [b]
    | _,_=>False
   | _=>False
  | _,_=>False
def dESt (x st v:A) (m:List Blk) (K:KV):Prop :=
 match x,st,hasOwn 4 v with
 | .omap b,.ent b' k,false=>match Nat.beq b b',m.getD b .dead with
  | true,.mapx agg sh has val=>fd 4 v fun v'=>K .junk [(b,.mapx agg sh has (putV val k v'))] [b]
  | _,_=>False
 | _,_,_=>False
def dOwnSl (tt:TT) (t:TypeId) (b:Nat) (hi:Option A) (aid:Nat) (m:List Blk) (K:KV):Prop :=
 match tt.lookup t with
 | some ti=>match ti.kind,m.getD b .dead with
  | 3,.row ty sz n row=>bnd hi n n fun h=>freeAt m aid (K (.own aid) [(aid,.row ty sz h row),(b,.gone)] [aid,b])
  | _,_=>False
 | none=>False
def dSl (P:Program) (G:GInv) (tt:TT) (o:Oper) (t:TypeId) (x:A) (lo hi:Option A) (aid:Nat) (s:List A) (m:List Blk) (K:KV):Prop :=
 match x,lo with
 | .own b,none=>dOwnSl tt t b hi aid m K
 | _,_=>stepQ P G tt o s m K
def stepV (P:Program) (G:GInv) (tt:TT) (o:Oper) (aid:Nat) (s:List A) (m:List Blk) (K:KV):Prop :=
 match o.op with
 | .mapEntry t x k=>dEnt tt t (ev s x) (ev s k) m K
 | .entryStore _ x st v=>dESt (ev s x) (ev s st) (ev s v) m K
 | .slice t x lo hi none=>dSl P G tt o t (ev s x) (evO s lo) (evO s hi) aid s m K
 | .lookup t x k ok=>dLook tt t (ev s x) (ev s k) ok m K
 | .mapUpdate t x k v=>dUpd tt t (ev s x) (ev s k) (ev s v) m K
 | .insert t x k v=>dUpd tt t (ev s x) (ev s k) (ev s v) m K
 | .makeMap t none=>dMkMap tt t aid m K
 | .call { callee:=.builtin .delete,args,argTypes }=>match args.toList,argTypes.toList with
  | [x,k],[t,_]=>dDel tt t (ev s x) (ev s k) m K
  | _,_=>False
 | .alloc t=>dAlloc tt t aid m K
 | .box t x=>dBox t (ev s x) aid m K
 | .buildSlice t len ps=>dBuildSl tt t len (ps.toList.map fun p=>(p.1,ev s p.2)) aid m K
 | .makeSlice t l k=>dMake tt t (ev s l) (ev s k) aid m K
 | .call { callee:=.builtin .append,args,argTypes }=>match args.toList,argTypes.toList with
  | [x,y],[t,t']=>match Nat.beq t' t with
   | true=>dApp tt t (ev s x) (ev s y) aid m K
   | false=>False
  | _,_=>False
 | .call { callee:=.value f,args,.. }=>stepQ P G tt o s m K ∨ dCallN P G (ev s f) (args.toList.map (ev s)) aid m K
 | .load t x=>dLoad P G tt o t (ev s x) aid s m K
 | .indexAddr t x i=>dIdx P G tt o t (ev s x) (ev s i) s m K
 | .store t x y=>dStore tt t (ev s x) (ev s y) m K
 | _=>stepQ P G tt o s m K

section
variable {c:Ctx} {s s2:List A} {m m2:List Blk} {a:Act} {w w':World} {ids ids':Ids} {P:Program} {im im':Nat → Prop} {tt:TT} {G:GInv}
variable {next:Act → World → Prop} {Q:Exit → Act → World → Prop} {o:Oper}

theorem step_m (hq:quiet o.op = true) {K:KT}:step P G tt o s m K = step P G tt o s m fun v _=>K v m:=by
 unfold step
 split <;> first|rfl|exact sLoad_m|exact sBuild_m|exact sFieldAddr_m|exact sIndexAddr_m|exact sCall_m|skip
 all_goals (rename_i ho; rw [ho] at hq; cases hq)

theorem DM_sCall (f:A) (as : List A):DM (fun K=>sCall P G f as m fun v _=>K v):=by
 unfold sCall
 split <;> first|exact DM.fls|skip
 simp only [fdl_eq,fd_eq]
 split
 ·exact DM.ex fun r=>DM.val _
 ·exact DM.ex fun r=>DM.and (DM.val _)
theorem DM_step (hq:quiet o.op = true):DM (fun K=>step P G tt o s m fun v _=>K v):=by
 unfold step
 split <;> first|(split <;> first|exact DM_sSlice _ _ _ _ _|exact DM.fls;done)|exact DM_sLoad _ _ _ _|exact DM_sBuild _ _ _ _|exact DM_sFieldAddr _ _ _ _ _|exact DM_sIndexAddr _ _ _ _ _|exact DM_sCall _ _|exact DM_sPick _ _ _|exact DM_sBin _ _ _ _ _|exact DM_sUn _ _|exact DM_sConv _ _ _ _|exact DM_sIndex _ _ _ _|exact DM_sField _ _ _ _|exact DM_sExtract _ _|exact DM_sNil _|exact DM_sSlice _ _ _ _ _|exact DM.fls|skip
 ·simp only [fv_eq]; exact DM.val _
 ·simp only [fv_eq]; exact DM.val _
 ·rename_i ho; rw [ho] at hq; cases hq
 ·rename_i ho; rw [ho] at hq; cases hq
 ·rename_i ho; rw [ho] at hq; cases hq
 ·split <;> first|exact DM.fls|exact DM.val _
 ·split <;> first|exact DM.fls|exact DM_sLen _ _ _ _
 ·split <;> first|exact DM.fls|exact DM_mnL _ _
 ·split <;> first|exact DM.fls|exact DM_mxL _ _

/-- What is asked of a continuation is asked of one outcome. -/
def DK (F:KV → Prop):Prop:=∀ K,F K → ∃ r:Oc,K r.v r.u r.rd ∧ F (fun v u rd=>v = r.v ∧ u = r.u ∧ rd = r.rd)
theorem DK.val (v:A) (u:List (Nat × Blk)) (rd:List Nat):DK (fun K=>K v u rd):=fun _ h=>⟨⟨v,u,rd⟩,h,rfl,rfl,rfl⟩
theorem DK.fls:DK (fun _=>False):=fun _ h=>h.elim
theorem DK.and {p:Prop} {F:KV → Prop} (h:DK F):DK (fun K=>p ∧ F K):=fun K hk=>by
 obtain ⟨r,h1,h2⟩:=h K hk.2
 exact ⟨r,h1,hk.1,h2⟩
theorem DK.or {F F':KV → Prop} (h:DK F) (h':DK F'):DK (fun K=>F K ∨ F' K):=fun K hk=>by
 rcases hk with hk | hk
 ·obtain ⟨r,h1,h2⟩:=h K hk; exact ⟨r,h1,.inl h2⟩
 ·obtain ⟨r,h1,h2⟩:=h' K hk; exact ⟨r,h1,.inr h2⟩
theorem DK.free {F:KV → Prop} {aid:Nat} (h:DK F):DK (fun K=>freeAt m aid (F K)):=fun K hk=>by
 unfold freeAt at hk ⊢
 split at hk
 ·exact h K hk
 ·exact hk.elim
theorem DK.freeL {F:KV → Prop} (h:DK F):∀ (xs:List Blk) (aid:Nat),DK (fun K=>freeL m aid xs (F K))
 | [],_=>h
 | _ :: xs,aid=>DK.free (DK.freeL h xs (aid + 1))
theorem DK.ofDM {F:(A → Prop) → Prop} {rd:List Nat} (h:DM F):DK (fun K=>F fun v=>K v [] rd):=fun K hk=>by
 obtain ⟨v,h1,h2⟩:=(h _).1 hk
 exact ⟨⟨v,[],rd⟩,h1,(h _).2 ⟨v,by simp,h2⟩⟩
theorem bldF_ex {ti:TI}:∀ (ps:List (Nat × A)) (cs:List A) {K:List A → Prop},bldF ti ps cs K → ∃ cs',K cs' ∧ ∀ K':List A → Prop,K' cs' → bldF ti ps cs K'
 | [],cs,K,h=>⟨cs,h,fun _ h'=>h'⟩
 | (i,v) :: ps,cs,K,h=>by
  simp only [bldF] at h ⊢
  split at h
  ·rename_i off size vs hp hc
   split at h
   ·rename_i e1 e2
    rw [fl_eq] at h
    obtain ⟨cs',h1,h2⟩:=bldF_ex ps _ h
    refine ⟨cs',h1,fun K' h'=>?_⟩
    simp only [e1,e2,fl_eq]
    exact h2 K' h'
   ·exact h.elim
  ·exact h.elim


theorem DK_stepQ:DK (stepQ P G tt o s m):=by
 unfold stepQ
 split
 ·rename_i rd hq hr
  exact DK.ofDM (DM_step (P:=P) (G:=G) (tt:=tt) (s:=s) (m:=m) hq)
 ·exact DK.fls
theorem DK_stA {size:Nat} {cs:List A} {off:Nat} {y:A} {F:List A → KV → Prop} (h:∀ cs',DK (F cs')):DK (fun K=>stA size cs off y fun cs'=>F cs' K):=fun K hk=>by
 obtain ⟨vs,g1,g2,g3,g4⟩:=stA_inv hk
 obtain ⟨r,h1,h2⟩:=h _ K g4
 refine ⟨r,h1,?_⟩
 simp only
 unfold stA
 simp only [g1,g2,fl_eq]
 have e2:Nat.ble (off + size) cs.length = true:=Nat.ble_eq_true_of_le g3
 simp only [e2,Nat.beq_refl]
 exact h2
theorem DK_callN {f:A} {as : List A} {aid:Nat} {F:A → List Blk → KV → Prop} (h:∀ r mo,DK (F r mo)):DK (fun K=>callN P G f as aid fun r mo=>F r mo K):=fun K hk=>by
 unfold callN at hk ⊢
 split at hk
 ·rw [fdl_eq] at hk
  simp only [fdl_eq]
  split at hk
  ·rename_i hown
   obtain ⟨r,mo,hc,hk⟩:=hk
   split at hk
   ·rename_i hng
    rw [fd_eq,fbs_eq] at hk
    obtain ⟨x,h1,h2⟩:=h _ _ K hk
    refine ⟨x,h1,?_⟩
    refine ⟨r,mo,hc,?_⟩
    simp only [hng,fd_eq,fbs_eq]
    exact h2
   ·exact hk.elim
  ·exact hk.elim
 ·exact hk.elim
theorem mapTy_ex {t:TypeId} {F:Bool → List KS → A → Prop} (h:mapTy tt t F):∃ agg sh z,F agg sh z ∧ ∀ F':Bool → List KS → A → Prop,F' agg sh z → mapTy tt t F':=by
 unfold mapTy at h ⊢
 split at h
 ·exact h.elim
 ·rename_i ti hti
  split at h
  ·rename_i tk te hk htk hte
   split at h
   ·rename_i ns sh hns hsh
    split at h
    ·rename_i hok hlen
     simp only [fB_eq] at h ⊢
     split at h
     ·rename_i ha
      rw [fl_eq] at h
      refine ⟨_,_,_,h,fun F' h'=>?_⟩
      simp only [hk,htk,hte,hns,hsh,hok,hlen,ha,fl_eq]; exact h'
     ·rename_i ha
      split at h
      ·rename_i z hz
       rw [fv_eq] at h
       refine ⟨_,_,_,h,fun F' h'=>?_⟩
       simp only [hk,htk,hte,hns,hsh,hok,hlen,ha,hz,fv_eq]; exact h'
      ·exact h.elim
    ·exact h.elim
   ·exact h.elim
  ·exact h.elim
theorem DM_sLook (t:TypeId) (x key:A) (ok:Bool):DM (sLook tt t x key ok m):=by
 have hl:∀ z k has val,DM (lookR z k ok has val):=by
  intro z k has val
  unfold lookR
  cases ok <;> simp only [fd_eq] <;> exact DM.two (DM.val _) (DM.val _)
 have hg:∀ agg sh z k agg' sh' has val,DM (lookG agg sh z k ok agg' sh' has val):=by
  intro agg sh z k agg' sh' has val
  unfold lookG
  split <;> first|exact hl _ _ _ _|exact DM.fls
 intro K
 constructor
 ·intro h
  unfold sLook at h
  obtain ⟨agg,sh,z,h1,h2⟩:=mapTy_ex h
  split at h1
  ·exact h1.elim
  ·rename_i k hk
   split at h1
   ·obtain ⟨v,g1,g2⟩:=(hg _ _ _ _ _ _ _ _ K).1 h1
    exact ⟨v,g1,by unfold sLook; refine h2 _ ?_; rw [hk]; exact g2⟩
   ·rename_i b
    split at h1
    ·rename_i hb
     obtain ⟨v,g1,g2⟩:=(hg _ _ _ _ _ _ _ _ K).1 h1
     exact ⟨v,g1,by unfold sLook; refine h2 _ ?_; simp only [hk,hb]; exact g2⟩
    ·exact h1.elim
   ·cases ok
    ·exact ⟨_,h1,by unfold sLook; refine h2 _ ?_; rw [hk]⟩
    ·exact ⟨_,h1,by unfold sLook; refine h2 _ ?_; rw [hk]⟩
   ·exact h1.elim
 ·rintro ⟨v,g1,h⟩
  unfold sLook at h ⊢
  obtain ⟨agg,sh,z,h1,h2⟩:=mapTy_ex h
  refine h2 _ ?_
  split at h1
  ·exact h1.elim
  ·rename_i k hk
   split at h1
   ·exact (hg _ _ _ _ _ _ _ _ K).2 ⟨v,g1,h1⟩
   ·rename_i b
    split at h1
    ·rename_i hb
     exact (hg _ _ _ _ _ _ _ _ K).2 ⟨v,g1,h1⟩
    ·exact h1.elim
   ·cases ok
    ·simp only at h1 ⊢; rw [h1]; exact g1
    ·simp only at h1 ⊢; rw [h1]; exact g1
   ·exact h1.elim
theorem DK_dUpd {t:TypeId} {x key v:A}:DK (dUpd tt t x key v m):=fun K h=>by
 unfold dUpd at h
 obtain ⟨agg,sh,z,h1,h2⟩:=mapTy_ex h
 split at h1
 ·rename_i k b hk hown
  split at h1
  ·rename_i hb
   split at h1
   ·rename_i g1 g2
    rw [fd_eq] at h1
    refine ⟨⟨_,_,_⟩,h1,?_⟩
    unfold dUpd
    refine h2 _ ?_
    simp only [hk,hown,hb,g1,g2,fd_eq]; exact ⟨trivial,trivial,trivial⟩
   ·exact h1.elim
  ·exact h1.elim
 ·exact h1.elim
theorem DK_dDel {t:TypeId} {x key:A}:DK (dDel tt t x key m):=fun K h=>by
 unfold dDel at h
 obtain ⟨agg,sh,z,h1,h2⟩:=mapTy_ex h
 split at h1
 ·rename_i k b hk
  split at h1
  ·rename_i hb
   split at h1
   ·rename_i g1 g2
    refine ⟨⟨_,_,_⟩,h1,?_⟩
    unfold dDel
    refine h2 _ ?_
    simp only [hk,hb,g1,g2]; exact ⟨trivial,trivial,trivial⟩
   ·exact h1.elim
  ·exact h1.elim
 ·exact h1.elim
theorem DK_dMkMap {t:TypeId} {aid:Nat}:DK (dMkMap tt t aid m):=fun K h=>by
 unfold dMkMap at h
 obtain ⟨agg,sh,z,h1,h2⟩:=mapTy_ex h
 obtain ⟨r,h3,h4⟩:=DK.free (DK.val _ _ _) _ h1
 exact ⟨r,h3,by unfold dMkMap; exact h2 _ h4⟩
theorem DK_dEnt {t:TypeId} {x key:A}:DK (dEnt tt t x key m):=fun K h=>by
 unfold dEnt at h
 obtain ⟨agg,sh,z,h1,h2⟩:=mapTy_ex h
 split at h1
 ·rename_i k b hk
  split at h1
  ·rename_i hb
   split at h1
   ·rename_i g1 g2
    refine ⟨⟨_,_,_⟩,h1,?_⟩
    unfold dEnt
    refine h2 _ ?_
    simp only [hk,hb,g1,g2]; exact ⟨trivial,trivial,trivial⟩
   ·exact h1.elim
  ·exact h1.elim
 ·exact h1.elim
theorem DK_dESt {x st v:A}:DK (dESt x st v m):=fun K h=>by
 unfold dESt at h ⊢
 split at h
 ·rename_i b b' k hown
  split at h
  ·rename_i g1 hb
   rw [fd_eq] at h
   refine ⟨⟨_,_,_⟩,h,?_⟩
   simp only [hown,g1,hb,fd_eq]; exact ⟨trivial,trivial,trivial⟩
  ·exact h.elim
 ·exact h.elim
theorem bnd_ex {x:Option A} {d y:Nat} {F:Nat → Prop} (h:bnd x d y F):∃ n,F n ∧ ∀ F':Nat → Prop,F' n → bnd x d y F':=by
 unfold bnd at h ⊢
 split at h
 ·exact ⟨_,h,fun _ h'=>h'⟩
 ·split at h
  ·exact ⟨_,h.2,fun _ h'=>⟨h.1,h'⟩⟩
  ·exact h.elim
theorem DK_dOwnSl {t:TypeId} {b:Nat} {hi:Option A} {aid:Nat}:DK (dOwnSl tt t b hi aid m):=fun K h=>by
 unfold dOwnSl at h ⊢
 split at h
 ·split at h
  ·rename_i hk hb
   obtain ⟨n,h1,h2⟩:=bnd_ex h
   obtain ⟨r,h3,h4⟩:=DK.free (DK.val _ _ _) _ h1
   refine ⟨r,h3,?_⟩
   simp only [hk,hb]
   exact h2 _ h4
  ·exact h.elim
 ·exact h.elim
theorem DK_dSl {t:TypeId} {x:A} {lo hi:Option A} {aid:Nat}:DK (dSl P G tt o t x lo hi aid s m):=by
 unfold dSl
 split
 ·exact DK_dOwnSl
 ·exact DK_stepQ
theorem DK_stepV {aid:Nat}:DK (stepV P G tt o aid s m):=by
 unfold stepV
 split
 ·exact DK_dEnt
 ·exact DK_dESt
 ·exact DK_dSl
 ·exact DK.ofDM (DM_sLook _ _ _ _)
 ·exact DK_dUpd
 ·exact DK_dUpd
 ·exact DK_dMkMap
 ·split
  ·exact DK_dDel
  ·exact DK.fls
 ·unfold dAlloc; split
  ·exact DK.free (DK.val _ _ _)
  ·exact DK.fls
 ·unfold dBox; split
  ·exact DK.free (DK.val _ _ _)
  ·exact DK.fls
 ·unfold dBuildSl; split
  ·split
   ·intro K hk
    obtain ⟨cs,h1,h2⟩:=bldF_ex _ _ hk
    split at h1
    ·rename_i hown hlen
     split at h1
     ·rename_i hsl
      simp only [fnat_eq] at h1
      obtain ⟨r,h3,h4⟩:=DK.free (DK.val _ _ _) _ h1
      refine ⟨r,h3,h2 _ ?_⟩
      simp only [hown,hlen,hsl,fnat_eq]
      exact h4
     ·rename_i hsl
      simp only [fnat_eq] at h1
      obtain ⟨r,h3,h4⟩:=DK.val _ _ _ _ h1
      refine ⟨r,h3,h2 _ ?_⟩
      simp only [hown,hlen,hsl,fnat_eq]
      exact h4
    ·exact h1.elim
   ·exact DK.fls
  ·exact DK.fls
 ·unfold dMake; split
  ·split
   ·simp only [fnat_eq,fl_eq]; exact DK.and (DK.free (DK.val _ _ _))
   ·exact DK.fls
  ·exact DK.fls
 ·split
  ·split
   ·unfold dApp; split
    ·exact DK.fls
    ·split
     ·split
      ·split
       ·split
        ·simp only [fnat_eq]; exact DK.and (DK.free (DK.val _ _ _))
        ·exact DK.fls
       ·exact DK.fls
      ·exact DK.fls
     ·exact DK.fls
   ·exact DK.fls
  ·exact DK.fls
 ·exact DK.or DK_stepQ (DK_callN fun r mo=>DK.freeL (DK.val _ _ _) _ _)
 ·unfold dLoad; split
  ·split
   ·unfold dTake; split
    ·exact DK.fls
    ·split
     ·exact DK.and (DK.free (DK.val _ _ _))
     ·exact DK.fls
   ·exact DK_stepQ
  ·exact DK_stepQ
 ·unfold dIdx; split
  ·split
   ·split
    ·split
     ·exact DK.and (DK.val _ _ _)
     ·exact DK.fls
    ·exact DK.fls
   ·exact DK_stepQ
  ·exact DK_stepQ
 ·unfold dStore; split
  ·split
   ·exact DK_stA fun _=>DK.val _ _ _
   ·exact DK.fls
  ·split
   ·split
    ·simp only [fl_eq]; exact DK.and (DK_stA fun _=>DK.val _ _ _)
    ·exact DK.fls
   ·unfold dPut; split
    ·split
     ·split
      ·exact DK.and (DK.val _ _ _)
      ·exact DK.fls
     ·exact DK.fls
    ·exact DK.fls
   ·exact DK.fls
  ·exact DK.fls
 ·exact DK_stepQ

/-- What an operation comes to. -/
def Out (P:Program) (G:GInv) (tt:TT) (o:Oper) (aid:Nat) (s:List A) (m:List Blk) (r:Oc):Prop :=
 stepV P G tt o aid s m fun v u rd=>v = r.v ∧ u = r.u ∧ rd = r.rd

theorem stepV_out {aid:Nat} {K:KV} (h:stepV P G tt o aid s m K):∃ r:Oc,Out P G tt o aid s m r ∧ K r.v r.u r.rd:=by
 obtain ⟨r,h1,h2⟩:=DK_stepV K h
 exact ⟨r,h2,h1⟩
end
end Go.Proofs.YtmeohhbdkoeadaaGreat.Am
namespace Go.Proofs.YtmeohhbdkoeadaaGreat.Am
variable [Inhabited DRT]
open Go.RowKit (Below)
section
variable {c:Ctx} {s s2:List A} {m m2:List Blk} {a:Act} {w w':World} {ids ids':Ids} {P:Program} {im im':Nat → Prop} {tt:TT} {G:GInv}
variable {next:Act → World → Prop} {Q:Exit → Act → World → Prop} {o:Oper} {K:A → Prop}

def Agree (m m2:List Blk) (rs:List Nat):Prop:=∀ b ∈ rs,m.getD b .dead = m2.getD b .dead

theorem rdLs_agree {g g2:A → Option (List Nat)} {h h2:A → A}:∀ (xs:List A) (rs:List Nat),(∀ x ∈ xs,∀ l,g x = some l → (∀ b ∈ l,b ∈ rs) → g2 x = some l ∧ h x = h2 x) →
  ∀ l,rdLs g xs = some l → (∀ b ∈ l,b ∈ rs) → rdLs g2 xs = some l ∧ xs.map h = xs.map h2
 | [],_,_,l,hl,_=>⟨hl,rfl⟩
 | x :: xs,rs,hx,l,hl,hb=>by
  unfold rdLs at hl ⊢
  split at hl
  ·rename_i l1 l2 e1 e2
   cases hl
   obtain ⟨a1,a2⟩:=hx x (by simp) l1 e1 (fun b h=>hb b (by simp [h]))
   obtain ⟨b1,b2⟩:=rdLs_agree xs rs (fun y hy=>hx y (by simp [hy])) l2 e2 (fun b h=>hb b (by simp [h]))
   simp [a1,b1,a2,b2]
  ·cases hl
theorem rdA_agree {rs:List Nat} (hm:Agree m m2 rs):∀ (d:Nat) (x:A) (l:List Nat),rdA m d x = some l → (∀ b ∈ l,b ∈ rs) → rdA m2 d x = some l ∧ wk m d x = wk m2 d x
 | 0,_,_,h,_=>by cases h
 | d + 1,x,l,h,hb=>by
  have ih:=fun x l h hb=>rdA_agree hm d x l h hb
  have lists:∀ cs:List A,rdLs (rdA m d) cs = some l → rdLs (rdA m2 d) cs = some l ∧ cs.map (wk m d) = cs.map (wk m2 d) :=
   fun cs h=>rdLs_agree cs rs (fun x _ l h hb=>ih x l h hb) l h hb
  cases x
  case ref b off =>
   simp only [rdA,wk] at h ⊢
   split at h
   ·rename_i ty cs hbx
    split at h
    ·rename_i l' hl'
     cases h
     have e:m2.getD b .dead = .box ty cs:=by rw [← hm b (hb b (by simp))]; exact hbx
     obtain ⟨g1,g2⟩:=rdLs_agree cs rs (fun x _ l h hb=>ih x l h hb) l' hl' (fun b h=>hb b (by simp [h]))
     rw [hbx,e]
     simp [g1,g2]
    ·cases h
   ·cases h
  case agg cs=>obtain ⟨g1,g2⟩:=lists cs h; exact ⟨g1,by simp only [wk,g2]⟩
  case tup cs=>obtain ⟨g1,g2⟩:=lists cs h; exact ⟨g1,by simp only [wk,g2]⟩
  case fn f cs=>obtain ⟨g1,g2⟩:=lists cs h; exact ⟨g1,by simp only [wk,g2]⟩
  case oref=>cases h
  case own b =>
   simp only [rdA,wk] at h ⊢
   split at h
   ·rename_i ty sz n row hbx
    cases h
    have e:m2.getD b .dead = .row ty sz n row:=by rw [← hm b (hb b (by simp))]; exact hbx
    rw [hbx,e]
    exact ⟨rfl,rfl⟩
   ·cases h
  case omap b =>
   simp only [rdA,wk] at h ⊢
   split at h
   ·rename_i g n key val hbx
    cases h
    have e:m2.getD b .dead = .mapb g n key val:=by rw [← hm b (hb b (by simp))]; exact hbx
    rw [hbx,e]
    exact ⟨rfl,rfl⟩
   ·cases h
  all_goals exact ⟨h,rfl⟩

theorem sLoad_agree {t:TypeId} {p:A} (hm:Agree m m2 (rd1 p)):(sLoad tt t p m fun v _=>K v) = (sLoad tt t p m2 fun v _=>K v):=by
 unfold sLoad
 cases tt.lookup t with
 | none=>rfl
 | some ti=>cases p <;> simp only <;> first|rfl|(rw [hm _ (by simp [rd1])])
theorem sIndexAddr_agree {t:TypeId} {p i:A} (hm:Agree m m2 (rd1 p)):(sIndexAddr tt t p i m fun v _=>K v) = (sIndexAddr tt t p i m2 fun v _=>K v):=by
 unfold sIndexAddr
 cases tt.lookup t with
 | none=>rfl
 | some ti =>
  simp only
  split
  ·cases p <;> simp only <;> first|rfl|(rw [hm _ (by simp [rd1])])
  ·rfl
  ·rfl
theorem sLen_agree {t:TypeId} {p:A} (hm:Agree m m2 (rd1 p)):sLen tt t p m K = sLen tt t p m2 K:=by
 unfold sLen
 cases tt.lookup t with
 | none=>rfl
 | some ti =>
  simp only
  split
  ·rfl
  ·rw [hm _ (by simp [rd1])]
  ·rfl
  ·rfl
  ·rfl
theorem sCall_agree {f:A} {as : List A} {rs:List Nat} (hr:callRd m f as = some rs) (hm:Agree m m2 rs) :
  (sCall P G f as m fun v _=>K v) = (sCall P G f as m2 fun v _=>K v) ∧ callRd m2 f as = some rs:=by
 unfold callRd at hr ⊢
 cases f <;> simp only at hr <;> first|cases hr|skip
 rename_i g cap
 obtain ⟨g1,g2⟩:=rdLs_agree (h:=wk m 5) (h2:=wk m2 5) (as ++ cap) rs (fun x _ l h hb=>rdA_agree hm 5 x l h hb) rs hr (fun b h=>h)
 refine ⟨?_,g1⟩
 unfold sCall
 simp only [fdl_eq]
 rw [g2]

theorem step_local (hq:quiet o.op = true) (he:∀ x ∈ o.op.operands,ev s x = ev s2 x) {rd:List Nat} (hr:rdOp o.op s m = some rd) (hm:Agree m m2 rd) :
  (step P G tt o s m fun v _=>K v) = (step P G tt o s2 m2 fun v _=>K v) ∧ rdOp o.op s2 m2 = some rd:=by
 unfold step
 have mapE:∀ xs:Array Operand,(∀ x ∈ xs,ev s x = ev s2 x) → xs.toList.map (ev s) = xs.toList.map (ev s2):=by
  intro xs h; exact List.map_congr_left fun x hx=>h x (by simpa using hx)
 cases hop:o.op <;> rw [hop] at hq he hr <;> first|(exfalso;simp [quiet] at hq;done)|(dsimp only)|skip
 case move x=>simp only [Op.operands] at he; rw [he x (by simp)]; exact ⟨rfl,hr⟩
 case assign x=>simp only [Op.operands] at he; rw [he x (by simp)]; exact ⟨rfl,hr⟩
 case pick x y z=>simp only [Op.operands] at he; rw [he x (by simp),he y (by simp),he z (by simp)]; exact ⟨rfl,hr⟩
 case build t ps =>
  simp only [Op.operands] at he
  have:(ps.toList.map fun p=>(p.1,ev s p.2)) = ps.toList.map fun p=>(p.1,ev s2 p.2):=List.map_congr_left fun p hp=>by rw [he p.2 (by simp; exact ⟨p.1,by simpa using hp⟩)]
  simp only [this]
  refine ⟨?_,hr⟩
  unfold sBuild; split <;> rfl
 case load t x =>
  simp only [Op.operands] at he
  have e:=he x (by simp)
  simp only [rdOp,Option.some.injEq] at hr ⊢
  subst hr
  rw [← e]
  exact ⟨sLoad_agree hm,rfl⟩
 case nilCheck x=>simp only [Op.operands] at he; rw [he x (by simp)]; exact ⟨rfl,hr⟩
 case binOp op t x y t'=>simp only [Op.operands] at he; rw [he x (by simp),he y (by simp)]; exact ⟨rfl,hr⟩
 case unOp op t x=>simp only [Op.operands] at he; rw [he x (by simp)]; exact ⟨rfl,hr⟩
 case convert t t' x=>simp only [Op.operands] at he; rw [he x (by simp)]; exact ⟨rfl,hr⟩
 case makeFunc fn first cap =>
  simp only [Op.operands] at he
  have:=mapE cap (fun x hx=>he x (by simp [hx]))
  cases fn <;> simp only <;> first|exact ⟨trivial,hr⟩|(rw [this];exact ⟨rfl,hr⟩)
 case fieldAddr t x f =>
  simp only [Op.operands] at he; rw [he x (by simp)]
  refine ⟨?_,hr⟩
  unfold sFieldAddr; split <;> rfl
 case indexAddr t x i =>
  simp only [Op.operands] at he
  have e:=he x (by simp)
  simp only [rdOp,Option.some.injEq] at hr ⊢
  subst hr
  rw [← e,← he i (by simp)]
  exact ⟨sIndexAddr_agree hm,rfl⟩
 case index t x i=>simp only [Op.operands] at he; rw [he x (by simp),he i (by simp)]; exact ⟨rfl,hr⟩
 case field t x f=>simp only [Op.operands] at he; rw [he x (by simp)]; exact ⟨rfl,hr⟩
 case extract x i=>simp only [Op.operands] at he; rw [he x (by simp)]; exact ⟨rfl,hr⟩
 case slice t x lo hi mx =>
  cases mx with
  | some _=>simp [quiet] at hq
  | none =>
   simp only [Op.operands] at he
   have e0:=he x (by simp)
   have e1:evO s lo = evO s2 lo:=by
    cases lo with
    | none=>rfl
    | some y=>simp only [evO]; rw [he y (by simp)]
   have e2:evO s hi = evO s2 hi:=by
    cases hi with
    | none=>rfl
    | some y=>simp only [evO]; rw [he y (by simp)]
   rw [e0,e1,e2]; exact ⟨rfl,hr⟩
 case call cl =>
  obtain ⟨callee,args,ts⟩:=cl
  simp only [Op.operands,Call.operands] at he
  cases callee with
  | invoke r n=>simp [quiet] at hq
  | value f =>
   have e1:=he f (by simp)
   have e2:=mapE args (fun x hx=>he x (by simp [hx]))
   simp only [rdOp] at hr ⊢
   rw [← e1,← e2]
   exact sCall_agree hr hm
  | builtin b =>
   have e2:∀ x ∈ args,ev s x = ev s2 x:=fun x hx=>he x (by simp [hx])
   cases b <;> first|(exfalso;simp [quiet] at hq;done)|(dsimp only)|skip
   case len =>
    simp only [rdOp] at hr ⊢
    split at hr
    ·rename_i x hx
     have e := e2 x (by have : x ∈ args.toList := by rw [hx]; simp
                        simpa using this)
     cases hr
     rw [hx]
     cases hts:ts.toList with
     | nil=>exact ⟨rfl,by rw [← e]⟩
     | cons t1 tl =>
      cases tl with
      | nil=>dsimp only; rw [← e]; exact ⟨sLen_agree hm,rfl⟩
      | cons=>exact ⟨rfl,by rw [← e]⟩
    ·cases hr
   case min =>
    cases hx:args.toList with
    | nil=>exact ⟨rfl,hr⟩
    | cons x xs =>
     have h1:=mapE args e2
     rw [hx] at h1
     simp only [List.map_cons,List.cons.injEq] at h1
     dsimp only; rw [h1.1,h1.2]; exact ⟨rfl,hr⟩
   case max =>
    cases hx:args.toList with
    | nil=>exact ⟨rfl,hr⟩
    | cons x xs =>
     have h1:=mapE args e2
     rw [hx] at h1
     simp only [List.map_cons,List.cons.injEq] at h1
     dsimp only; rw [h1.1,h1.2]; exact ⟨rfl,hr⟩
end
end Go.Proofs.YtmeohhbdkoeadaaGreat.Am

/-
  THE ENGINE, part 4: an abstract machine of symbolic values, each step proved sound.
-/
import Derived.Test.YtmeohhbdkoeadaaGreatAm3
import Derived.Deep.Slices
set_option linter.unusedSimpArgs false
set_option linter.unusedSectionVars false
set_option linter.unusedVariables false
namespace Go.Proofs.YtmeohhbdkoeadaaGreat.Am
variable [Inhabited DRT]
open Go.RowKit (Below)
section
variable {c:Ctx} {s s2:List A} {m m2:List Blk} {a:Act} {w w':World} {ids ids':Ids} {P:Program} {im im':Nat → Prop} {tt:TT} {G:GInv}
variable {next:Act → World → Prop} {Q:Exit → Act → World → Prop} {o:Oper}

theorem free_inv {aid:Nat} {X:Prop} (h:freeAt m aid X):X ∧ m.getD aid .dead = .dead ∧ Nat.blt aid m.length = true:=by
 unfold freeAt at h
 split at h
 ·rename_i h1 h2; exact ⟨h,h1,h2⟩
 ·exact h.elim
theorem free_intro {aid:Nat} {X:Prop} (h1:m.getD aid .dead = .dead) (h2:Nat.blt aid m.length = true) (h:X):freeAt m aid X:=by
 unfold freeAt; rw [h1,h2]; exact h
theorem free_at {aid:Nat} (h1:m.getD aid .dead = .dead) (h2:Nat.blt aid m.length = true):m[aid]? = some .dead:=by
 have hl:aid < m.length:=Nat.le_of_ble_eq_true h2
 rw [List.getElem?_eq_getElem hl]
 simpa [List.getD_eq_getElem?_getD,hl] using h1
def LK (m m2:List Blk) (F F2:KV → Prop):Prop:=∀ r:Oc,(F fun v u rd=>v = r.v ∧ u = r.u ∧ rd = r.rd) → Agree m m2 r.rd → F2 fun v u rd=>v = r.v ∧ u = r.u ∧ rd = r.rd
theorem LK.free1 {aid:Nat} (hlen:m.length = m2.length) (v:A) (u:List (Nat × Blk)) (rd:List Nat) (hin:aid ∈ rd):LK m m2 (fun K=>freeAt m aid (K v u rd)) (fun K=>freeAt m2 aid (K v u rd)):=by
 intro r h hm
 obtain ⟨h1,h2,h3⟩:=free_inv h
 exact free_intro (by rw [← hm aid (by rw [← h1.2.2]; exact hin)]; exact h2) (by rw [← hlen]; exact h3) h1
theorem vrow_agree {esz:Nat} {y:A} (hm:Agree m m2 (rd1 y)):vrow m esz y = vrow m2 esz y:=by
 unfold vrow
 cases y <;> simp only <;> rw [hm _ (by simp [rd1])]
theorem stepQ_local (he:∀ x ∈ o.op.operands,ev s x = ev s2 x):LK m m2 (stepQ P G tt o s m) (stepQ P G tt o s2 m2):=by
 intro r h hm
 unfold stepQ at h ⊢
 split at h
 ·rename_i rd0 hq hr
  obtain ⟨v,h1,h2⟩:=(DM_step (P:=P) (G:=G) (tt:=tt) (s:=s) (m:=m) hq _).1 h
  have hrd:_ = r.rd:=h1.2.2
  rw [← hrd] at hm
  obtain ⟨g1,g2⟩:=step_local (P:=P) (G:=G) (tt:=tt) (K:=fun v=>v = r.v ∧ [] = r.u ∧ rd0 = r.rd) hq he hr hm
  simp only [hq,g2]
  rw [← g1]; exact h
 ·exact h.elim
theorem dApp_local {t:TypeId} {x y:A} {aid:Nat} (hlen:m.length = m2.length):LK m m2 (dApp tt t x y aid m) (dApp tt t x y aid m2):=by
 intro r h hm
 unfold dApp at h ⊢
 split at h
 ·exact h.elim
 ·rename_i ti hti
  split at h
  ·rename_i n2 row2 hk hv
   split at h
   ·rename_i b
    split at h
    ·rename_i ty sz n row hb
     split at h
     ·rename_i hb1 hb2
      simp only [fnat_eq] at h
      obtain ⟨hc,h⟩:=h
      obtain ⟨hX,h2,h3⟩:=free_inv h
      have hrd:=hX.2.2
      have e1:m2.getD b .dead = .row ty sz n row:=by rw [← hm b (by rw [← hrd]; simp)]; exact hb
      have e2:m2.getD aid .dead = .dead:=by rw [← hm aid (by rw [← hrd]; simp)]; exact h2
      have e3:vrow m2 ti.esz y = some (n2,row2):=by rw [← vrow_agree (fun b hb=>hm b (by rw [← hrd]; simp [hb]))]; exact hv
      simp only [hk,e3,e1,hb1,hb2,fnat_eq]
      exact ⟨hc,free_intro e2 (by rw [← hlen]; exact h3) hX⟩
     ·exact h.elim
    ·exact h.elim
   ·exact h.elim
  ·exact h.elim
theorem dLoad_local {t:TypeId} {x:A} {aid:Nat} (he:∀ x ∈ o.op.operands,ev s x = ev s2 x) (hx:∀ b i off,x = .oref b i off → ∀ rd,rdOp o.op s m = some rd → b ∈ rd) (hlen:m.length = m2.length) :
  LK m m2 (dLoad P G tt o t x aid s m) (dLoad P G tt o t x aid s2 m2):=by
 intro r h hm
 unfold dLoad at h ⊢
 split at h
 ·rename_i b i off
  split at h
  ·rename_i ty ety sz n hole len row hb
   unfold dTake at h
   split at h
   ·exact h.elim
   ·rename_i ti hti
    split at h
    ·rename_i hk h1 h2
     obtain ⟨hi,h⟩:=h
     obtain ⟨hX,h3,h4⟩:=free_inv h
     have hrd:=hX.2.2
     have e1:m2.getD b .dead = .nest ty ety sz n none len row:=by rw [← hm b (by rw [← hrd]; simp)]; exact hb
     have e2:m2.getD aid .dead = .dead:=by rw [← hm aid (by rw [← hrd]; simp)]; exact h3
     simp only [e1]
     unfold dTake
     simp only [hti,hk,h1,h2]
     exact ⟨hi,free_intro e2 (by rw [← hlen]; exact h4) hX⟩
    ·exact h.elim
  ·rename_i hne
   have hq:=h
   unfold stepQ at hq
   split at hq
   ·rename_i rd0 hqq hrr
    obtain ⟨v,h1,_⟩:=(DM_step (P:=P) (G:=G) (tt:=tt) (s:=s) (m:=m) hqq _).1 hq
    have hb:b ∈ r.rd:=by rw [← h1.2.2]; exact hx b i off rfl rd0 hrr
    have e1:=hm b hb
    have:=stepQ_local (P:=P) (G:=G) (tt:=tt) he r h hm
    rw [← e1]
    split
    ·rename_i hh; exact absurd hh (hne _ _ _ _ _ _ _)
    ·exact this
   ·exact hq.elim
 ·exact stepQ_local he r h hm
theorem dIdx_local {t:TypeId} {x i:A} (he:∀ x ∈ o.op.operands,ev s x = ev s2 x) (hx:∀ b,x = .own b → ∀ rd,rdOp o.op s m = some rd → b ∈ rd) :
  LK m m2 (dIdx P G tt o t x i s m) (dIdx P G tt o t x i s2 m2):=by
 intro r h hm
 unfold dIdx at h ⊢
 split at h
 ·rename_i b
  split at h
  ·rename_i ty ety sz n hole len row hb
   split at h
   ·rename_i ti kk ix hti
    split at h
    ·rename_i hk h1
     have e1:m2.getD b .dead = .nest ty ety sz n hole len row:=by rw [← hm b (by rw [← h.2.2.2]; simp)]; exact hb
     simp only [e1]
     exact h
    ·exact h.elim
   ·exact h.elim
  ·rename_i hne
   have hq:=h
   unfold stepQ at hq
   split at hq
   ·rename_i rd0 hqq hrr
    obtain ⟨v,h1,_⟩:=(DM_step (P:=P) (G:=G) (tt:=tt) (s:=s) (m:=m) hqq _).1 hq
    have hb:b ∈ r.rd:=by rw [← h1.2.2]; exact hx b rfl rd0 hrr
    have e1:=hm b hb
    have:=stepQ_local (P:=P) (G:=G) (tt:=tt) he r h hm
    rw [← e1]
    split
    ·rename_i hh; exact absurd hh (hne _ _ _ _ _ _ _)
    ·exact this
   ·exact hq.elim
 ·exact stepQ_local he r h hm
theorem dStore_local {t:TypeId} {x y:A}:LK m m2 (dStore tt t x y m) (dStore tt t x y m2):=by
 intro r h hm
 unfold dStore at h ⊢
 split at h
 ·rename_i ti b off ht
  split at h
  ·rename_i ty cs hb
   obtain ⟨vs,g1,g2,g3,g4⟩:=stA_inv h
   have:m2.getD b .dead = .box ty cs:=by rw [← hm b (by rw [← g4.2.2]; simp)]; exact hb
   simp only [this]; exact h
  ·exact h.elim
 ·rename_i ti b i off ht
  split at h
  ·rename_i ty sz n row hb
   split at h
   ·rename_i hown
    obtain ⟨hlt,h⟩:=h
    have h':=h
    rw [fl_eq] at h'
    obtain ⟨vs,g1,g2,g3,g4⟩:=stA_inv h'
    have:m2.getD b .dead = .row ty sz n row:=by rw [← hm b (by rw [← g4.2.2]; simp)]; exact hb
    simp only [this]; exact ⟨hlt,h⟩
   ·exact h.elim
  ·rename_i ty ety sz n hole len row hb
   unfold dPut at h
   split at h
   ·rename_i b' ti2 j hti
    split at h
    ·rename_i ety' sz' n' row' h1 hb' h2
     split at h
     ·rename_i h3 h4
      have e1:m2.getD b .dead = .nest ty ety sz n (some j) len row:=by rw [← hm b (by rw [← h.2.2.2]; simp)]; exact hb
      have e2:m2.getD b' .dead = .row ety' sz' n' row':=by rw [← hm b' (by rw [← h.2.2.2]; simp)]; exact hb'
      simp only [e1]
      unfold dPut
      simp only [hti,h1,e2,h2,h3,h4]
      exact h
     ·exact h.elim
    ·exact h.elim
   ·exact h.elim
  ·exact h.elim
 ·exact h.elim
theorem mem_rangeN:∀ (n k i:Nat),i ∈ rangeN n k ↔ k ≤ i ∧ i < k + n
 | 0,k,i=>by simp [rangeN]
 | n + 1,k,i=>by rw [rangeN,List.mem_cons,mem_rangeN n (k + 1) i]; omega
theorem freeL_inv:∀ (xs:List Blk) (aid:Nat) {X:Prop},freeL m aid xs X → X ∧ ∀ j,j < xs.length → m.getD (aid + j) .dead = .dead ∧ Nat.blt (aid + j) m.length = true
 | [],_,X,h=>⟨h,fun j hj=>by simp at hj⟩
 | x :: xs,aid,X,h=>by
  obtain ⟨h1,h2,h3⟩:=free_inv h
  obtain ⟨g1,g2⟩:=freeL_inv xs (aid + 1) h1
  refine ⟨g1,fun j hj=>?_⟩
  cases j with
  | zero=>exact ⟨h2,h3⟩
  | succ j=>have:=g2 j (by simpa using hj); rwa [show aid + 1 + j = aid + (j + 1) by omega] at this
theorem freeL_intro:∀ (xs:List Blk) (aid:Nat) {X:Prop},X → (∀ j,j < xs.length → m.getD (aid + j) .dead = .dead ∧ Nat.blt (aid + j) m.length = true) → freeL m aid xs X
 | [],_,X,h,_=>h
 | x :: xs,aid,X,h,hj=>by
  refine free_intro (hj 0 (by simp)).1 (hj 0 (by simp)).2 (freeL_intro xs (aid + 1) h fun j hh=>?_)
  have:=hj (j + 1) (by simpa using hh)
  rwa [show aid + 1 + j = aid + (j + 1) by omega]
theorem dCallN_local {f:A} {as : List A} {aid:Nat} (hlen:m.length = m2.length):LK m m2 (dCallN P G f as aid m) (dCallN P G f as aid m2):=by
 intro r h hm
 unfold dCallN at h ⊢
 unfold callN at h ⊢
 split at h
 ·rw [fdl_eq] at h
  simp only [fdl_eq]
  split at h
  ·rename_i hown
   obtain ⟨r0,mo,hc,hk⟩:=h
   refine ⟨r0,mo,hc,?_⟩
   split at hk
   ·rename_i hng
    simp only [fd_eq,fbs_eq] at hk ⊢
    obtain ⟨hX,hd⟩:=freeL_inv _ _ hk
    refine freeL_intro _ _ hX fun j hj=>?_
    obtain ⟨d1,d2⟩:=hd j hj
    refine ⟨?_,by rw [← hlen]; exact d2⟩
    rw [← hm (aid + j) (by rw [← hX.2.2,mem_rangeN]; omega)]; exact d1
   ·exact hk.elim
  ·exact h.elim
 ·exact h.elim
theorem sLook_agree {t:TypeId} {x key:A} {ok:Bool} {K:A → Prop} (hm:Agree m m2 (rdM x)):sLook tt t x key ok m K = sLook tt t x key ok m2 K:=by
 unfold sLook
 cases x
 case omap b =>
  have e:=hm b (by simp [rdM])
  dsimp only
  rw [e]
 all_goals rfl
theorem dLook_local {t:TypeId} {x key:A} {ok:Bool}:LK m m2 (dLook tt t x key ok m) (dLook tt t x key ok m2):=by
 intro r h hm
 unfold dLook at h ⊢
 obtain ⟨v,h1,_⟩:=(DM_sLook (tt:=tt) (m:=m) t x key ok _).1 h
 rw [← sLook_agree (by rw [h1.2.2]; exact hm)]; exact h
theorem dUpd_local {t:TypeId} {x key v:A}:LK m m2 (dUpd tt t x key v m) (dUpd tt t x key v m2):=by
 intro r h hm
 unfold dUpd at h ⊢
 obtain ⟨agg,sh,z,h1,h2⟩:=mapTy_ex h
 refine h2 _ ?_
 split at h1
 ·rename_i k b hk hown
  split at h1
  ·rename_i hb
   split at h1
   ·rename_i g1 g2
    rw [fd_eq] at h1
    have e:m2.getD b .dead = _:=(hm b (by rw [← h1.2.2]; simp)).symm.trans hb
    simp only [e,g1,g2,fd_eq]; exact h1
   ·exact h1.elim
  ·exact h1.elim
 ·exact h1.elim
theorem dDel_local {t:TypeId} {x key:A}:LK m m2 (dDel tt t x key m) (dDel tt t x key m2):=by
 intro r h hm
 unfold dDel at h ⊢
 obtain ⟨agg,sh,z,h1,h2⟩:=mapTy_ex h
 refine h2 _ ?_
 split at h1
 ·rename_i k b hk
  split at h1
  ·rename_i hb
   split at h1
   ·rename_i g1 g2
    have e:m2.getD b .dead = _:=(hm b (by rw [← h1.2.2]; simp)).symm.trans hb
    simp only [e,g1,g2]; exact h1
   ·exact h1.elim
  ·exact h1.elim
 ·exact h1.elim
theorem dMkMap_local {t:TypeId} {aid:Nat} (hlen:m.length = m2.length):LK m m2 (dMkMap tt t aid m) (dMkMap tt t aid m2):=by
 intro r h hm
 unfold dMkMap at h ⊢
 obtain ⟨agg,sh,z,h1,h2⟩:=mapTy_ex h
 exact h2 _ (LK.free1 hlen _ _ _ (by simp) r h1 hm)
theorem dEnt_local {t:TypeId} {x key:A}:LK m m2 (dEnt tt t x key m) (dEnt tt t x key m2):=by
 intro r h hm
 unfold dEnt at h ⊢
 obtain ⟨agg,sh,z,h1,h2⟩:=mapTy_ex h
 refine h2 _ ?_
 split at h1
 ·rename_i k b hk
  split at h1
  ·rename_i hb
   split at h1
   ·rename_i g1 g2
    have e:m2.getD b .dead = _:=(hm b (by rw [← h1.2.2]; simp)).symm.trans hb
    simp only [e,g1,g2]; exact h1
   ·exact h1.elim
  ·exact h1.elim
 ·exact h1.elim
theorem dESt_local {x st v:A}:LK m m2 (dESt x st v m) (dESt x st v m2):=by
 intro r h hm
 unfold dESt at h ⊢
 split at h
 ·rename_i b b' k hown
  split at h
  ·rename_i g1 hb
   rw [fd_eq] at h
   have e:m2.getD b .dead = _:=(hm b (by rw [← h.2.2]; simp)).symm.trans hb
   simp only [g1,e,fd_eq]; exact h
  ·exact h.elim
 ·exact h.elim
theorem dOwnSl_local {t:TypeId} {b:Nat} {hi:Option A} {aid:Nat} (hlen:m.length = m2.length):LK m m2 (dOwnSl tt t b hi aid m) (dOwnSl tt t b hi aid m2):=by
 intro r h hm
 unfold dOwnSl at h ⊢
 split at h
 ·split at h
  ·rename_i hk hb
   obtain ⟨n,h1,h2⟩:=bnd_ex h
   obtain ⟨hX,h3,h4⟩:=free_inv h1
   have e:m2.getD b .dead = _:=(hm b (by rw [← hX.2.2]; simp)).symm.trans hb
   have e2:m2.getD aid .dead = .dead:=by rw [← hm aid (by rw [← hX.2.2]; simp)]; exact h3
   simp only [hk,e]
   exact h2 _ (free_intro e2 (by rw [← hlen]; exact h4) hX)
  ·exact h.elim
 ·exact h.elim
/-- What an operation comes to, in another state that agrees on what it looks at. -/
theorem Out.local {aid:Nat} {r:Oc} (h:Out P G tt o aid s m r) (he:∀ x ∈ o.op.operands,ev s x = ev s2 x) (hm:Agree m m2 r.rd) (hlen:m.length = m2.length):Out P G tt o aid s2 m2 r:=by
 unfold Out stepV at h ⊢
 split at h
 ·rename_i t x k ho
  have he:=he; rw [ho] at he; simp only [Op.operands] at he
  rw [← he x (by simp),← he k (by simp)]
  exact dEnt_local r h hm
 ·rename_i t x st v ho
  have he:=he; rw [ho] at he; simp only [Op.operands] at he
  rw [← he x (by simp),← he st (by simp),← he v (by simp)]
  exact dESt_local r h hm
 ·rename_i t x lo hi ho
  have he2:=he; rw [ho] at he2; simp only [Op.operands] at he2
  have e0:=he2 x (by simp)
  have e1:evO s lo = evO s2 lo:=by
   cases lo with
   | none=>rfl
   | some y=>simp only [evO]; rw [he2 y (by simp)]
  have e2:evO s hi = evO s2 hi:=by
   cases hi with
   | none=>rfl
   | some y=>simp only [evO]; rw [he2 y (by simp)]
  rw [← e0,← e1,← e2]
  unfold dSl at h ⊢
  split at h
  ·exact dOwnSl_local hlen r h hm
  ·exact stepQ_local he r h hm
 ·rename_i t x k ok ho
  have he:=he; rw [ho] at he; simp only [Op.operands] at he
  rw [← he x (by simp),← he k (by simp)]
  exact dLook_local r h hm
 ·rename_i t x k v ho
  have he:=he; rw [ho] at he; simp only [Op.operands] at he
  rw [← he x (by simp),← he k (by simp),← he v (by simp)]
  exact dUpd_local r h hm
 ·rename_i t x k v ho
  have he:=he; rw [ho] at he; simp only [Op.operands] at he
  rw [← he x (by simp),← he k (by simp),← he v (by simp)]
  exact dUpd_local r h hm
 ·exact dMkMap_local hlen r h hm
 ·rename_i args ts ho
  have he:=he; rw [ho] at he; simp only [Op.operands,Call.operands] at he
  split at h
  ·rename_i x k t t' hx ht
   have hX:∀ z ∈ args.toList,ev s z = ev s2 z:=fun z hz=>he z (by simp at hz; simp [hz])
   rw [← hX x (by rw [hx]; simp),← hX k (by rw [hx]; simp)]
   exact dDel_local r h hm
  ·exact h.elim
 ·unfold dAlloc at h ⊢; split at h
  ·exact LK.free1 hlen _ _ _ (by simp) r h hm
  ·exact h.elim
 ·rename_i t x ho
  have he:=he; rw [ho] at he; simp only [Op.operands] at he
  rw [← he x (by simp)]
  unfold dBox at h ⊢; split at h
  ·exact LK.free1 hlen _ _ _ (by simp) r h hm
  ·exact h.elim
 ·rename_i t len ps ho
  have he:=he; rw [ho] at he; simp only [Op.operands] at he
  have hps:(ps.toList.map fun p=>(p.1,ev s p.2)) = ps.toList.map fun p=>(p.1,ev s2 p.2):=List.map_congr_left fun p hp=>by rw [he p.2 (by simp; exact ⟨p.1,by simpa using hp⟩)]
  rw [← hps]
  unfold dBuildSl at h ⊢; split at h
  ·split at h
   ·obtain ⟨cs,h1,h2⟩:=bldF_ex _ _ h
    refine h2 _ ?_
    split at h1
    ·split at h1
     ·simp only [fnat_eq] at h1 ⊢
      exact LK.free1 hlen _ _ _ (by simp) r h1 hm
     ·simp only [fnat_eq] at h1 ⊢
      exact h1
    ·exact h1.elim
   ·exact h.elim
  ·exact h.elim
 ·rename_i t l k ho
  have he:=he; rw [ho] at he; simp only [Op.operands] at he
  rw [← he l (by simp),← he k (by simp)]
  unfold dMake at h ⊢; split at h
  ·split at h
   ·simp only [fnat_eq,fl_eq] at h ⊢
    exact ⟨h.1,LK.free1 hlen _ _ _ (by simp) r h.2 hm⟩
   ·exact h.elim
  ·exact h.elim
 ·rename_i args ts ho
  have he:=he; rw [ho] at he; simp only [Op.operands,Call.operands] at he
  split at h
  ·rename_i x y t t' hx ht
   have hX:∀ z ∈ args.toList,ev s z = ev s2 z:=fun z hz=>he z (by simp at hz; simp [hz])
   rw [← hX x (by rw [hx]; simp),← hX y (by rw [hx]; simp)]
   split at h
   ·exact dApp_local hlen r h hm
   ·exact h.elim
  ·exact h.elim
 ·rename_i f args ts ho
  have he2:=he; rw [ho] at he2; simp only [Op.operands,Call.operands] at he2
  rcases h with h | h
  ·exact .inl (stepQ_local he r h hm)
  ·right
   rw [← he2 f (by simp),← show args.toList.map (ev s) = args.toList.map (ev s2) from List.map_congr_left fun x hx=>he2 x (by simp at hx; simp [hx])]
   exact dCallN_local hlen r h hm
 ·rename_i t x ho
  have he2:=he; rw [ho] at he2; simp only [Op.operands] at he2
  rw [← he2 x (by simp)]
  refine dLoad_local he ?_ hlen r h hm
  intro b i off e rd hr
  rw [ho] at hr; simp only [rdOp,Option.some.injEq] at hr
  subst hr; rw [e]; simp [rd1]
 ·rename_i t x i ho
  have he2:=he; rw [ho] at he2; simp only [Op.operands] at he2
  rw [← he2 x (by simp),← he2 i (by simp)]
  refine dIdx_local he ?_ r h hm
  intro b e rd hr
  rw [ho] at hr; simp only [rdOp,Option.some.injEq] at hr
  subst hr; rw [e]; simp [rd1]
 ·rename_i t x y ho
  have he2:=he; rw [ho] at he2; simp only [Op.operands] at he2
  rw [← he2 x (by simp),← he2 y (by simp)]
  exact dStore_local r h hm
 ·exact stepQ_local he r h hm

/-- A new block, at a place that was kept for it. -/
theorem Sim.allocAtO (hs:Sim c s m a w ids) (b:Nat) (hb:m[b]? = some .dead) (x:Blk) (ob:Obj) (kk n sz:Nat)
  (hx:∀ ids' im' w',(∀ b,imOf c ids w b → im' b) → (∀ b,imOf c ids w b → w'.heap[b]? = w.heap[b]?) → (∀ (b:Nat) p,ids[b]? = some p → p ≠ .dead → ids'[b]? = some p) →
   w'.heap[w.heap.size]? = (w.alloc ob).heap[w.heap.size]? → BRel ids' im' w' x (.lv (mkId w.heap.size kk n sz))) :
  Sim c s (m.set b x) a (w.alloc ob) (ids.set b (.lv (mkId w.heap.size kk n sz))):=by
 have hbl:b < m.length:=by
  rcases Nat.lt_or_ge b m.length with h' | h'
  ·exact h'
  ·rw [List.getElem?_eq_none h'] at hb; cases hb
 have hbi:b < ids.length:=by rw [hs.mlen]; exact hbl
 have hmb:m[b] = .dead:=by rw [List.getElem?_eq_getElem hbl] at hb; exact Option.some.inj hb
 have hdead:ids[b] = .dead:=by have:=hs.blks b hbl hbi; rw [hmb] at this; exact this
 have hbw:=below_alloc w ob
 have hsz:(w.alloc ob).heap.size = w.heap.size + 1:=by
  show (w.heap.push _).size = _
  simp
 have hmem:∀ p,IdE.lv p ∈ ids.set b (.lv (mkId w.heap.size kk n sz)) → IdE.lv p ∈ ids ∨ p = (mkId w.heap.size kk n sz):=by
  intro p hp
  rcases List.mem_or_eq_of_mem_set hp with h | h
  ·exact .inl h
  ·cases h; exact .inr rfl
 have hi:∀ b',imOf c ids w b' → imOf c (ids.set b (.lv (mkId w.heap.size kk n sz))) (w.alloc ob) b':=by
  intro b' h
  have hlt:=imOf_lt hs h
  rcases h with h | ⟨h1,h2,h3⟩
  ·exact .inl h
  ·refine .inr ⟨h1,by omega,fun p hp=>?_⟩
   rcases hmem p hp with h | rfl
   ·exact h3 p h
   ·intro hx; have:=mkId_has hx; omega
 have hh:∀ b',imOf c ids w b' → (w.alloc ob).heap[b']? = w.heap[b']?:=fun b' h=>hbw.block b' (imOf_lt hs h)
 have hd:∀ (b':Nat) p,ids[b']? = some p → p ≠ .dead → (ids.set b (.lv (mkId w.heap.size kk n sz)))[b']? = some p:=by
  intro b' p h hp
  rw [List.getElem?_set]
  split
  ·rename_i e; subst e
   rw [List.getElem?_eq_getElem hbi,hdead] at h
   exact absurd (Option.some.inj h).symm hp
  ·exact h
 refine ⟨hs.defers,hs.len,fun i h h'=>(hs.slots i h h').mono hi hh hd,by simp [hs.mlen],?_,?_,?_,hs.frame.trans (hbw.mono hs.frame.size),hs.im0lt,fun vs' h=>?_⟩
 ·intro i h h'
  simp only [List.length_set] at h h'
  rw [List.getElem_set,List.getElem_set]
  split
  ·exact hx _ _ _ hi hh hd rfl
  ·refine (hs.blks i h h').mono hi hh hd ?_
   intro q hq k hk
   exact hbw.block _ (hs.freshX q (by rw [← hq]; exact List.getElem_mem _) k hk).2
 ·intro i j p q x h1 h2 h3 h3'
  rw [List.getElem?_set] at h1 h2
  split at h1
  ·rename_i e1
   split at h2
   ·rename_i e2; omega
   ·cases h1
    have:=(hs.freshX q (List.mem_of_getElem? h2) x h3').2
    have:=mkId_has h3; omega
  ·split at h2
   ·cases h2
    have:=(hs.freshX p (List.mem_of_getElem? h1) x h3).2
    have:=mkId_has h3'; omega
   ·exact hs.distinctX i j p q x h1 h2 h3 h3'
 ·intro p hp x hx
  rcases hmem p hp with h | rfl
  ·have:=hs.freshX p h x hx; exact ⟨this.1,by omega⟩
  ·rw [mkId_has hx]; exact ⟨.inl hs.frame.size,by simp [hsz]⟩
 ·rcases List.mem_or_eq_of_mem_set h with h | h
  ·exact hs.gho vs' h
  ·cases h
theorem Sim.allocAt (hs:Sim c s m a w ids) (b:Nat) (hb:m[b]? = some .dead) (x:Blk) (vs:Array Value) (ty:TypeId) (n sz:Nat)
  (hx:∀ ids' im' w',(∀ b,imOf c ids w b → im' b) → (∀ b,imOf c ids w b → w'.heap[b]? = w.heap[b]?) → (∀ (b:Nat) p,ids[b]? = some p → p ≠ .dead → ids'[b]? = some p) →
   w'.heap[w.heap.size]? = some (.cells vs ty (0,0)) → BRel ids' im' w' x (.lv (mkId w.heap.size vs.size n sz))) :
  Sim c s (m.set b x) a (w.alloc (.cells vs ty)) (ids.set b (.lv (mkId w.heap.size vs.size n sz))) :=
 hs.allocAtO b hb x (.cells vs ty) vs.size n sz fun ids' im' w' h1 h2 h3 h4=>hx ids' im' w' h1 h2 h3 (h4.trans (by
  show (w.heap.push _)[w.heap.size]? = _
  simp))

def isAlloc:Op → Bool
 | .alloc _=>true
 | .box _ _=>true
 | .buildSlice _ _ _=>true
 | .makeSlice _ _ _=>true
 | .call { callee:=.builtin .append,.. }=>true
 | .makeMap _ none=>true
 | _=>false
theorem updB_zip (m:List Blk):∀ (xs:List Blk) (k:Nat),updB m (zipU k xs) = setAt m k xs
 | [],_=>rfl
 | x :: xs,k=>by rw [zipU,updB,updB_zip m xs (k + 1)]; rfl

/-- A new block at a kept place. -/
theorem wp_newAt (hs:Sim c s m a w ids) {aid:Nat} (hdead:m[aid]? = some .dead) (x:Blk) (vs:Array Value) (ty:TypeId) (n sz:Nat) {r:A} {v:Value}
  (hrun:(execOp a.eval o).run P w = .ok (.value v) (w.alloc (.cells vs ty)))
  (hx:∀ ids' im' w',(∀ b,imOf c ids w b → im' b) → (∀ b,imOf c ids w b → w'.heap[b]? = w.heap[b]?) → (∀ (b:Nat) p,ids[b]? = some p → p ≠ .dead → ids'[b]? = some p) →
   w'.heap[w.heap.size]? = some (.cells vs ty (0,0)) → BRel ids' im' w' x (.lv (mkId w.heap.size vs.size n sz)))
  (hr:∀ ids' im' w',ids'[aid]? = some (.lv (mkId w.heap.size vs.size n sz)) → Rel ids' im' w' r v)
  (hn:∀ a' w' ids',Sim c (putD s o.dst r) (m.set aid x) a' w' ids' → next a' w'):o.wp P a w next Q:=by
 have hs':=hs.allocAt aid hdead x vs ty n sz hx
 refine wp_of_run hrun (hn _ _ _ (hs'.putD o.dst (hr _ _ _ ?_)))
 have hl:=(List.getElem?_eq_some_iff.1 hdead).1
 have:aid < ids.length:=by rw [hs.mlen]; exact hl
 rw [List.getElem?_set_self this]

theorem dApp_sound (htt:TTok P tt) (hs:Sim c s m a w ids) {t:TypeId} {X Y:Operand} (ho:o.op = .call { callee:=.builtin .append,args:=#[X,Y],argTypes:=#[t,t] }) {aid:Nat} {r:Oc}
  (h:dApp tt t (ev s X) (ev s Y) aid m fun v u rd=>v = r.v ∧ u = r.u ∧ rd = r.rd)
  (hn:∀ a' w' ids',Sim c (putD s o.dst r.v) (updB m r.u) a' w' ids' → next a' w'):o.wp P a w next Q:=by
 have hx:=hs.ev X
 have hy:=hs.ev Y
 have e:(execOp a.eval o) = (do pure (.value (← Builtin.append_ #[t,t] o.type #[a.eval X,a.eval Y]))):=by
  obtain ⟨dst,op,ty,pos,after,guard⟩:=o
  simp only at ho; subst ho
  simp [execOp,resolve,invoke,builtin]
 unfold dApp at h
 split at h
 ·exact h.elim
 ·rename_i ti hti
  obtain ⟨i0,d,z0,_,hd,_,_,_,_,_,_,_,_,_,hk3,_⟩:=htt.facts hti
  split at h
  ·rename_i n2 row2 hk hv
   obtain ⟨ie,ze,hd',hie,hsz,hby,hz,hzs,hne⟩:=hk3 hk
   subst hd'
   obtain ⟨news,hR2,hyv⟩:=vrow_sound hs hv hy
   have hyv':(a.eval Y = .slice none 0 0 ∧ n2 = 0 ∧ news = []) ∨ ∃ ad cp,a.eval Y = .slice (some ad) n2 cp ∧ news.length = n2 * ie.size ∧ (∀ j u,news[j]? = some u → w.cell? (ad.add j) = some u):=by
    rcases hyv with h | ⟨ad,cp,h1,h2⟩
    ·exact .inl h
    ·exact .inr ⟨ad,cp,h1,by rw [hsz]; exact hR2.1,h2⟩
   have hzs':ze.cells.size = ie.size:=by rw [hzs,hsz]
   split at h
   ·rename_i b hxv
    rw [hxv] at hx
    split at h
    ·rename_i ty sz n row hb
     split at h
     ·rename_i hb1 hb2
      have hb1:=Nat.eq_of_beq_eq_true hb1
      have hb2:=Nat.eq_of_beq_eq_true hb2
      subst hb1; subst hb2
      simp only [fnat_eq] at h
      obtain ⟨⟨hc1,hc2⟩,h⟩:=h
      obtain ⟨⟨r1,r2,_⟩,hdd,hdl⟩:=free_inv h
      have hdead:=free_at hdd hdl
      obtain ⟨hlt,hm⟩:=getD_row hb
      have hbi:b < ids.length:=by rw [hs.mlen]; exact hlt
      have hal:aid < m.length:=(List.getElem?_eq_some_iff.1 hdead).1
      have hbm:m[b]? ≠ some .dead:=by rw [List.getElem?_eq_getElem hlt,hm]; simp
      have hab:aid ≠ b:=fun e=>by subst e; exact hbm hdead
      have hB:=hs.blks b hlt hbi
      rw [hm] at hB
      have hset:updB m [(aid,Blk.row ti.ety ti.esz (n + n2) (rowCat n row row2)),(b,.gone)] = (m.set b .gone).set aid (.row ti.ety ti.esz (n + n2) (rowCat n row row2)):=rfl
      have hxs:∃ xs,RowsV (imOf c ids w) w n ti.esz row xs ∧ ((a.eval X = .slice none 0 0 ∧ n = 0 ∧ xs = []) ∨ ∃ g cap cur,a.eval X = .slice (some ⟨g,0,none⟩) n cap ∧ w.heap[g]? = some (.cells cur ti.ety (0,0)) ∧ n ≤ cap ∧ cap ≤ maxLen ∧ cur.size = cap * ie.size ∧ cur.toList.take (n * ie.size) = xs) ∧
        ((a.eval X).ownBlock = none ∨ ∃ p,ids[b]? = some (.lv p) ∧ (a.eval X).ownBlock = some p.blk):=by
       rcases hs.own_at hx (by rw [hb]; simp) with ⟨h1,h2⟩ | ⟨p,cap,h1,h2,h3,h4⟩
       ·have:ids[b] = .virt:=by rw [List.getElem?_eq_getElem hbi] at h1; exact Option.some.inj h1
        rw [this] at hB
        have hB:n = 0:=hB
        subst hB
        exact ⟨[],RowsV.nil _ _ _ _,.inl ⟨h2,rfl,rfl⟩,.inl (by rw [h2]; rfl)⟩
       ·have:ids[b] = .lv p:=by rw [List.getElem?_eq_getElem hbi] at h1; exact Option.some.inj h1
        rw [this] at hB
        obtain ⟨cur,e1,e2,g1,g2,g3,hR⟩:=hB.rowsV
        subst e2
        exact ⟨_,hR,.inr ⟨p.blk,cap,cur,h4,g1,h2.1,h2.2,by rw [g2,← h3,e1,hsz],by rw [hsz]⟩,.inr ⟨p,h1,by rw [h4]; rfl⟩⟩
      obtain ⟨xs,hR1,hxv',hown⟩:=hxs
      obtain ⟨v',w',hrun,o1,o2,o3,o4,o5,odr,o6⟩:=append_out (P:=P) (w:=w) t o.type ti.ety ie ze hd hie hz hzs' (a.eval X) n xs hxv' (a.eval Y) n2 news hyv' hR2.2.1 hc1 (by rw [hby]; exact hc2)
      have hRR:=hR1.cat hR2
      have hblk:∀ k,k < w.heap.size → (∀ p,ids[b]? = some (.lv p) → ¬ p.has k) → w'.heap[k]? = w.heap[k]?:=by
       intro k hk hp
       refine o5 k hk (fun e=>?_)
       rcases hown with h | ⟨p,h1,h2⟩
       ·rw [h] at e; cases e
       ·rw [h2] at e; exact hp p h1 (.inl (Option.some.inj e).symm)
      rcases o6 with ⟨rfl,hnil⟩ | ⟨g,cap,cur,rfl,q1,q2,q3,q4,q5,q6,q7⟩
      ·have hs':=hs.regrow (w':=w') b aid hlt hbm hdead .virt (.row ti.ety ti.esz (n + n2) (rowCat n row row2)) o1 o2 o3 o4 hblk (fun _ h=>by cases h) (fun p' h=>by cases h) (fun _=>hnil) odr
       refine wp_of_run (v:=.slice none 0 0) (w':=w') (by rw [e]; simp [hrun]) (hn _ _ _ (by
        rw [← r1,← r2,hset]
        refine hs'.putD o.dst (.own0 aid ?_)
        rw [List.getElem?_set_self (by simp; rw [hs.mlen]; exact hal)]))
      ·rw [hsz] at q4 q5
       have hs':=hs.regrow (w':=w') b aid hlt hbm hdead (.lv (mkId g cur.size (n + n2) ti.esz)) (.row ti.ety ti.esz (n + n2) (rowCat n row row2)) o1 o2 o3 o4 hblk (fun _ h=>by cases h)
        (fun p' h x hx=>by
         cases h
         have:=mkId_has hx
         subst this
         refine ⟨q6,?_⟩
         rcases q7 with h | h
         ·exact .inl h
         ·rcases hown with h' | ⟨p,h1,h2⟩
          ·rw [h'] at h; cases h
          ·rw [h2] at h; exact .inr ⟨p,h1,.inl (Option.some.inj h).symm⟩)
        (fun hm=>BRel.ofRowsV q1 q4 q2 q5 (hRR.mono hm)) odr
       refine wp_of_run (v:=.slice (some ⟨g,0,none⟩) (n + n2) cap) (w':=w') (by rw [e]; simp [hrun]) (hn _ _ _ (by
        rw [← r1,← r2,hset]
        refine hs'.putD o.dst (.own aid cap (mkId g cur.size (n + n2) ti.esz) ?_ ⟨q2,q3⟩ q4.symm)
        rw [List.getElem?_set_self (by simp; rw [hs.mlen]; exact hal)]))
     ·exact h.elim
    ·exact h.elim
   ·exact h.elim
  ·exact h.elim

theorem dTake_sound (htt:TTok P tt) (hs:Sim c s m a w ids) {t:TypeId} {X:Operand} (ho:o.op = .load t X) {b i off:Nat} (hX:ev s X = .oref b i off) {ty ety:TypeId} {sz n:Nat} {hole:Option Nat} {len:Nat → Nat} {row:Nat → Nat → List A}
  (hb:m.getD b .dead = .nest ty ety sz n hole len row) {aid:Nat} {r:Oc} (h:dTake tt t b i off ty ety sz n hole len row aid m fun v u rd=>v = r.v ∧ u = r.u ∧ rd = r.rd)
  (hn:∀ a' w' ids',Sim c (putD s o.dst r.v) (updB m r.u) a' w' ids' → next a' w'):o.wp P a w next Q:=by
 unfold dTake at h
 split at h
 ·exact h.elim
 ·rename_i ti hti
  split at h
  ·rename_i hk he1 he2
   obtain ⟨hin,h⟩:=h
   obtain ⟨⟨r1,r2,_⟩,hdd,hdl⟩:=free_inv h
   have hdead:=free_at hdd hdl
   obtain ⟨i0,d,z,hi,hd,_,_,_,_,_,hag,_,_,hk2,hk3,_⟩:=htt.facts hti
   obtain ⟨ie,ze,hde,hie,hesz,_⟩:=hk3 hk
   subst hde
   obtain ⟨p,vs,ids',v,q1,q2,q3,q4,q5,q6⟩:=hs.takeAt hdead hb hin
   have hx:=hs.ev X
   rw [hX] at hx
   obtain ⟨p',g1,g2⟩:=hs.oref_at hx (by rw [hb]; simp)
   rw [q1] at g1; cases g1
   have hc:w.cell? ⟨p.blk,i * p.sz + 0,none⟩ = some v:=by
    rw [q4,cell_of_row w p.blk _ vs ty (0,0) q2]; simpa using q3
   have hrun:=run_loadVar_one (P:=P) (w:=w) hd (by rfl) p.blk (i * p.sz + 0) v hc
   refine wp_of_run (v:=v) (w':=w) ?_ (hn _ _ ids' (by rw [← r1,← r2]; exact q5.putD o.dst q6))
   have e1:execOp a.eval o = (do let z ← loadVar t ⟨p.blk,i * p.sz + 0,none⟩; pure (.value z)):=by
    unfold execOp; rw [ho]; simp only [g2]; rfl
   rw [e1]; simp at hrun; simp [hrun]
  ·exact h.elim

theorem dPut_sound (htt:TTok P tt) (hs:Sim c s m a w ids) {t:TypeId} {X Y:Operand} (ho:o.op = .store t X Y) {b i off:Nat} (hX:ev s X = .oref b i off) {ty ety:TypeId} {sz n:Nat} {hole:Option Nat} {len:Nat → Nat} {row:Nat → Nat → List A}
  (hb:m.getD b .dead = .nest ty ety sz n hole len row) {r:Oc} (h:dPut tt t b i off (ev s Y) ty ety sz n hole len row m fun v u rd=>v = r.v ∧ u = r.u ∧ rd = r.rd)
  (hn:∀ a' w' ids',Sim c (putD s o.dst r.v) (updB m r.u) a' w' ids' → next a' w'):o.wp P a w next Q:=by
 unfold dPut at h
 split at h
 ·rename_i b' ti j hY hti
  split at h
  ·rename_i ety' sz' n' row' hsz1 hb' hbb
   split at h
   ·rename_i he1 he2
    have hsz1:ti.size = 1:=Nat.eq_of_beq_eq_true hsz1
    have he1:=Nat.eq_of_beq_eq_true he1
    have he2:=Nat.eq_of_beq_eq_true he2
    subst he1; subst he2
    obtain ⟨⟨hij,hin⟩,r1,r2,_⟩:=h
    subst hij
    have hne:b ≠ b':=fun e=>by subst e; rw [Nat.beq_refl] at hbb; cases hbb
    have hx:=hs.ev X
    have hy:=hs.ev Y
    rw [hX] at hx; rw [hY] at hy
    obtain ⟨i0,d,z,hi,hd,_,hsz0,_⟩:=htt.facts hti
    obtain ⟨p,vs,ids',q1,q2,q3,q4,q5⟩:=hs.putStale hb hb' hne hin hy
    obtain ⟨p',g1,g2⟩:=hs.oref_at hx (by rw [hb]; simp)
    rw [q1] at g1; cases g1
    obtain ⟨o1,o2⟩:=one_rel (by rfl) hy
    have hst:=run_storeVar (P:=P) (w:=w) hi p.blk (i * p.sz + 0) ty vs (a.eval Y) [a.eval Y] o2 (by rw [hsz0,hsz1]; rfl) (by intro u hu; rw [List.mem_singleton.1 hu]; exact o1) q2 (by rw [q4]; simp; omega)
    rw [q4] at hst
    simp only [Nat.mul_one,Nat.add_zero] at hst
    rw [set_take vs i _ q3] at hst
    refine wp_of_skip (w':=w.setRow p.blk (vs.setIfInBounds i (a.eval Y))) ?_ (hn _ _ ids' (by rw [← r1,← r2]; exact q5.junk_put o.dst _))
    have e1:execOp a.eval o = (do storeVar t ⟨p.blk,i * p.sz + 0,none⟩ (a.eval Y); pure .skip):=by
     unfold execOp; rw [ho]; simp only [g2]; rfl
    rw [e1,q4]; simp [hst]
   ·exact h.elim
  ·exact h.elim
 ·exact h.elim

theorem stepQ_sound (htt:TTok P tt) (hG:G.ok c) (hs:Sim c s m a w ids) {r:Oc} (h:stepQ P G tt o s m fun v u rd=>v = r.v ∧ u = r.u ∧ rd = r.rd)
  (hn:∀ a' w' ids',Sim c (putD s o.dst r.v) (updB m r.u) a' w' ids' → next a' w'):o.wp P a w next Q:=by
 unfold stepQ at h
 split at h
 ·rename_i rd0 hq hr
  refine step_sound (K:=fun v m'=>(v = r.v ∧ [] = r.u ∧ rd0 = r.rd) ∧ m' = m) htt hG hs ?_ ?_
  ·rw [step_m hq]; simpa using h
  ·rintro v m' a' w' ids' ⟨⟨rfl,e2,_⟩,rfl⟩ hs'
   refine hn a' w' ids' ?_
   rw [← e2]; exact hs'
 ·exact h.elim

theorem dEnt_sound (htt:TTok P tt) (hs:Sim c s m a w ids) {t:TypeId} {X Y:Operand} (ho:o.op = .mapEntry t X Y) {r:Oc} (h:dEnt tt t (ev s X) (ev s Y) m fun v u rd=>v = r.v ∧ u = r.u ∧ rd = r.rd)
  (hn:∀ a' w' ids',Sim c (putD s o.dst r.v) (updB m r.u) a' w' ids' → next a' w'):o.wp P a w next Q:=by
 unfold dEnt at h
 obtain ⟨agg,sh,z,h1,h2⟩:=mapTy_ex h
 refine sEnt_sound (K:=fun v' m'=>v' = r.v ∧ m' = updB m r.u) htt hs ho ?_ ?_
 ·unfold sEnt
  refine h2 _ ?_
  split at h1
  ·rename_i k b hk hx
   split at h1
   ·rename_i hb
    split at h1
    ·rename_i g1 g2
     simp only [hk,hx,hb,g1,g2,setB_eq]
     exact ⟨h1.1,by rw [← h1.2.1]; rfl⟩
    ·exact h1.elim
   ·exact h1.elim
  ·exact h1.elim
 ·rintro v' m' a' w' ids' ⟨rfl,rfl⟩ hs'
  exact hn a' w' ids' hs'
theorem dESt_sound (hs:Sim c s m a w ids) {t:TypeId} {X Y Z:Operand} (ho:o.op = .entryStore t X Y Z) {r:Oc} (h:dESt (ev s X) (ev s Y) (ev s Z) m fun v u rd=>v = r.v ∧ u = r.u ∧ rd = r.rd)
  (hn:∀ a' w' ids',Sim c (putD s o.dst r.v) (updB m r.u) a' w' ids' → next a' w'):o.wp P a w next Q:=by
 unfold dESt at h
 refine sESt_sound (K:=fun v' m'=>v' = r.v ∧ m' = updB m r.u) hs ho ?_ ?_
 ·unfold sESt
  split at h
  ·rename_i b b' k hx hy hown
   split at h
   ·rename_i g1 hb
    rw [fd_eq] at h
    simp only [hx,hy,hown,g1,hb,fd_eq,setB_eq]
    exact ⟨h.1,by rw [← h.2.1]; rfl⟩
   ·exact h.elim
  ·exact h.elim
 ·rintro v' m' a' w' ids' ⟨rfl,rfl⟩ hs'
  exact hn a' w' ids' hs'
theorem dOwnSl_sound (htt:TTok P tt) (hs:Sim c s m a w ids) {t:TypeId} {X:Operand} {hi:Option Operand} {b:Nat} (ho:o.op = .slice t X none hi none) (hX:ev s X = .own b) {aid:Nat} {r:Oc}
  (h:dOwnSl tt t b (evO s hi) aid m fun v u rd=>v = r.v ∧ u = r.u ∧ rd = r.rd)
  (hn:∀ a' w' ids',Sim c (putD s o.dst r.v) (updB m r.u) a' w' ids' → next a' w'):o.wp P a w next Q:=by
 have hx:=hs.ev X
 rw [hX] at hx
 have e:execOp a.eval o = (do let z ← Instr.sliceAt t (a.eval X) ((none:Option Operand).map a.eval) (hi.map a.eval) none; pure (.value z)):=by unfold execOp; rw [ho]; rfl
 unfold dOwnSl at h
 split at h
 ·rename_i ti hti
  obtain ⟨i0,d,z0,_,hd,_,_,_,_,_,_,_,_,_,hk3,_⟩:=htt.facts hti
  split at h
  ·rename_i ty sz n row hk hb
   obtain ⟨ie,ze,hd',hie,hsz,hby,hz,hzs,hne⟩:=hk3 hk
   subst hd'
   have hun:P.underlying t = some (.slice (P.elem t)):=by
    have:P.elem t = ti.ety:=by simp [Program.elem,hd]
    rw [this]; exact hd
   have hel:P.elem t = ti.ety:=by simp [Program.elem,hd]
   obtain ⟨hlt,hm⟩:=getD_row hb
   have hbi:b < ids.length:=by rw [hs.mlen]; exact hlt
   have hbm:m[b]? ≠ some .dead:=by rw [List.getElem?_eq_getElem hlt,hm]; simp
   have hB:=hs.blks b hlt hbi
   rw [hm] at hB
   rcases hs.own_at hx (by rw [hb]; simp) with ⟨h1,h2⟩ | ⟨p,cap,h1,h2,h3,h4⟩
   ·have:ids[b] = .virt:=by rw [List.getElem?_eq_getElem hbi] at h1; exact Option.some.inj h1
    rw [this] at hB
    have hB:n = 0:=hB
    subst hB
    obtain ⟨hb',h,b1,b2,b3⟩:=bnd_run hs h (Nat.le_refl _)
    have h0:hb' = 0:=by
     cases hi with
     | none=>exact b1 rfl
     | some L=>have:=b2 rfl; omega
    subst h0
    obtain ⟨⟨r1,r2,_⟩,hdd,hdl⟩:=free_inv h
    have hdead:=free_at hdd hdl
    have hal:aid < m.length:=(List.getElem?_eq_some_iff.1 hdead).1
    have hs':=hs.regrow (w':=w) b aid hlt hbm hdead .virt (.row ty sz 0 row) rfl rfl rfl (Nat.le_refl _) (fun _ _ _=>rfl) (fun _ h=>by cases h) (fun p' h=>by cases h) (fun _=>rfl)
    refine wp_of_run (v:=.slice none 0 0) (w':=w) ?_ (hn _ _ _ (by
     rw [← r1,← r2]
     refine hs'.putD o.dst (.own0 aid ?_)
     rw [List.getElem?_set_self (by simp; rw [hs.mlen]; exact hal)]))
    rw [e,h2,Sem.run_bind,run_sliceAt_slice _ _ _ _ _ _ hun,run_slice_any _ _ _ _ _ hun]
    have:=bounds_run (P:=P) (w:=w) (a:=a) (isS:=true) (len:=0) (cap:=0) (lo:=none) b1 (fun _=>rfl) b3 (fun X h=>by cases h)
    simp only [Option.map_none] at this
    simp [this,hel,sizeOf,typeInfo,hie,hsz,sliced]
   ·have:ids[b] = .lv p:=by rw [List.getElem?_eq_getElem hbi] at h1; exact Option.some.inj h1
    rw [this] at hB
    obtain ⟨hb',h,b1,b2,b3⟩:=bnd_run hs h (show n ≤ cap by have:=hB.2.1; omega)
    obtain ⟨e1,e2,vs,g1,g2,g3,g4,g5⟩:=hB
    have hle:hb' ≤ n:=by
     cases hi with
     | none=>have:=b1 rfl; omega
     | some L=>exact b2 rfl
    obtain ⟨⟨r1,r2,_⟩,hdd,hdl⟩:=free_inv h
    have hdead:=free_at hdd hdl
    have hal:aid < m.length:=(List.getElem?_eq_some_iff.1 hdead).1
    have hs':=hs.regrow (w':=w) b aid hlt hbm hdead (.lv (mkId p.blk p.k hb' p.sz)) (.row ty sz hb' row) rfl rfl rfl (Nat.le_refl _) (fun _ _ _=>rfl) (fun _ h=>by cases h)
     (fun p' h x hx=>by cases h; rw [mkId_has hx]; exact ⟨(hs.fresh p (List.mem_of_getElem? h1)).2,.inr ⟨p,h1,.inl rfl⟩⟩)
     (fun hmm=>⟨e1,rfl,vs,g1,g2,Nat.le_trans (Nat.mul_le_mul_right _ hle) g3,fun i hi=>g4 i (by omega),fun i j hi h h'=>⟨hmm _ _ (g5 i j (by omega) h h').1,(g5 i j (by omega) h h').2⟩⟩)
    refine wp_of_run (v:=.slice (some ⟨p.blk,0,none⟩) hb' cap) (w':=w) ?_ (hn _ _ _ (by
     rw [← r1,← r2]
     refine hs'.putD o.dst (.own aid cap (mkId p.blk p.k hb' p.sz) ?_ ⟨by show hb' ≤ cap; omega,h2.2⟩ h3)
     rw [List.getElem?_set_self (by simp; rw [hs.mlen]; exact hal)]))
    rw [e,h4,Sem.run_bind,run_sliceAt_slice _ _ _ _ _ _ hun,run_slice_any _ _ _ _ _ hun,e2]
    have:=bounds_run (P:=P) (w:=w) (a:=a) (isS:=true) (len:=n) (cap:=cap) (lo:=none) b1 (fun _=>rfl) b3 (fun X h=>by cases h)
    simp only [Option.map_none] at this
    have e3:(⟨p.blk,0,none⟩ : Addr).add 0 = ⟨p.blk,0,none⟩:=rfl
    simp [this,hel,sizeOf,typeInfo,hie,hsz,sliced,e3]
  ·exact h.elim
 ·exact h.elim
theorem dLook_sound (htt:TTok P tt) (hs:Sim c s m a w ids) {t:TypeId} {X Y:Operand} {ok:Bool} (ho:o.op = .lookup t X Y ok) {r:Oc} (h:dLook tt t (ev s X) (ev s Y) ok m fun v u rd=>v = r.v ∧ u = r.u ∧ rd = r.rd)
  (hn:∀ a' w' ids',Sim c (putD s o.dst r.v) (updB m r.u) a' w' ids' → next a' w'):o.wp P a w next Q:=by
 unfold dLook at h
 obtain ⟨v,⟨rfl,e2,_⟩,h1⟩:=(DM_sLook (tt:=tt) (m:=m) t _ _ ok _).1 h
 refine sLook_sound (K:=fun v' m'=>v' = r.v ∧ m' = m) htt hs ho ?_ ?_
 ·simpa using h1
 ·rintro v' m' a' w' ids' ⟨rfl,rfl⟩ hs'
  refine hn a' w' ids' ?_
  rw [← e2]; exact hs'
theorem dUpd_sound (htt:TTok P tt) (hs:Sim c s m a w ids) {t:TypeId} {X Y Z:Operand} (ho:o.op = .mapUpdate t X Y Z ∨ o.op = .insert t X Y Z) {r:Oc} (h:dUpd tt t (ev s X) (ev s Y) (ev s Z) m fun v u rd=>v = r.v ∧ u = r.u ∧ rd = r.rd)
  (hn:∀ a' w' ids',Sim c (putD s o.dst r.v) (updB m r.u) a' w' ids' → next a' w'):o.wp P a w next Q:=by
 unfold dUpd at h
 obtain ⟨agg,sh,z,h1,h2⟩:=mapTy_ex h
 refine sUpd_sound (K:=fun v' m'=>v' = r.v ∧ m' = updB m r.u) htt hs ho ?_ ?_
 ·unfold sUpd
  refine h2 _ ?_
  split at h1
  ·rename_i k b hk hx hown
   split at h1
   ·rename_i hb
    split at h1
    ·rename_i g1 g2
     rw [fd_eq] at h1
     simp only [hk,hx,hown,hb,g1,g2,fd_eq,setB_eq]
     exact ⟨h1.1,by rw [← h1.2.1]; rfl⟩
    ·exact h1.elim
   ·exact h1.elim
  ·exact h1.elim
 ·rintro v' m' a' w' ids' ⟨rfl,rfl⟩ hs'
  exact hn a' w' ids' hs'
theorem dDel_sound (htt:TTok P tt) (hs:Sim c s m a w ids) {t t':TypeId} {X Y:Operand} (ho:o.op = .call { callee:=.builtin .delete,args:=#[X,Y],argTypes:=#[t,t'] }) {r:Oc} (h:dDel tt t (ev s X) (ev s Y) m fun v u rd=>v = r.v ∧ u = r.u ∧ rd = r.rd)
  (hn:∀ a' w' ids',Sim c (putD s o.dst r.v) (updB m r.u) a' w' ids' → next a' w'):o.wp P a w next Q:=by
 unfold dDel at h
 obtain ⟨agg,sh,z,h1,h2⟩:=mapTy_ex h
 refine sDel_sound (K:=fun v' m'=>v' = r.v ∧ m' = updB m r.u) htt hs ho ?_ ?_
 ·unfold sDel
  refine h2 _ ?_
  split at h1
  ·rename_i k b hk hx
   split at h1
   ·rename_i hb
    split at h1
    ·rename_i g1 g2
     simp only [hk,hx,hb,g1,g2,setB_eq]
     exact ⟨h1.1,by rw [← h1.2.1]; rfl⟩
    ·exact h1.elim
   ·exact h1.elim
  ·exact h1.elim
 ·rintro v' m' a' w' ids' ⟨rfl,rfl⟩ hs'
  exact hn a' w' ids' hs'
theorem dMkMap_sound (htt:TTok P tt) (hs:Sim c s m a w ids) {t:TypeId} (ho:o.op = .makeMap t none) {aid:Nat} {r:Oc} (h:dMkMap tt t aid m fun v u rd=>v = r.v ∧ u = r.u ∧ rd = r.rd)
  (hn:∀ a' w' ids',Sim c (putD s o.dst r.v) (updB m r.u) a' w' ids' → next a' w'):o.wp P a w next Q:=by
 have e:execOp a.eval o = (do pure (.value (← Instr.makeMap t none))):=by
  obtain ⟨dst,op,ty,pos,after,guard⟩:=o
  simp only at ho; subst ho; rfl
 unfold dMkMap at h
 obtain ⟨kt,et,agg,sh,z,zv,h1,h2,_,_,h⟩:=mapTy_inv htt h (imOf c ids w) w
 obtain ⟨⟨r1,r2,_⟩,hdd,hdl⟩:=free_inv h
 have hdead:=free_at hdd hdl
 have hs':=hs.allocAtO aid hdead (.mapb agg sh (fun _=>false) (fun _=>.junk)) (.map #[] 0) 0 0 0 (fun ids' im' w' _ _ _ h4=>by
  have h4:w'.heap[w.heap.size]? = some (.map #[] 0):=h4.trans (by
   show (w.heap.push _)[w.heap.size]? = _
   simp)
  exact ⟨#[],0,fun _=>[],h4,(fun i h=>by simp at h),(fun i j h=>by simp at h),(fun k _ h=>by simp at h),(fun i h=>by simp at h),(fun i h=>by simp at h),(fun i j h=>by simp at h)⟩)
 have hl:=(List.getElem?_eq_some_iff.1 hdead).1
 have hli:aid < ids.length:=by rw [hs.mlen]; exact hl
 refine wp_of_run (v:=.map (some w.heap.size)) (w':=w.alloc (.map #[] 0)) (by rw [e]; simp only [Sem.run_bind,RowKit.run_makeMap,Result.andThen_ok]; rfl) (hn _ _ (ids.set aid (.lv (mkId w.heap.size 0 0 0))) ?_)
 rw [← r1,← r2]
 exact hs'.putD o.dst (.omap aid (mkId w.heap.size 0 0 0) (by rw [List.getElem?_set_self hli]))
theorem Out_sound (htt:TTok P tt) (hG:G.ok c) (hs:Sim c s m a w ids) {aid:Nat} {r:Oc} (h:Out P G tt o aid s m r)
  (hn:∀ a' w' ids',Sim c (putD s o.dst r.v) (updB m r.u) a' w' ids' → next a' w'):o.wp P a w next Q:=by
 unfold Out stepV at h
 split at h
 ·rename_i ho; exact dEnt_sound htt hs ho h hn
 ·rename_i ho; exact dESt_sound hs ho h hn
 ·rename_i t x lo hi ho
  unfold dSl at h
  split at h
  ·rename_i b hX hlo
   have hlo:lo = none:=by cases lo with | none=>rfl | some=>simp [evO] at hlo
   subst hlo
   exact dOwnSl_sound htt hs ho hX h hn
  ·exact stepQ_sound htt hG hs h hn
 ·rename_i ho; exact dLook_sound htt hs ho h hn
 ·rename_i ho; exact dUpd_sound htt hs (.inl ho) h hn
 ·rename_i ho; exact dUpd_sound htt hs (.inr ho) h hn
 ·rename_i ho; exact dMkMap_sound htt hs ho h hn
 ·rename_i args ts ho
  split at h
  ·rename_i x k t t' hx ht
   have e1:args = #[x,k]:=by apply Array.ext'; simpa using hx
   have e2:ts = #[t,t']:=by apply Array.ext'; simpa using ht
   subst e1; subst e2
   exact dDel_sound htt hs ho h hn
  ·exact h.elim
 ·rename_i t ho
  unfold dAlloc at h
  split at h
  ·rename_i ti ht
   obtain ⟨⟨e1,e2,_⟩,hdd,hdl⟩:=free_inv h
   obtain ⟨i,d,z,hi,hd,hz,hsz,hone,hzs,hzero,_⟩:=htt.facts ht
   refine wp_newAt hs (free_at hdd hdl) (.box t ti.zero) z.cells t 0 0 (r:=r.v) (v:=.pointer (some ⟨w.heap.size,0,none⟩)) ?_ ?_ ?_ (fun a' w' ids' hs'=>hn a' w' ids' (by rw [← e2]; exact hs'))
   ·unfold execOp; rw [ho]; simp [Instr.alloc,zeroValue,typeInfo,hi,hz,newVar,newRow]
   ·intro ids' im' w' g1 g2 g3 g4
    refine ⟨z.cells,g4,rfl,by simp [hzero],?_⟩
    intro j hj hj'
    refine ⟨?_,hone _ (by simp)⟩
    simp only [hzero,List.getElem_map,Array.getElem_toList]
    exact .imm (ofConst_rel _ _ _)
   ·intro ids' im' w' g; rw [← e1]; exact .ref aid 0 _ g
  ·exact h.elim
 ·rename_i t x ho
  unfold dBox at h
  split at h
  ·rename_i cs hc
   obtain ⟨⟨e1,e2,_⟩,hdd,hdl⟩:=free_inv h
   obtain ⟨vs,h1,h2,h3,h4⟩:=cells_rel hc (hs.ev x)
   refine wp_newAt hs (free_at hdd hdl) (.box t cs) vs.toArray t 0 0 (r:=r.v) (v:=.pointer (some ⟨w.heap.size,0,none⟩)) ?_ ?_ ?_ (fun a' w' ids' hs'=>hn a' w' ids' (by rw [← e2]; exact hs'))
   ·unfold execOp; rw [ho]; simp [Instr.box,newVar,newRow,h1]
   ·intro ids' im' w' g1 g2 g3 g4
    refine ⟨vs.toArray,g4,rfl,by simp [h2],?_⟩
    intro j hj hj'
    simp at hj'
    refine ⟨(by simpa using (h4 j hj hj').mono g1 g2 g3),?_⟩
    simpa using h3 _ (List.getElem_mem hj')
   ·intro ids' im' w' g; rw [← e1]; exact .ref aid 0 _ g
  ·exact h.elim
 ·rename_i t len ps ho
  unfold dBuildSl at h
  split at h
  ·rename_i ti ht
   split at h
   ·rename_i te hk hte hble
    obtain ⟨cs',vs',f2,hrest⟩:=bsl_run (P:=P) htt hs ht hk hte (Nat.le_of_ble_eq_true hble) h
    split at f2
    ·rename_i hown hlen
     split at f2
     ·simp only [fnat_eq] at f2
      obtain ⟨⟨e1,e2,_⟩,hdd,hdl⟩:=free_inv f2
      obtain ⟨hrun,hvl,hmx,hB⟩:=hrest hown (Nat.eq_of_beq_eq_true hlen)
      refine wp_newAt hs (free_at hdd hdl) _ vs' ti.ety len ti.esz (r:=r.v) (v:=.slice (some ⟨w.heap.size,0,none⟩) len len) ?_ hB ?_ (fun a' w' ids' hs'=>hn a' w' ids' (by rw [← e2]; exact hs'))
      ·unfold execOp; rw [ho]; simp only [Sem.run_bind,hrun]; rfl
      ·intro ids' im' w' g; rw [← e1]; exact .own aid len _ g ⟨Nat.le_refl _,hmx⟩ hvl.symm
     ·simp only [fnat_eq] at f2
      obtain ⟨e1,e2,_⟩:=f2
      obtain ⟨hrun,hvl,hmx,hB⟩:=hrest hown (Nat.eq_of_beq_eq_true hlen)
      have hbw:=below_alloc w (.cells vs' ti.ety)
      have hs':=hs.same hbw
      have hnew:(w.alloc (.cells vs' ti.ety)).heap[w.heap.size]? = some (.cells vs' ti.ety (0,0)):=heap_alloc_new w _
      have him:∀ b,imOf c ids w b → imOf c ids (w.alloc (.cells vs' ti.ety)) b:=by
       intro b hb
       rcases hb with hb | ⟨h1,h2,h3⟩
       ·exact .inl hb
       ·exact .inr ⟨h1,Nat.lt_of_lt_of_le h2 hbw.size,h3⟩
      have hB':=hB ids (imOf c ids (w.alloc (.cells vs' ti.ety))) (w.alloc (.cells vs' ti.ety)) him (fun b hb=>hbw.block b (imOf_lt hs hb)) (fun _ _ h _=>h) hnew
      refine wp_of_run (w':=w.alloc (.cells vs' ti.ety)) (v:=.slice (some ⟨w.heap.size,0,none⟩) len len) (by unfold execOp; rw [ho]; simp only [Sem.run_bind,hrun]; rfl) (hn _ _ ids ?_)
      rw [← e1,← e2]
      refine hs'.putD o.dst (.imm ?_)
      obtain ⟨_,_,vs2,q1,q2,q3,q4,q5⟩:=hB'
      have q1:(w.alloc (.cells vs' ti.ety)).heap[w.heap.size]? = some (.cells vs2 ti.ety (0,0)):=q1
      rw [hnew] at q1
      have q1:vs' = vs2:=by simpa using q1
      subst q1
      have hlt:∀ i j,i < len → j < (takeL ti.esz (cs'.drop (i * ti.esz))).length → i * ti.esz + j < vs'.size:=by
       intro i j hi hj
       rw [q4 i hi] at hj
       have:=Nat.mul_le_mul_right ti.esz (show i + 1 ≤ len from hi)
       rw [Nat.add_mul] at this
       omega
      refine .sl len ti.esz _ w.heap.size 0 len (fun i j=>vs'.getD (i * ti.esz + j) undef) (.inr ⟨.inl hs.frame.size,by simp,fun p hp hx=>?_⟩) (Nat.le_refl _) q4 ?_ ?_ ?_
      ·have:=(hs.freshX p hp _ hx).2; omega
      ·intro i j hi hj
       have hj':j < (takeL ti.esz (cs'.drop (i * ti.esz))).length:=by rw [q4 i hi]; exact hj
       rw [Nat.zero_add,cell_of_row _ _ _ _ _ (0,0) hnew,Array.getElem?_eq_getElem (hlt i j hi hj'),Array.getD_eq_getD_getElem?,Array.getElem?_eq_getElem (hlt i j hi hj')]; rfl
      ·intro i j hi hj
       have hj':j < (takeL ti.esz (cs'.drop (i * ti.esz))).length:=by rw [q4 i hi]; exact hj
       have:=(q5 i j hi hj' (hlt i j hi hj')).2
       rw [Array.getD_eq_getD_getElem?,Array.getElem?_eq_getElem (hlt i j hi hj')]; exact this
      ·intro i j hi hj
       have:=(q5 i j hi hj (hlt i j hi hj)).1
       rw [Array.getD_eq_getD_getElem?,Array.getElem?_eq_getElem (hlt i j hi hj)]; exact this
    ·exact f2.elim
   ·exact h.elim
  ·exact h.elim
 ·rename_i t L C ho
  have hl:=hs.ev L
  have hc:=hs.ev C
  unfold dMake at h
  split at h
  ·rename_i ti k1 l k2 k hti hL hC
   rw [hL] at hl; rw [hC] at hc
   obtain ⟨i0,d,z0,_,hd,_,_,_,_,_,_,_,_,_,hk3,_⟩:=htt.facts hti
   split at h
   ·rename_i te hk hte
    obtain ⟨ie,ze,hd',hie,hsz,hby,hz,hzs,hne⟩:=hk3 hk
    subst hd'
    obtain ⟨i1,d1,z1,hi1,_,hz1,_,hone,_,hzero,_⟩:=htt.facts hte
    have e1:i1 = ie:=by rw [hie] at hi1; exact (Option.some.inj hi1).symm
    subst e1
    have e2:z1 = ze:=by rw [hz] at hz1; exact (Option.some.inj hz1).symm
    subst e2
    simp only [fnat_eq,fl_eq] at h
    obtain ⟨⟨c1,c2,c3,c4⟩,h⟩:=h
    obtain ⟨⟨f1,f2,_⟩,hdd,hdl⟩:=free_inv h
    have hrun:=run_make (P:=P) w t ti.ety i1 z1 hd hie hz k1 k2 l k c1 c2 (by rw [hby,Int.mul_comm]; omega) (by omega)
    refine wp_newAt hs (free_at hdd hdl) (.row ti.ety ti.esz l.toNat fun _=>te.zero) (madeCells z1.cells (k.toNat * i1.size)) ti.ety l.toNat ti.esz (r:=r.v) (v:=.slice (some ⟨w.heap.size,0,none⟩) l.toNat k.toNat) ?_ ?_ ?_ (fun a' w' ids' hs'=>hn a' w' ids' (by rw [← f2]; exact hs'))
    ·unfold execOp; rw [ho]; simp only [hl.int_inv,hc.int_inv,Sem.run_bind,hrun]; rfl
    ·intro ids' im' w' g1 g2 g3 g4
     rw [hsz] at g4 ⊢
     refine BRel.ofRowsV (cap:=k.toNat) g4 (by simp [size_madeCells]) (by omega) rfl ?_
     rw [hzero]
     exact RowsV_made hzs (by omega) hone
    ·intro ids' im' w' g
     rw [← f1]
     refine .own _ k.toNat _ g ⟨by show l.toNat ≤ k.toNat; omega,by simp only [maxLen]; omega⟩ ?_
     simp [size_madeCells,hsz]
   ·exact h.elim
  ·exact h.elim
 ·rename_i args ts ho
  split at h
  ·rename_i x y t t' hx ht
   split at h
   ·rename_i he
    have he:=Nat.eq_of_beq_eq_true he
    subst he
    have e1:args = #[x,y]:=by apply Array.ext'; simpa using hx
    have e2:ts = #[t',t']:=by apply Array.ext'; simpa using ht
    subst e1; subst e2
    exact dApp_sound htt hs ho h hn
   ·exact h.elim
  ·exact h.elim
 ·rename_i f args ts ho
  rcases h with h | h
  ·exact stepQ_sound htt hG hs h hn
  ·unfold dCallN at h
   refine callN_sound hs hG ho h ?_
   intro r' mo' hk
   obtain ⟨⟨e1,e2,_⟩,hd⟩:=freeL_inv _ _ hk
   refine ⟨m,ids,hs,?_,?_⟩
   ·intro j hj; exact free_at (hd j hj).1 (hd j hj).2
   ·intro a' w' ids' hs'
    refine hn a' w' ids' ?_
    rw [← e1,← e2,updB_zip]; exact hs'
 ·rename_i t x ho
  unfold dLoad at h
  split at h
  ·rename_i b i off hx
   split at h
   ·rename_i hb; exact dTake_sound htt hs ho hx hb h hn
   ·exact stepQ_sound htt hG hs h hn
  ·exact stepQ_sound htt hG hs h hn
 ·rename_i t x i ho
  unfold dIdx at h
  split at h
  ·rename_i b hx
   split at h
   ·rename_i ty ety sz n hole len row hb
    split at h
    ·rename_i ti kk ix hti hY
     split at h
     ·rename_i hk he
      obtain ⟨h01,e1,e2,_⟩:=h
      refine stepN_sound (K:=fun s1 v m'=>s1 = s ∧ v = r.v ∧ m' = m) htt hG hs ?_ ?_
      ·unfold stepN
       rw [ho]
       simp only [hx,hb,hti,hY]
       rw [hk,he]
       exact ⟨h01,trivial,e1,trivial⟩
      ·rintro s1 v m' a' w' ids' ⟨rfl,rfl,rfl⟩ hs'
       refine hn a' w' ids' ?_
       rw [← e2]; exact hs'
     ·exact h.elim
    ·exact h.elim
   ·exact stepQ_sound htt hG hs h hn
  ·exact stepQ_sound htt hG hs h hn
 ·rename_i t x y ho
  unfold dStore at h
  split at h
  ·rename_i ti b off ht hx
   split at h
   ·rename_i ty cs hb
    refine sStore_sound (K:=fun v m'=>v = r.v ∧ m' = updB m r.u) htt hs ho ?_ ?_
    ·obtain ⟨vs,g1,g2,g3,g4⟩:=stA_inv h
     unfold sStore
     simp only [ht,hx,hb]
     unfold stA
     have e2:Nat.ble (off + ti.size) cs.length = true:=Nat.ble_eq_true_of_le g3
     simp only [g1,g2,fl_eq,setB_eq,Nat.beq_refl,e2]
     exact ⟨g4.1,by rw [← g4.2.1]; rfl⟩
    ·rintro v m' a' w' ids' ⟨rfl,rfl⟩ hs'
     exact hn a' w' ids' hs'
   ·exact h.elim
  ·rename_i ti b i off ht hx
   split at h
   ·rename_i ty sz n row hb
    split at h
    ·rename_i hown
     obtain ⟨hlt,h⟩:=h
     rw [fl_eq] at h
     refine sStore_sound (K:=fun v m'=>v = r.v ∧ m' = updB m r.u) htt hs ho ?_ ?_
     ·obtain ⟨vs,g1,g2,g3,g4⟩:=stA_inv h
      unfold sStore
      simp only [ht,hx,hb,hown]
      unfold stA
      have e2:Nat.ble (off + ti.size) (row i).length = true:=Nat.ble_eq_true_of_le g3
      simp only [g1,g2,fl_eq,setB_eq,Nat.beq_refl,e2]
      exact ⟨hlt,g4.1,by rw [← g4.2.1]; rfl⟩
     ·rintro v m' a' w' ids' ⟨rfl,rfl⟩ hs'
      exact hn a' w' ids' hs'
    ·exact h.elim
   ·rename_i hb; exact dPut_sound htt hs ho hx hb h hn
   ·exact h.elim
  ·exact h.elim
 ·exact stepQ_sound htt hG hs h hn
end
end Go.Proofs.YtmeohhbdkoeadaaGreat.Am
namespace Go.Proofs.YtmeohhbdkoeadaaGreat.Am
variable [Inhabited DRT]
open Go.RowKit (Below)

structure Rc where
 ex:Bool
 oc:Oc
 v:A
abbrev Recs:=List (Oper × Rc)

def slS (S:Nat → Bool):Nat → Recs → List A → List A
 | _,[],s=>s
 | i,(o,r) :: l,s=>slS S (i + 1) l (if S i then putD s o.dst r.v else s)
def blS (S:Nat → Bool):Nat → Recs → List Blk → List Blk
 | _,[],m=>m
 | i,(_,r) :: l,m=>blS S (i + 1) l (if S i then updB m r.oc.u else m)

theorem putD_getD (s:List A) (d:Option Nat) (v:A) (t:Nat):(putD s d v).getD t .junk = if d = some t ∧ t < s.length then v else s.getD t .junk:=by
 cases d with
 | none=>simp [putD]
 | some d =>
  simp only [putD,List.getD_eq_getElem?_getD,List.getElem?_set,Option.some.injEq]
  by_cases h:d = t
  ·subst h
   by_cases h2:d < s.length
   ·simp [h2]
   ·simp [h2]
  ·simp [h]
theorem putD_len (s:List A) (d:Option Nat) (v:A):(putD s d v).length = s.length:=by cases d <;> simp [putD]
theorem updB_len (m:List Blk):∀ u:List (Nat × Blk),(updB m u).length = m.length
 | []=>rfl
 | (b,x) :: u=>by rw [updB,List.length_set,updB_len m u]
theorem updB_getD (m:List Blk) (t:Nat):∀ u:List (Nat × Blk),(updB m u).getD t .dead = match u.lookup t with | some x=>if t < m.length then x else m.getD t .dead | none=>m.getD t .dead
 | []=>rfl
 | (b,x) :: u=>by
  rw [updB,List.getD_eq_getElem?_getD,List.getElem?_set,updB_len,List.lookup_cons]
  by_cases h:b = t
  ·subst h
   simp only [beq_self_eq_true,if_true]
   by_cases h2:b < m.length
   ·simp [h2]
   ·simp [h2]
  ·have h':(t == b) = false:=by simpa using fun e=>h e.symm
   rw [if_neg h,h']
   have:=updB_getD m t u
   rw [List.getD_eq_getElem?_getD] at this
   exact this
theorem slS_len (S:Nat → Bool):∀ (l:Recs) (i:Nat) (s:List A),(slS S i l s).length = s.length
 | [],_,_=>rfl
 | (o,r) :: l,i,s=>by rw [slS,slS_len]; split <;> simp [putD_len]
theorem blS_len (S:Nat → Bool):∀ (l:Recs) (i:Nat) (m:List Blk),(blS S i l m).length = m.length
 | [],_,_=>rfl
 | (o,r) :: l,i,m=>by rw [blS,blS_len]; split <;> simp [updB_len]

theorem slS_congr (S S':Nat → Bool) (t:Nat):∀ (l:Recs) (i:Nat) (s s':List A),s.length = s'.length → s.getD t .junk = s'.getD t .junk →
  (∀ j o r,l[j]? = some (o,r) → o.dst = some t → S (i + j) = S' (i + j)) → (slS S i l s).getD t .junk = (slS S' i l s').getD t .junk
 | [],_,_,_,_,h,_=>h
 | (o,r) :: l,i,s,s',hl,h,hw=>by
  rw [slS,slS]
  refine slS_congr S S' t l (i + 1) _ _ ?_ ?_ ?_
  ·split <;> split <;> simp [putD_len,hl]
  ·by_cases hd:o.dst = some t
   ·have:=hw 0 o r rfl hd
    simp only [Nat.add_zero] at this
    rw [this]
    split
    ·rw [putD_getD,putD_getD,hl,h]
    ·exact h
   ·have e1:∀ s:List A,(putD s o.dst r.v).getD t .junk = s.getD t .junk:=by
     intro s; rw [putD_getD,if_neg (fun hh=>hd hh.1)]
    split <;> split <;> simp only [e1,h]
  ·intro j o' r' hj hd
   have:=hw (j + 1) o' r' (by simpa using hj) hd
   rwa [show i + (j + 1) = i + 1 + j by omega] at this
theorem blS_congr (S S':Nat → Bool) (t:Nat):∀ (l:Recs) (i:Nat) (m m':List Blk),m.length = m'.length → m.getD t .dead = m'.getD t .dead →
  (∀ j o r x,l[j]? = some (o,r) → r.oc.u.lookup t = some x → S (i + j) = S' (i + j)) → (blS S i l m).getD t .dead = (blS S' i l m').getD t .dead
 | [],_,_,_,_,h,_=>h
 | (o,r) :: l,i,m,m',hl,h,hw=>by
  rw [blS,blS]
  refine blS_congr S S' t l (i + 1) _ _ ?_ ?_ ?_
  ·split <;> split <;> simp [updB_len,hl]
  ·cases hu:r.oc.u.lookup t with
   | some x =>
    have:=hw 0 o r x rfl hu
    simp only [Nat.add_zero] at this
    rw [this]
    split
    ·rw [updB_getD,updB_getD,hu]; simp only [hl,h]
    ·exact h
   | none =>
    have e0:∀ m:List Blk,(updB m r.oc.u).getD t .dead = m.getD t .dead:=fun m=>by rw [updB_getD,hu]
    split <;> split <;> simp only [e0,h]
  ·intro j o' r' x hj hd
   have:=hw (j + 1) o' r' x (by simpa using hj) hd
   rwa [show i + (j + 1) = i + 1 + j by omega] at this

theorem slS_last (S:Nat → Bool) (t:Nat):∀ (l:Recs) (i k:Nat) (s:List A) (o:Oper) (r:Rc),t < s.length → l[k]? = some (o,r) → o.dst = some t → S (i + k) = true →
  (∀ j o' r',k < j → l[j]? = some (o',r') → o'.dst = some t → S (i + j) = false) → (slS S i l s).getD t .junk = r.v
 | [],_,_,_,_,_,_,h,_,_,_=>by simp at h
 | (o1,r1) :: l,i,k,s,o,r,ht,hk,hd,hS,hl=>by
  rw [slS]
  cases k with
  | zero =>
   simp only [List.getElem?_cons_zero,Option.some.injEq,Prod.mk.injEq] at hk
   obtain ⟨rfl,rfl⟩:=hk
   simp only [Nat.add_zero] at hS
   have:=slS_congr S (fun _=>false) t l (i + 1) (if S i then putD s o1.dst r1.v else s) (if S i then putD s o1.dst r1.v else s) rfl rfl (fun j o' r' hj hdd=>by
    have:=hl (j + 1) o' r' (by omega) (by simpa using hj) hdd
    rwa [show i + (j + 1) = i + 1 + j by omega] at this)
   rw [this]
   have hid:∀ (l:Recs) (i:Nat) (s:List A),slS (fun _=>false) i l s = s:=by
    intro l; induction l with
    | nil=>intro i s; rfl
    | cons p l ih=>intro i s; rw [slS]; simp [ih]
   rw [hid,hS]
   simp only [if_true]
   rw [putD_getD,if_pos ⟨hd,ht⟩]
  | succ k =>
   refine slS_last S t l (i + 1) k _ o r ?_ (by simpa using hk) hd ?_ ?_
   ·split <;> simp [putD_len,ht]
   ·rwa [show i + 1 + k = i + (k + 1) by omega]
   ·intro j o' r' hj hjj hdd
    have:=hl (j + 1) o' r' (by omega) (by simpa using hjj) hdd
    rwa [show i + (j + 1) = i + 1 + j by omega] at this
theorem blS_last (S:Nat → Bool) (t:Nat):∀ (l:Recs) (i k:Nat) (m:List Blk) (o:Oper) (r:Rc) (x:Blk),t < m.length → l[k]? = some (o,r) → r.oc.u.lookup t = some x → S (i + k) = true →
  (∀ j o' r' x',k < j → l[j]? = some (o',r') → r'.oc.u.lookup t = some x' → S (i + j) = false) → (blS S i l m).getD t .dead = x
 | [],_,_,_,_,_,_,_,h,_,_,_=>by simp at h
 | (o1,r1) :: l,i,k,m,o,r,x,ht,hk,hd,hS,hl=>by
  rw [blS]
  cases k with
  | zero =>
   simp only [List.getElem?_cons_zero,Option.some.injEq,Prod.mk.injEq] at hk
   obtain ⟨rfl,rfl⟩:=hk
   simp only [Nat.add_zero] at hS
   have:=blS_congr S (fun _=>false) t l (i + 1) (if S i then updB m r1.oc.u else m) (if S i then updB m r1.oc.u else m) rfl rfl (fun j o' r' x' hj hdd=>by
    have:=hl (j + 1) o' r' x' (by omega) (by simpa using hj) hdd
    rwa [show i + (j + 1) = i + 1 + j by omega] at this)
   rw [this]
   have hid:∀ (l:Recs) (i:Nat) (m:List Blk),blS (fun _=>false) i l m = m:=by
    intro l; induction l with
    | nil=>intro i m; rfl
    | cons p l ih=>intro i m; rw [blS]; simp [ih]
   rw [hid,hS]
   simp only [if_true]
   rw [updB_getD,hd]; simp [ht]
  | succ k =>
   refine blS_last S t l (i + 1) k _ o r x ?_ (by simpa using hk) hd ?_ ?_
   ·split <;> simp [updB_len,ht]
   ·rwa [show i + 1 + k = i + (k + 1) by omega]
   ·intro j o' r' x' hj hjj hdd
    have:=hl (j + 1) o' r' x' (by omega) (by simpa using hjj) hdd
    rwa [show i + (j + 1) = i + 1 + j by omega] at this

theorem ext_getD {s s':List A} (hl:s.length = s'.length) (h:∀ t,s.getD t .junk = s'.getD t .junk):s = s':=by
 apply List.ext_getElem hl
 intro i h1 h2
 have:=h i
 simpa [List.getD_eq_getElem?_getD,h1,h2] using this
theorem ext_getB {s s':List Blk} (hl:s.length = s'.length) (h:∀ t,s.getD t .dead = s'.getD t .dead):s = s':=by
 apply List.ext_getElem hl
 intro i h1 h2
 have:=h i
 simpa [List.getD_eq_getElem?_getD,h1,h2] using this

/-- One more of the operations. -/
theorem slS_add (S S':Nat → Bool) (l:Recs) (k:Nat) (s:List A) (o:Oper) (r:Rc) (hk:l[k]? = some (o,r)) (hS:∀ j,S' j = (S j || j == k)) (hn:S k = false)
  (hc:∀ j o' r',k < j → l[j]? = some (o',r') → o'.dst = o.dst → o.dst ≠ none → S j = false):slS S' 0 l s = putD (slS S 0 l s) o.dst r.v:=by
 apply ext_getD (by simp [slS_len,putD_len])
 intro t
 rw [putD_getD,slS_len]
 by_cases hd:o.dst = some t
 ·by_cases ht:t < s.length
  ·rw [if_pos ⟨hd,ht⟩]
   refine slS_last S' t l 0 k s o r ht hk hd (by simp [hS]) ?_
   intro j o' r' hj hjj hdd
   have:=hc j o' r' hj hjj (by rw [hdd,hd]) (by rw [hd]; simp)
   simp [hS,this]; omega
  ·rw [if_neg (fun h=>ht h.2)]
   have e1:∀ (S:Nat → Bool),(slS S 0 l s).getD t .junk = .junk:=by
    intro S; rw [List.getD_eq_getElem?_getD,List.getElem?_eq_none (by rw [slS_len]; omega)]; rfl
   rw [e1,e1]
 ·rw [if_neg (fun h=>hd h.1)]
  refine slS_congr S' S t l 0 s s rfl rfl ?_
  intro j o' r' hj hdd
  simp only [Nat.zero_add,hS]
  have:j ≠ k:=by rintro rfl; rw [hk] at hj; cases hj; exact hd hdd
  simp [this]
theorem blS_add (S S':Nat → Bool) (l:Recs) (k:Nat) (m:List Blk) (o:Oper) (r:Rc) (hk:l[k]? = some (o,r)) (hS:∀ j,S' j = (S j || j == k)) (hn:S k = false)
  (hc:∀ j o' r' b x x',k < j → l[j]? = some (o',r') → r.oc.u.lookup b = some x → r'.oc.u.lookup b = some x' → S j = false):blS S' 0 l m = updB (blS S 0 l m) r.oc.u:=by
 apply ext_getB (by simp [blS_len,updB_len])
 intro t
 rw [updB_getD,blS_len]
 split
 ·rename_i x hu
  by_cases ht:t < m.length
  ·rw [if_pos ht]
   refine blS_last S' t l 0 k m o r x ht hk hu (by simp [hS]) ?_
   intro j o' r' x' hj hjj hdd
   have:=hc j o' r' t x x' hj hjj hu hdd
   simp [hS,this]; omega
  ·rw [if_neg ht]
   have e1:∀ (S:Nat → Bool),(blS S 0 l m).getD t .dead = .dead:=by
    intro S; rw [List.getD_eq_getElem?_getD,List.getElem?_eq_none (by rw [blS_len]; omega)]; rfl
   rw [e1,e1]
 ·rename_i hu
  refine blS_congr S' S t l 0 m m rfl rfl ?_
  intro j o' r' x hj hdd
  simp only [Nat.zero_add,hS]
  have:j ≠ k:=by rintro rfl; rw [hk] at hj; cases hj; rw [hu] at hdd; cases hdd
  simp [this]
end Go.Proofs.YtmeohhbdkoeadaaGreat.Am
namespace Go.Proofs.YtmeohhbdkoeadaaGreat.Am
variable [Inhabited DRT]
open Go.RowKit (Below)

def bindMask (acc:List Nat) (o:Oper):Nat :=
 o.after.toList.foldl (fun s e=>match Region.binds .any e with
  | true=>s ||| 2 ^ e.on ||| acc.getD e.on 0
  | false=>s) 0
def masks:List Nat → List Oper → List Nat
 | acc,[]=>acc
 | acc,o :: os=>masks (acc ++ [bindMask acc o]) os
abbrev Fp:=List Nat × List Nat
def hitS (d:Option Nat) (l:List Nat):Bool:=match d with
 | some d=>memN d l
 | none=>false
def sameS (d e:Option Nat):Bool:=match d,e with
 | some d,some e=>Nat.beq d e
 | _,_=>false
def meetL:List Nat → List Nat → Bool
 | [],_=>false
 | b :: bs,l=>match memN b l with
  | true=>true
  | false=>meetL bs l
def conf (ops:Array Oper) (oi oj:Oper) (fi fj:Fp):Bool :=
 hitS oj.dst (oi.looksAt ops) || sameS oj.dst oi.dst || hitS oi.dst (oj.looksAt ops) || meetL fj.2 fi.1 || meetL fj.2 fi.2 || meetL fi.2 fj.1
/-- All pairs (i, j), i ahead, that meet are bound one behind the other. -/
def pairs1 (ops:Array Oper) (mask:Nat) (oj:Oper) (fj:Fp):Nat → List (Oper × Fp) → Bool
 | _,[]=>true
 | i,(oi,fi) :: l=>(!conf ops oi oj fi fj || mask.testBit i) && pairs1 ops mask oj fj (i + 1) l
def pairsB (ops:Array Oper):List (Oper × Fp) → List (Oper × Fp × Nat) → Bool
 | _,[]=>true
 | done,(oj,fj,mk) :: l=>pairs1 ops mk oj fj 0 done && pairsB ops (done ++ [(oj,fj)]) l
def backB:Nat → List Oper → Bool
 | _,[]=>true
 | j,o :: os=>(o.after.toList.all fun e=>!Region.binds .any e || decide (e.on < j)) && backB (j + 1) os
def indepB (ops:List Oper) (fps:List Fp):Bool :=
 backB 0 ops && pairsB ops.toArray [] (ops.zip (fps.zip (masks [] ops)))

/-! ### The check's meaning -/
def DC (S:Nat → Bool) (ops:List Oper):Prop:=∀ (j:Nat) o,ops[j]? = some o → S j = true → ∀ e ∈ o.after,Region.binds .any e = true → S e.on = true

theorem bindMask_bit {acc:List Nat} {S:Nat → Bool} (hacc:∀ j i,(acc.getD j 0).testBit i = true → S j = true → S i = true) (o:Oper)
  (ho:∀ e ∈ o.after,Region.binds .any e = true → S e.on = true) (i:Nat) (h:(bindMask acc o).testBit i = true):S i = true:=by
 unfold bindMask at h
 have key:∀ (l:List Edge) (z:Nat),(∀ e ∈ l,Region.binds .any e = true → S e.on = true) → (z.testBit i = true → S i = true) →
   (l.foldl (fun s e=>match Region.binds .any e with | true=>s ||| 2 ^ e.on ||| acc.getD e.on 0 | false=>s) z).testBit i = true → S i = true:=by
  intro l
  induction l with
  | nil=>intro z _ hz h; exact hz h
  | cons e l ih =>
   intro z hl hz h
   rw [List.foldl_cons] at h
   refine ih _ (fun e' he'=>hl e' (by simp [he'])) ?_ h
   intro hz'
   split at hz'
   ·rename_i hb
    have hon:=hl e (by simp) hb
    rw [Nat.testBit_or,Nat.testBit_or,Bool.or_eq_true,Bool.or_eq_true] at hz'
    rcases hz' with (hz' | hz') | hz'
    ·exact hz hz'
    ·rw [Nat.testBit_two_pow] at hz'
     have:e.on = i:=by simpa using hz'
     rw [← this]; exact hon
    ·exact hacc _ _ hz' hon
   ·exact hz hz'
 exact key o.after.toList 0 (fun e he=>ho e (by simpa using he)) (by simp) h

theorem masks_bit {S:Nat → Bool}:∀ (os:List Oper) (acc:List Nat),(∀ j i,(acc.getD j 0).testBit i = true → S j = true → S i = true) →
  (∀ (j:Nat) o,os[j]? = some o → S (acc.length + j) = true → ∀ e ∈ o.after,Region.binds .any e = true → S e.on = true) →
  ∀ j i,((masks acc os).getD j 0).testBit i = true → S j = true → S i = true
 | [],acc,hacc,_=>hacc
 | o :: os,acc,hacc,hos=>by
  rw [masks]
  refine masks_bit os _ ?_ ?_
  ·intro j i hb hS
   by_cases hj:j < acc.length
   ·rw [List.getD_eq_getElem?_getD,List.getElem?_append_left hj,← List.getD_eq_getElem?_getD] at hb
    exact hacc j i hb hS
   ·by_cases hj2:j = acc.length
    ·subst hj2
     rw [List.getD_eq_getElem?_getD,List.getElem?_append_right (Nat.le_refl _)] at hb
     simp at hb
     exact bindMask_bit hacc o (hos 0 o rfl (by simpa using hS)) i hb
    ·rw [List.getD_eq_getElem?_getD,List.getElem?_eq_none (by simp; omega)] at hb
     simp at hb
  ·intro j o' hj hS
   have:=hos (j + 1) o' (by simpa using hj) (by simp at hS; rwa [show acc.length + (j + 1) = acc.length + 1 + j by omega])
   exact this

theorem memN_iff {i:Nat}:∀ {l:List Nat},memN i l = true ↔ i ∈ l
 | []=>by simp [memN]
 | j :: l=>by
  unfold memN
  split
  ·rename_i h; simp [Nat.eq_of_beq_eq_true h]
  ·rename_i h
   have:i ≠ j:=by rintro rfl; rw [Nat.beq_refl] at h; cases h
   simp [memN_iff,this]

theorem pairs1_spec {ops:Array Oper} {mask:Nat} {oj:Oper} {fj:Fp}:∀ (l:List (Oper × Fp)) (k:Nat),pairs1 ops mask oj fj k l = true → ∀ i oi fi,l[i]? = some (oi,fi) → conf ops oi oj fi fj = true → mask.testBit (k + i) = true
 | [],_,_,i,_,_,h,_=>by simp at h
 | (o1,f1) :: l,k,h,i,oi,fi,hi,hc=>by
  simp only [pairs1,Bool.and_eq_true,Bool.or_eq_true,Bool.not_eq_true'] at h
  cases i with
  | zero =>
   simp at hi
   obtain ⟨rfl,rfl⟩:=hi
   rcases h.1 with h1 | h1
   ·rw [hc] at h1; cases h1
   ·exact h1
  | succ i =>
   have:=pairs1_spec l (k + 1) h.2 i oi fi (by simpa using hi) hc
   rwa [show k + (i + 1) = k + 1 + i by omega]
theorem pairsB_spec {ops:Array Oper}:∀ (l:List (Oper × Fp × Nat)) (done:List (Oper × Fp)),pairsB ops done l = true →
  ∀ i j oi fi oj fj mj,(done ++ l.map fun p=>(p.1,p.2.1))[i]? = some (oi,fi) → l[j]? = some (oj,fj,mj) → i < done.length + j → conf ops oi oj fi fj = true → mj.testBit i = true
 | [],_,_,_,_,_,_,_,_,_,_,h,_,_=>by simp at h
 | (o1,f1,m1) :: l,done,h,i,j,oi,fi,oj,fj,mj,hi,hj,hlt,hc=>by
  simp only [pairsB,Bool.and_eq_true] at h
  cases j with
  | zero =>
   simp at hj
   obtain ⟨rfl,rfl,rfl⟩:=hj
   have:=pairs1_spec done 0 h.1 i oi fi (by rw [List.getElem?_append_left (by omega)] at hi; exact hi) hc
   simpa using this
  | succ j =>
   refine pairsB_spec l (done ++ [(o1,f1)]) h.2 i j oi fi oj fj mj ?_ (by simpa using hj) (by simp; omega) hc
   simpa using hi
end Go.Proofs.YtmeohhbdkoeadaaGreat.Am
namespace Go.Proofs.YtmeohhbdkoeadaaGreat.Am
variable [Inhabited DRT]
open Go.RowKit (Below)

def brk (g:Bool) (v:A) (K:A → Prop):Prop :=
 match g,v with
 | true,.sb b=>(b = true → K (.bool true)) ∧ (b = false → K (.bool false))
 | _,v=>fv v K
def isG (i:Nat):List Oper → Bool
 | []=>false
 | o :: os=>match o.guard with
  | some (j,_)=>match Nat.beq i j with
   | true=>true
   | false=>isG i os
  | none=>isG i os
def guardD (g:Option Nat) (want:Bool) (s:List A) (X Y:Prop):Prop :=
 match g with
 | none=>False
 | some d=>match s.getD d .junk with
  | .bool b=>match b,want with
   | true,true=>X
   | false,false=>X
   | true,false=>Y
   | false,true=>Y
  | .tup vs=>match vs with
   | []=>Y
   | _=>False
  | _=>False
def rvAt:List (Nat × Nat) → Nat → Nat
 | [],_=>0
 | (j,n) :: l,i=>match Nat.beq j i with
  | true=>n
  | false=>rvAt l i
def nextAid (rv:List (Nat × Nat)) (i:Nat) (o:Op) (aid:Nat):Nat:=match isAlloc o with
 | true=>aid + 1
 | false=>aid + rvAt rv i
def runD (P:Program) (G:GInv) (tt:TT) (ops:List Oper) (rv:List (Nat × Nat)):List Oper → Nat → Nat → List A → List Blk → (List A → List Blk → List Fp → Prop) → Prop
 | [],_,_,s,m,K=>K s m []
 | o :: rest,i,aid,s,m,K =>
  let X:Prop:=stepV P G tt o aid s m fun v u rd=>brk (isG i ops) v fun v'=>putF s o.dst v' fun s'=>updF m u fun m' =>
   fnat (nextAid rv i o.op aid) fun aid'=>runD P G tt ops rv rest (i + 1) aid' s' m' fun s m fps=>K s m ((rd,u.map (·.1)) :: fps)
  match o.guard with
  | none=>X
  | some (j,want)=>guardD (gslot ops j) want s X
    (putF s o.dst (.tup []) fun s'=>fnat (nextAid rv i o.op aid) fun aid'=>runD P G tt ops rv rest (i + 1) aid' s' m fun s m fps=>K s m (([],[]) :: fps))

/-- A value told more closely. -/
def Ref (x y:A):Prop:=y = x ∨ ∃ b,x = .sb b ∧ y = .bool b
def Gd (ops:List Oper) (o:Oper) (r:Rc) (s:List A):Prop :=
 match o.guard with
 | none=>r.ex = true
 | some (j,want)=>(∃ d b,gslot ops j = some d ∧ s.getD d .junk = .bool b ∧ r.ex = (b == want)) ∨ ∃ d,gslot ops j = some d ∧ s.getD d .junk = .tup [] ∧ r.ex = false
def Ch (P:Program) (G:GInv) (tt:TT) (ops:List Oper):Recs → List A → List Blk → Prop
 | [],_,_=>True
 | (o,r) :: l,s,m=>Gd ops o r s ∧ (r.ex = true → (∃ aid,Out P G tt o aid s m r.oc) ∧ Ref r.oc.v r.v) ∧ (r.ex = false → r.v = .tup [] ∧ r.oc.u = [] ∧ r.oc.rd = []) ∧
   Ch P G tt ops l (putD s o.dst r.v) (updB m r.oc.u)
def allS:Nat → Bool:=fun _=>true
def fpOf (r:Rc):Fp:=(r.oc.rd,r.oc.u.map (·.1))

section
variable {c:Ctx} {P:Program} {tt:TT} {G:GInv} {ops:List Oper}

theorem runD_ch (rv:List (Nat × Nat)):∀ (rest:List Oper) (i aid:Nat) (s:List A) (m:List Blk) (K:List A → List Blk → List Fp → Prop),runD P G tt ops rv rest i aid s m K →
  ∃ l:Recs,l.map (·.1) = rest ∧ Ch P G tt ops l s m ∧ K (slS allS 0 l s) (blS allS 0 l m) (l.map fun p=>fpOf p.2)
 | [],i,aid,s,m,K,h=>⟨[],rfl,trivial,h⟩
 | o :: rest,i,aid,s,m,K,h=>by
  have shiftS:∀ (l:Recs) (a b:Nat) (s:List A),slS allS a l s = slS allS b l s:=by
   intro l; induction l with
   | nil=>intros; rfl
   | cons p l ih=>intro a b s; rw [slS,slS]; simp only [allS]; exact ih _ _ _
  have shiftB:∀ (l:Recs) (a b:Nat) (m:List Blk),blS allS a l m = blS allS b l m:=by
   intro l; induction l with
   | nil=>intros; rfl
   | cons p l ih=>intro a b s; rw [blS,blS]; simp only [allS]; exact ih _ _ _
  have exec:(stepV P G tt o aid s m fun v u rd=>brk (isG i ops) v fun v'=>putF s o.dst v' fun s'=>updF m u fun m' =>
    fnat (nextAid rv i o.op aid) fun aid'=>runD P G tt ops rv rest (i + 1) aid' s' m' fun s m fps=>K s m ((rd,u.map (·.1)) :: fps)) → (∀ r:Rc,r.ex = true → Gd ops o r s) →
    ∃ l:Recs,l.map (·.1) = o :: rest ∧ Ch P G tt ops l s m ∧ K (slS allS 0 l s) (blS allS 0 l m) (l.map fun p=>fpOf p.2):=by
   intro h hg
   obtain ⟨oc,h1,h2⟩:=stepV_out h
   have key:∀ v',Ref oc.v v' → (putF s o.dst v' fun s'=>updF m oc.u fun m' =>
     fnat (nextAid rv i o.op aid) fun aid'=>runD P G tt ops rv rest (i + 1) aid' s' m' fun s m fps=>K s m ((oc.rd,oc.u.map (·.1)) :: fps)) →
     ∃ l:Recs,l.map (·.1) = o :: rest ∧ Ch P G tt ops l s m ∧ K (slS allS 0 l s) (blS allS 0 l m) (l.map fun p=>fpOf p.2):=by
    intro v' hr hh
    rw [putF_eq,updF_eq,fnat_eq] at hh
    obtain ⟨l,g1,g2,g3⟩:=runD_ch rv rest (i + 1) _ _ _ _ hh
    refine ⟨(o,⟨true,oc,v'⟩) :: l,by simp [g1],⟨hg _ rfl,fun _=>⟨⟨aid,h1⟩,hr⟩,(fun h=>by cases h),g2⟩,?_⟩
    rw [slS,blS]
    simp only [allS,if_true,List.map_cons]
    rw [shiftS l (0 + 1) 0,shiftB l (0 + 1) 0]
    exact g3
   unfold brk at h2
   split at h2
   ·rename_i b hb he
    cases b
    ·exact key _ (.inr ⟨false,he,rfl⟩) (h2.2 rfl)
    ·exact key _ (.inr ⟨true,he,rfl⟩) (h2.1 rfl)
   ·rw [fv_eq] at h2; exact key _ (.inl rfl) h2
  have skip:(putF s o.dst (.tup []) fun s'=>fnat (nextAid rv i o.op aid) fun aid'=>runD P G tt ops rv rest (i + 1) aid' s' m fun s m fps=>K s m (([],[]) :: fps)) → (∀ r:Rc,r.ex = false → Gd ops o r s) →
    ∃ l:Recs,l.map (·.1) = o :: rest ∧ Ch P G tt ops l s m ∧ K (slS allS 0 l s) (blS allS 0 l m) (l.map fun p=>fpOf p.2):=by
   intro hh hg
   rw [putF_eq,fnat_eq] at hh
   obtain ⟨l,g1,g2,g3⟩:=runD_ch rv rest (i + 1) _ _ _ _ hh
   refine ⟨(o,⟨false,⟨.junk,[],[]⟩,.tup []⟩) :: l,by simp [g1],⟨hg _ rfl,(fun h=>by cases h),fun _=>⟨rfl,rfl,rfl⟩,g2⟩,?_⟩
   rw [slS,blS]
   simp only [allS,if_true,List.map_cons]
   rw [shiftS l (0 + 1) 0,shiftB l (0 + 1) 0]
   exact g3
  unfold runD at h
  simp only at h
  split at h
  ·rename_i hg
   exact exec h (fun r hr=>by unfold Gd; rw [hg]; exact hr)
  ·rename_i j want hg
   unfold guardD at h
   split at h
   ·exact h.elim
   ·rename_i d hd
    split at h
    ·rename_i b hb
     have gd:∀ r:Rc,r.ex = (b == want) → Gd ops o r s:=by
      intro r hr; unfold Gd; rw [hg]; exact .inl ⟨d,b,hd,hb,hr⟩
     split at h
     ·exact exec h (fun r hr=>gd r (by simp [hr]))
     ·exact exec h (fun r hr=>gd r (by simp [hr]))
     ·exact skip h (fun r hr=>gd r (by simp [hr]))
     ·exact skip h (fun r hr=>gd r (by simp [hr]))
    ·rename_i vs hb
     split at h
     ·exact skip h (fun r hr=>by unfold Gd; rw [hg]; exact .inr ⟨d,hd,hb,hr⟩)
     ·exact h.elim
    ·exact h.elim

/-- The chain at a place. -/
theorem Ch_get (l:Recs) (s:List A) (m:List Blk) (h:Ch P G tt ops l s m) (k:Nat) (o:Oper) (r:Rc) (hk:l[k]? = some (o,r)) :
  Gd ops o r (slS (fun j=>decide (j < k)) 0 l s) ∧ (r.ex = true → (∃ aid,Out P G tt o aid (slS (fun j=>decide (j < k)) 0 l s) (blS (fun j=>decide (j < k)) 0 l m) r.oc) ∧ Ref r.oc.v r.v) ∧ (r.ex = false → r.v = .tup [] ∧ r.oc.u = [] ∧ r.oc.rd = []):=by
 have gen:∀ (l:Recs) (i:Nat) (s:List A) (m:List Blk),Ch P G tt ops l s m → ∀ k o r,l[k]? = some (o,r) →
   Gd ops o r (slS (fun j=>decide (j < i + k)) i l s) ∧ (r.ex = true → (∃ aid,Out P G tt o aid (slS (fun j=>decide (j < i + k)) i l s) (blS (fun j=>decide (j < i + k)) i l m) r.oc) ∧ Ref r.oc.v r.v) ∧ (r.ex = false → r.v = .tup [] ∧ r.oc.u = [] ∧ r.oc.rd = []):=by
  intro l
  induction l with
  | nil=>intro i s m _ k o r h; simp at h
  | cons p l ih =>
   obtain ⟨o1,r1⟩:=p
   intro i s m hch k o r hk
   obtain ⟨h1,h2,h3,h4⟩:=hch
   cases k with
   | zero =>
    simp at hk
    obtain ⟨rfl,rfl⟩:=hk
    have e1:∀ (l:Recs) (j:Nat) (s:List A),i ≤ j → slS (fun j=>decide (j < i + 0)) j l s = s:=by
     intro l; induction l with
     | nil=>intros; rfl
     | cons p l ih=>intro j s hj; rw [slS]; simp only [show ¬ j < i + 0 by omega,decide_false]; exact ih _ _ (by omega)
    have e2:∀ (l:Recs) (j:Nat) (m:List Blk),i ≤ j → blS (fun j=>decide (j < i + 0)) j l m = m:=by
     intro l; induction l with
     | nil=>intros; rfl
     | cons p l ih=>intro j s hj; rw [blS]; simp only [show ¬ j < i + 0 by omega,decide_false]; exact ih _ _ (by omega)
    rw [e1 _ _ _ (Nat.le_refl _),e2 _ _ _ (Nat.le_refl _)]
    exact ⟨h1,h2,h3⟩
   | succ k =>
    have g1:=ih (i + 1) _ _ h4 k o r (by simpa using hk)
    rw [slS,blS]
    simp only [show i < i + (k + 1) by omega,decide_true,if_true]
    rw [show i + (k + 1) = i + 1 + k by omega]
    exact g1
 have:=gen l 0 s m h k o r hk
 simpa using this
end
end Go.Proofs.YtmeohhbdkoeadaaGreat.Am
namespace Go.Proofs.YtmeohhbdkoeadaaGreat.Am
variable [Inhabited DRT]
open Go.RowKit (Below)
section
variable {c:Ctx} {P:Program} {tt:TT} {G:GInv} {ops:List Oper}

def listedS (L:Array Bool):Nat → Bool:=fun j=>L.getD j false

structure Hyp (P:Program) (G:GInv) (tt:TT) (ops:List Oper) (l:Recs) (s:List A) (m:List Blk):Prop where
 ops_eq:l.map (·.1) = ops
 ch:Ch P G tt ops l s m
 indep:indepB ops (l.map fun p=>fpOf p.2) = true

theorem Hyp.op_get {l:Recs} {s:List A} {m:List Blk} (h:Hyp P G tt ops l s m) {k:Nat} {o:Oper} (hk:ops[k]? = some o):∃ r:Rc,l[k]? = some (o,r):=by
 rw [← h.ops_eq,List.getElem?_map] at hk
 cases hl:l[k]? with
 | none=>rw [hl] at hk; cases hk
 | some p =>
  rw [hl] at hk
  simp at hk
  exact ⟨p.2,by rw [← hk]⟩
theorem Hyp.get_op {l:Recs} {s:List A} {m:List Blk} (h:Hyp P G tt ops l s m) {k:Nat} {o:Oper} {r:Rc} (hk:l[k]? = some (o,r)):ops[k]? = some o:=by
 rw [← h.ops_eq,List.getElem?_map,hk]; rfl

theorem masks_len:∀ (os:List Oper) (acc:List Nat),(masks acc os).length = acc.length + os.length
 | [],acc=>by simp [masks]
 | o :: os,acc=>by rw [masks,masks_len os]; simp; omega

/-- Two operations that meet: the later one only behind the earlier one. -/
theorem Hyp.bound {l:Recs} {s:List A} {m:List Blk} (h:Hyp P G tt ops l s m) {S:Nat → Bool} (hS:DC S ops) {i j:Nat} {oi oj:Oper} {ri rj:Rc}
  (hi:l[i]? = some (oi,ri)) (hj:l[j]? = some (oj,rj)) (hlt:i < j) (hc:conf ops.toArray oi oj (fpOf ri) (fpOf rj) = true) (hSj:S j = true):S i = true:=by
 have hind:=h.indep
 unfold indepB at hind
 rw [Bool.and_eq_true] at hind
 have hlen:l.length = ops.length:=by rw [← h.ops_eq]; simp
 have hjl:j < l.length:=by
  rcases Nat.lt_or_ge j l.length with h' | h'
  ·exact h'
  ·rw [List.getElem?_eq_none h'] at hj; cases hj
 have hmj:j < (masks [] ops).length:=by rw [masks_len]; simp; omega
 have e1:(ops.zip ((l.map fun p=>fpOf p.2).zip (masks [] ops)))[j]? = some (oj,fpOf rj,(masks [] ops)[j]):=by
  rw [List.getElem?_zip_eq_some.2]
  refine ⟨h.get_op hj,?_⟩
  rw [List.getElem?_zip_eq_some.2]
  refine ⟨?_,List.getElem?_eq_getElem hmj⟩
  rw [List.getElem?_map,hj]; rfl
 have e2:([] ++ (ops.zip ((l.map fun p=>fpOf p.2).zip (masks [] ops))).map fun p=>(p.1,p.2.1))[i]? = some (oi,fpOf ri):=by
  have hmi:i < (masks [] ops).length:=by omega
  have:(ops.zip ((l.map fun p=>fpOf p.2).zip (masks [] ops)))[i]? = some (oi,fpOf ri,(masks [] ops)[i]):=by
   rw [List.getElem?_zip_eq_some.2]
   refine ⟨h.get_op hi,?_⟩
   rw [List.getElem?_zip_eq_some.2]
   refine ⟨?_,List.getElem?_eq_getElem hmi⟩
   rw [List.getElem?_map,hi]; rfl
  rw [List.nil_append,List.getElem?_map,this]; rfl
 have hbit:=pairsB_spec _ [] hind.2 i j oi (fpOf ri) oj (fpOf rj) _ e2 e1 (by simpa using hlt) hc
 refine masks_bit ops [] (by intro j i hb; simp at hb) (fun j o ho hSj=>hS j o ho (by simpa using hSj)) j i ?_ hSj
 rw [List.getD_eq_getElem?_getD,List.getElem?_eq_getElem hmj]
 exact hbit

/-- A place that is ready, in a state of some executed ones: the state's slots that it looks at are those of the text's order. -/
theorem Hyp.looks {l:Recs} {s:List A} {m:List Blk} (h:Hyp P G tt ops l s m) {S:Nat → Bool} (hS:DC S ops) {k:Nat} {o:Oper} {r:Rc} (hk:l[k]? = some (o,r)) (hn:S k = false)
  (hready:∀ i,(∀ S':Nat → Bool,DC S' ops → S' k = true → S' i = true) → i ≠ k → S i = true) :
  (∀ t,t ∈ o.looksAt ops.toArray → (slS S 0 l s).getD t .junk = (slS (fun j=>decide (j < k)) 0 l s).getD t .junk) ∧
  (∀ b,b ∈ r.oc.rd ∨ (∃ x,r.oc.u.lookup b = some x) → (blS S 0 l m).getD b .dead = (blS (fun j=>decide (j < k)) 0 l m).getD b .dead):=by
 constructor
 ·intro t ht
  refine slS_congr _ _ t l 0 s s rfl rfl ?_
  intro j o' r' hj hd
  rw [Nat.zero_add]
  rcases Nat.lt_trichotomy j k with hlt | rfl | hlt
  ·simp only [hlt,decide_true]
   refine hready j (fun S' hS' hk'=>h.bound hS' hj hk hlt ?_ hk') (by omega)
   simp only [conf,Bool.or_eq_true]
   refine .inl (.inl (.inl (.inr ?_)))
   simp only [hitS,hd]; exact memN_iff.2 ht
  ·simp [hn]
  ·simp only [show ¬ j < k by omega,decide_false]
   cases hSj:S j with
   | false=>rfl
   | true =>
    have:=h.bound hS hk hj hlt (by
     simp only [conf,Bool.or_eq_true]
     refine .inl (.inl (.inl (.inl (.inl ?_))))
     simp only [hitS,hd]; exact memN_iff.2 ht) hSj
    rw [hn] at this; cases this
 ·intro b hb
  refine blS_congr _ _ b l 0 m m rfl rfl ?_
  intro j o' r' x hj hd
  rw [Nat.zero_add]
  have mem:∀ {r:Rc} {b:Nat} {x:Blk},r.oc.u.lookup b = some x → b ∈ (fpOf r).2:=by
   intro r b x hx
   have key:∀ u:List (Nat × Blk),u.lookup b = some x → b ∈ u.map (·.1):=by
    intro u
    induction u with
    | nil=>intro h; cases h
    | cons p u ih =>
     obtain ⟨b0,x0⟩:=p
     intro h
     rw [List.lookup_cons] at h
     split at h
     ·rename_i he; simp [eq_of_beq he]
     ·simp [ih h]
   exact key _ hx
  have meet:∀ {l1 l2:List Nat} {b:Nat},b ∈ l1 → b ∈ l2 → meetL l1 l2 = true:=by
   intro l1
   induction l1 with
   | nil=>intro l2 b h; cases h
   | cons a l1 ih =>
    intro l2 b h1 h2
    unfold meetL
    split
    ·rfl
    ·rename_i hn
     rcases List.mem_cons.1 h1 with rfl | h1
     ·rw [memN_iff.2 h2] at hn; cases hn
     ·exact ih h1 h2
  have hw':b ∈ (fpOf r').2:=mem hd
  rcases Nat.lt_trichotomy j k with hlt | rfl | hlt
  ·simp only [hlt,decide_true]
   refine hready j (fun S' hS' hk'=>h.bound hS' hj hk hlt ?_ hk') (by omega)
   simp only [conf,Bool.or_eq_true]
   rcases hb with hb | ⟨x',hb⟩
   ·exact .inr (meet hw' hb)
   ·exact .inl (.inr (meet (mem hb) hw'))
  ·simp [hn]
  ·simp only [show ¬ j < k by omega,decide_false]
   cases hSj:S j with
   | false=>rfl
   | true =>
    have:=h.bound hS hk hj hlt (by
     simp only [conf,Bool.or_eq_true]
     rcases hb with hb | ⟨x',hb⟩
     ·exact .inl (.inl (.inr (meet hw' hb)))
     ·exact .inl (.inr (meet hw' (mem hb)))) hSj
    rw [hn] at this; cases this
theorem meetL_mem:∀ {l1 l2:List Nat} {b:Nat},b ∈ l1 → b ∈ l2 → meetL l1 l2 = true:=by
 intro l1
 induction l1 with
 | nil=>intro l2 b h; cases h
 | cons a l1 ih =>
  intro l2 b h1 h2
  unfold meetL
  split
  ·rfl
  ·rename_i hn
   rcases List.mem_cons.1 h1 with rfl | h1
   ·rw [memN_iff.2 h2] at hn; cases hn
   ·exact ih h1 h2
theorem lookup_fp {r:Rc} {b:Nat} {x:Blk} (hx:r.oc.u.lookup b = some x):b ∈ (fpOf r).2:=by
 have key:∀ u:List (Nat × Blk),u.lookup b = some x → b ∈ u.map (·.1):=by
  intro u
  induction u with
  | nil=>intro h; cases h
  | cons p u ih =>
   obtain ⟨b0,x0⟩:=p
   intro h
   rw [List.lookup_cons] at h
   split at h
   ·rename_i he; simp [eq_of_beq he]
   ·simp [ih h]
 exact key _ hx
end
end Go.Proofs.YtmeohhbdkoeadaaGreat.Am
namespace Go.Proofs.YtmeohhbdkoeadaaGreat.Am
variable [Inhabited DRT]
open Go.RowKit (Below)
section
variable {c:Ctx} {P:Program} {tt:TT} {G:GInv} {ops:List Oper} {Q:Exit → Act → World → Prop}

theorem Sim.refine {s:List A} {m:List Blk} {a:Act} {w:World} {ids:Ids} {d:Option Nat} {x y:A} (hs:Sim c (_root_.Go.Proofs.YtmeohhbdkoeadaaGreat.Am.putD s d x) m a w ids) (hr:Ref x y):Sim c (_root_.Go.Proofs.YtmeohhbdkoeadaaGreat.Am.putD s d y) m a w ids:=by
 rcases hr with rfl | ⟨b,rfl,rfl⟩
 ·exact hs
 ·cases d with
  | none=>exact hs
  | some d =>
   have e:_root_.Go.Proofs.YtmeohhbdkoeadaaGreat.Am.putD s (some d) (.bool b) = (_root_.Go.Proofs.YtmeohhbdkoeadaaGreat.Am.putD s (some d) (.sb b)).set d (.bool b):=by simp [_root_.Go.Proofs.YtmeohhbdkoeadaaGreat.Am.putD]
   rw [e]
   by_cases hd:d < s.length
   ·refine hs.reslot d ?_
    have:=hs.ev (.tmp d)
    simp only [Am.ev,Act.eval] at this
    rw [show (_root_.Go.Proofs.YtmeohhbdkoeadaaGreat.Am.putD s (some d) (.sb b)).getD d .junk = .sb b by simp [_root_.Go.Proofs.YtmeohhbdkoeadaaGreat.Am.putD,List.getD_eq_getElem?_getD,hd]] at this
    rw [this.sb_inv]; exact .imm (.bool _)
   ·rw [List.set_eq_of_length_le (by simp [_root_.Go.Proofs.YtmeohhbdkoeadaaGreat.Am.putD]; omega)]; exact hs

def unl (L:Array Bool):Nat:=L.toList.countP (!·)
theorem countP_set:∀ (l:List Bool) (i:Nat) (hi:i < l.length),l[i] = false → (l.set i true).countP (!·) + 1 = l.countP (!·)
 | [],_,hi,_=>by simp at hi
 | x :: l,0,_,hf=>by simp at hf; subst hf; simp
 | x :: l,i + 1,hi,hf=>by
  have:=countP_set l i (by simpa using hi) (by simpa using hf)
  rw [List.set_cons_succ,List.countP_cons,List.countP_cons]
  omega
theorem unl_set {L:Array Bool} {i:Nat} (hi:i < L.size) (hf:L[i] = false):unl (L.setIfInBounds i true) + 1 = unl L:=by
 unfold unl
 rw [Array.toList_setIfInBounds]
 exact countP_set L.toList i (by simpa using hi) (by simpa using hf)

theorem backB_spec:∀ (os:List Oper) (k:Nat),backB k os = true → ∀ j o,os[j]? = some o → ∀ e ∈ o.after,Region.binds .any e = true → e.on < k + j
 | [],_,_,j,o,h,_,_,_=>by simp at h
 | o1 :: os,k,h,j,o,hj,e,he,hb=>by
  simp only [backB,Bool.and_eq_true,List.all_eq_true] at h
  cases j with
  | zero =>
   simp at hj; subst hj
   have:=h.1 e (by simpa using he)
   simp [hb] at this; omega
  | succ j =>
   have:=backB_spec os (k + 1) h.2 j o (by simpa using hj) e he hb
   omega

theorem any_sound (htt:TTok P tt) (hG:G.ok c) {l:Recs} {s:List A} {m:List Blk} (h:Hyp P G tt ops l s m)
  (hQ:∀ a w ids,Sim c (slS allS 0 l s) (blS allS 0 l m) a w ids → Q .normal a w) :
  ∀ (fuel:Nat) (L:Array Bool) (a:Act) (w:World) (ids:Ids),L.size = ops.length → unl L ≤ fuel → DC (listedS L) ops →
   Sim c (slS (listedS L) 0 l s) (blS (listedS L) 0 l m) a w ids → wpAny P .any ops.toArray Q fuel L a w:=by
 have hlen:l.length = ops.length:=by rw [← h.ops_eq]; simp
 have hback:backB 0 ops = true:=by have:=h.indep; unfold indepB at this; rw [Bool.and_eq_true] at this; exact this.1
 have done:∀ (L:Array Bool) (a:Act) (w:World) (ids:Ids),L.size = ops.length → Region.ready .any ops.toArray L = [] →
   Sim c (slS (listedS L) 0 l s) (blS (listedS L) 0 l m) a w ids → Q .normal a w:=by
  intro L a w ids hL hr hs
  have all:∀ j,j < ops.length → listedS L j = true:=by
   intro j
   induction j using Nat.strongRecOn with
   | _ j ih =>
    intro hj
    cases hSj:listedS L j with
    | true=>rfl
    | false =>
     exfalso
     have:j ∈ Region.ready .any ops.toArray L:=by
      rw [mem_ready]
      have hjL:j < L.size:=by omega
      refine ⟨?_,ops[j],by simp [hj],?_⟩
      ·unfold listedS at hSj
       simp [Array.getD_eq_getD_getElem?,hjL] at hSj ⊢; exact hSj
      ·intro e he hb
       have:=backB_spec ops 0 hback j ops[j] (List.getElem?_eq_getElem hj) e he hb
       exact ih e.on (by omega) (by omega)
     rw [hr] at this; cases this
  have e1:slS (listedS L) 0 l s = slS allS 0 l s:=by
   apply ext_getD (by simp [slS_len])
   intro t
   refine slS_congr _ _ t l 0 s s rfl rfl ?_
   intro j o r hj _
   have:j < l.length:=by
    rcases Nat.lt_or_ge j l.length with h' | h'
    ·exact h'
    ·rw [List.getElem?_eq_none h'] at hj; cases hj
   simp only [Nat.zero_add,allS]; exact all j (by omega)
  have e2:blS (listedS L) 0 l m = blS allS 0 l m:=by
   apply ext_getB (by simp [blS_len])
   intro t
   refine blS_congr _ _ t l 0 m m rfl rfl ?_
   intro j o r x hj _
   have:j < l.length:=by
    rcases Nat.lt_or_ge j l.length with h' | h'
    ·exact h'
    ·rw [List.getElem?_eq_none h'] at hj; cases hj
   simp only [Nat.zero_add,allS]; exact all j (by omega)
  rw [e1,e2] at hs
  exact hQ a w ids hs
 have one:∀ (L:Array Bool) (a:Act) (w:World) (ids:Ids) (i:Nat),L.size = ops.length → DC (listedS L) ops →
   Sim c (slS (listedS L) 0 l s) (blS (listedS L) 0 l m) a w ids → i ∈ Region.ready .any ops.toArray L → ∀ K:Act → World → Prop,
   (∀ a w ids,DC (listedS (L.setIfInBounds i true)) ops → Sim c (slS (listedS (L.setIfInBounds i true)) 0 l s) (blS (listedS (L.setIfInBounds i true)) 0 l m) a w ids → K a w) → wpOp P ops.toArray Q i K a w:=by
  intro L a w ids i hL hDC hs hi K hK
  rw [mem_ready] at hi
  obtain ⟨hiL,o,ho,hed⟩:=hi
  have hilt:i < L.size:=by
   rcases Nat.lt_or_ge i L.size with h' | h'
   ·exact h'
   ·simp [Array.getD_eq_getD_getElem?,h'] at hiL
  have hSi:listedS L i = false:=by
   unfold listedS; simp [Array.getD_eq_getD_getElem?,hilt] at hiL ⊢; exact hiL
  have ho':ops[i]? = some o:=by simpa using ho
  obtain ⟨r,hk⟩:=h.op_get ho'
  have hS':∀ j,listedS (L.setIfInBounds i true) j = (listedS L j || j == i):=by
   intro j
   unfold listedS
   by_cases hj:j = i
   ·subst hj; simp [Array.getD_eq_getD_getElem?,hilt]
   ·simp [Array.getD_eq_getD_getElem?,hj,Ne.symm hj]
  have hDC':DC (listedS (L.setIfInBounds i true)) ops:=by
   intro j oj hj hSj e he hb
   rw [hS'] at hSj ⊢
   rw [Bool.or_eq_true] at hSj ⊢
   rcases hSj with hSj | hSj
   ·exact .inl (hDC j oj hj hSj e he hb)
   ·have:j = i:=by simpa using hSj
    subst this
    rw [ho'] at hj; cases hj
    exact .inl (hed e he hb)
  obtain ⟨hlk,hbk⟩:=h.looks hDC hk hSi (fun i' hi' hne=>by
   have:=hi' _ hDC' (by rw [hS']; simp)
   rw [hS',Bool.or_eq_true] at this
   rcases this with h1 | h1
   ·exact h1
   ·exact absurd (by simpa using h1) hne)
  obtain ⟨hgd,hex,hsk⟩:=Ch_get l s m h.ch i o r hk
  have hadd1:slS (listedS (L.setIfInBounds i true)) 0 l s = putD (slS (listedS L) 0 l s) o.dst r.v :=
   slS_add _ _ l i s o r hk hS' hSi (fun j o' r' hj hjj hdd hne=>by
    cases hSj:listedS L j with
    | false=>rfl
    | true =>
     have:=h.bound hDC hk hjj hj (by
      simp only [conf,Bool.or_eq_true]
      refine .inl (.inl (.inl (.inl (.inr ?_))))
      rw [hdd]
      cases hd:o.dst with
      | none=>exact absurd hd hne
      | some d=>simp only [sameS]; exact Nat.beq_refl _) hSj
     rw [hSi] at this; cases this)
  have hadd2:blS (listedS (L.setIfInBounds i true)) 0 l m = updB (blS (listedS L) 0 l m) r.oc.u :=
   blS_add _ _ l i m o r hk hS' hSi (fun j o' r' b x x' hj hjj hu hu'=>by
    cases hSj:listedS L j with
    | false=>rfl
    | true =>
     have:=h.bound hDC hk hjj hj (by
      simp only [conf,Bool.or_eq_true]
      exact .inl (.inr (meetL_mem (lookup_fp hu') (lookup_fp hu)))) hSj
     rw [hSi] at this; cases this)
  unfold wpOp
  rw [ho]
  simp only
  have wanted:Region.wanted o (yielded ops.toArray a.tmps) = r.ex:=by
   unfold Region.wanted
   unfold Gd at hgd
   split at hgd
   ·rename_i hg; rw [hg]; simp [hgd]
   ·rename_i j want hg
    have hld:∀ d,gslot ops j = some d → d ∈ o.looksAt ops.toArray:=by
     intro d g1
     unfold Oper.looksAt
     rw [hg]
     have:(ops.toArray[j]?).bind (·.dst) = some d:=by simpa [gslot] using g1
     simp only [this]
     simp
    rcases hgd with ⟨d,b,g1,g2,g3⟩ | ⟨d,g1,g2,g3⟩
    ·rw [hg]
     simp only
     have hev:=hs.ev (.tmp d)
     simp only [ev,Act.eval] at hev
     rw [hlk d (hld d g1),g2] at hev
     rw [yielded_eq g1 hev.bool_inv,g3]
     cases b <;> cases want <;> rfl
    ·rw [hg]
     simp only
     have hev:=hs.ev (.tmp d)
     simp only [ev,Act.eval] at hev
     rw [hlk d (hld d g1),g2] at hev
     obtain ⟨us,hu,hu2,_⟩:=hev.tup_inv
     have hu3:us = []:=by simpa using hu2
     subst hu3
     have hy:yielded ops.toArray a.tmps j = none:=by
      unfold yielded
      have h1:(ops.toArray[j]?).bind (·.dst) = some d:=by simpa [gslot] using g1
      rw [h1]
      rcases Nat.lt_or_ge d a.tmps.size with h | h
      ·have h2:a.tmps[d]? = some (.tuple #[]):=by simpa [Array.getD_eq_getD_getElem?,h] using hu
       simp [h2]
      ·simp [h]
     rw [hy,g3]; rfl
  rw [wanted]
  cases hrex:r.ex with
  | false =>
   obtain ⟨q1,q2,q3⟩:=hsk hrex
   rw [if_neg (by simp)]
   refine hK _ w ids hDC' ?_
   rw [hadd1,hadd2,q1,q2]
   exact hs.putD o.dst (.imm (.tup [] [] rfl (fun _ h=>by simp at h)))
  | true =>
   rw [if_pos rfl]
   obtain ⟨⟨aid',hout⟩,href⟩:=hex hrex
   left
   have hloc:Out P G tt o aid' (slS (listedS L) 0 l s) (blS (listedS L) 0 l m) r.oc:=by
    refine hout.local ?_ ?_ (by simp [blS_len])
    ·intro x hx
     cases x with
     | tmp t =>
      have:t ∈ o.looksAt ops.toArray:=by
       unfold Oper.looksAt
       refine List.mem_append.2 (.inl ?_)
       rw [List.mem_filterMap]
       exact ⟨.tmp t,by simpa using hx,rfl⟩
      simp only [ev]; exact (hlk t this).symm
     | const v=>rfl
     | global g=>rfl
     | func f=>rfl
    ·intro b hb; exact (hbk b (.inl hb)).symm
   refine Out_sound htt hG hs hloc ?_
   intro a' w' ids' hs'
   refine hK a' w' ids' hDC' ?_
   rw [hadd1,hadd2]
   exact hs'.refine href
 intro fuel
 induction fuel with
 | zero =>
  intro L a w ids hL hu hDC hs
  have hr:Region.ready .any ops.toArray L = []:=by
   apply List.eq_nil_iff_forall_not_mem.2
   intro i hi
   rw [mem_ready] at hi
   obtain ⟨hiL,_⟩:=hi
   have hilt:i < L.size:=by
    rcases Nat.lt_or_ge i L.size with h' | h'
    ·exact h'
    ·simp [Array.getD_eq_getD_getElem?,h'] at hiL
   have hf:L[i] = false:=by simpa [Array.getD_eq_getD_getElem?,hilt] using hiL
   have:=unl_set hilt hf
   omega
  exact ⟨hr,done L a w ids hL hr hs⟩
 | succ fuel ih =>
  intro L a w ids hL hu hDC hs
  refine ⟨fun hr=>done L a w ids hL hr hs,?_⟩
  intro i hi
  refine one L a w ids i hL hDC hs hi _ ?_
  intro a' w' ids' hDC' hs'
  refine ih _ a' w' ids' (by simp [hL]) ?_ hDC' hs'
  rw [mem_ready] at hi
  obtain ⟨hiL,_⟩:=hi
  have hilt:i < L.size:=by
   rcases Nat.lt_or_ge i L.size with h' | h'
   ·exact h'
   ·simp [Array.getD_eq_getD_getElem?,h'] at hiL
  have hf:L[i] = false:=by simpa [Array.getD_eq_getD_getElem?,hilt] using hiL
  have:=unl_set hilt hf
  omega

def nAlloc:List Oper → Nat
 | []=>0
 | o :: os=>match isAlloc o.op with
  | true=>nAlloc os + 1
  | false=>nAlloc os
def nRv:List (Nat × Nat) → Nat
 | []=>0
 | (_,n) :: l=>n + nRv l
def extB:Nat → List Blk → (List Blk → Prop) → Prop
 | 0,m,K=>K m
 | n + 1,m,K=>appB m .dead fun m'=>extB n m' K
theorem extB_eq:∀ (n:Nat) (m:List Blk) (K:List Blk → Prop),extB n m K = K (m ++ List.replicate n .dead)
 | 0,m,K=>by simp [extB]
 | n + 1,m,K=>by rw [extB,appB_eq,extB_eq n]; simp [List.replicate_succ]

theorem WA_drawR (rv:List (Nat × Nat)) (htt:TTok P tt) (hm:P.follows .mixedOrders = true) {QA:Exit → List A → List Blk → Prop} {s:List A} {m:List Blk} {id:Nat} {l:List Oper}
  (h:extB (nAlloc l + nRv rv) m fun m'=>fnat m.length fun b=>runD P G tt l rv l 0 b s m' fun s' m'' fps=>indepB l fps = true ∧ QA .normal s' m''):WA P G (.region id l.toArray true) QA s m:=by
 rw [extB_eq,fnat_eq] at h
 obtain ⟨recs,h1,h2,h3,h4⟩:=runD_ch rv l 0 _ _ _ _ h
 unfold WA
 intro c a w ids hG hs
 refine wp_region_any hm ?_
 have hb:Bw w.heap.size w { w with drawn:=w.drawn + 1 }:=⟨rfl,rfl,rfl,Nat.le_refl _,fun _ _=>rfl,drLe.succ _⟩
 have hs':Sim c s (m ++ List.replicate (nAlloc l + nRv rv) .dead) a { w with drawn:=w.drawn + 1 } (ids ++ List.replicate (nAlloc l + nRv rv) .dead):=by
  refine hs.grow hb _ _ (by simp) ?_ ?_ ?_ ?_
  ·intro i g1 g2; simp only [List.getElem_replicate]; rfl
  ·intro p hp; rw [List.mem_replicate] at hp; cases hp.2
  ·intro p hp; rw [List.mem_replicate] at hp; cases hp.2
  ·intro i j p q x g1 g2 _ _; rw [List.getElem?_replicate] at g1; split at g1 <;> cases g1
 have hyp:Hyp P G tt l recs s (m ++ List.replicate (nAlloc l + nRv rv) .dead):=⟨h1,h2,h3⟩
 have hz:∀ j,listedS (Array.replicate l.toArray.size false) j = false:=by
  intro j; unfold listedS; simp [Array.getD_eq_getD_getElem?,Array.getElem?_replicate]; split <;> rfl
 have hid1:∀ (r:Recs) (i:Nat) (s:List A),slS (listedS (Array.replicate l.toArray.size false)) i r s = s:=by
  intro r; induction r with
  | nil=>intros; rfl
  | cons p r ih=>intro i s; rw [slS]; simp only [hz]; exact ih _ _
 have hid2:∀ (r:Recs) (i:Nat) (m:List Blk),blS (listedS (Array.replicate l.toArray.size false)) i r m = m:=by
  intro r; induction r with
  | nil=>intros; rfl
  | cons p r ih=>intro i s; rw [blS]; simp only [hz]; exact ih _ _
 refine any_sound htt hG hyp (fun a w ids hs=>⟨_,_,ids,h4,hs⟩) _ _ a _ _ (by simp) ?_ ?_ (by rw [hid1,hid2]; exact hs')
 ·unfold unl; simp
  rw [List.countP_replicate]; simp
 ·intro j o _ hS; rw [hz] at hS; cases hS
theorem WA_draw (htt:TTok P tt) (hm:P.follows .mixedOrders = true) {QA:Exit → List A → List Blk → Prop} {s:List A} {m:List Blk} {id:Nat} {l:List Oper}
  (h:extB (nAlloc l) m fun m'=>fnat m.length fun b=>runD P G tt l [] l 0 b s m' fun s' m'' fps=>indepB l fps = true ∧ QA .normal s' m''):WA P G (.region id l.toArray true) QA s m:=WA_drawR [] htt hm h
end
end Go.Proofs.YtmeohhbdkoeadaaGreat.Am
namespace Go.Proofs.YtmeohhbdkoeadaaGreat.Am
variable [Inhabited DRT]
open Go.RowKit (Below)
section
variable {c:Ctx} {s:List A} {m:List Blk} {a:Act} {w w':World} {ids ids':Ids} {P:Program} {im im':Nat → Prop} {tt:TT} {G:GInv}
variable {next:Act → World → Prop} {Q:Exit → Act → World → Prop} {o:Oper}
/-- A row of ours is written no more: it is a value. -/
theorem WA_freeze {code:Code} {Q:Exit → List A → List Blk → Prop} (b:Nat) (h:frzF b s m fun s' m'=>WA P G code Q s' m'):WA P G code Q s m:=by
 unfold WA
 intro c a w ids hG hs
 obtain ⟨s',m',ids',h',hs'⟩:=frzF_sound hs h
 unfold WA at h'
 exact h' c a w ids' hG hs'

end
end Go.Proofs.YtmeohhbdkoeadaaGreat.Am
namespace Go.Proofs.YtmeohhbdkoeadaaGreat.Am
variable [Inhabited DRT]
open Go.RowKit (Below)

/-! ### A function that is handed blocks: its contract from its walk -/
def raw1 (tt:TT) (rv:ResultVar) (s:List A) (m:List Blk) (K:A → Prop):Prop :=
 match rv with
 | .tmp t=>fd 3 (s.getD t .junk) K
 | .cell p t=>sLoad tt t (s.getD p .junk) m fun v _=>fd 3 v K
def rawL (tt:TT):List ResultVar → List A → List Blk → (List A → Prop) → Prop
 | [],_,_,K=>K []
 | r :: rs,s,m,K=>raw1 tt r s m fun v=>rawL tt rs s m fun vs=>K (v :: vs)
def okS (m:List Blk):List Nat → Bool
 | []=>true
 | b :: bs=>match Nat.blt b m.length with
  | true=>okS m bs
  | false=>false
theorem okS_sound {m:List Blk}:∀ {l:List Nat},okS m l = true → ∀ b ∈ l,b < m.length
 | [],_,b,hb=>by simp at hb
 | x :: xs,h,b,hb=>by
  unfold okS at h
  split at h
  ·rename_i hx
   rcases List.mem_cons.1 hb with rfl | hb
   ·exact Nat.le_of_ble_eq_true hx
   ·exact okS_sound h b hb
  ·cases h
def finM (k:Nat) (m:List Blk) (rv:A) (r:A) (mo:List Blk):Prop :=
 fNL (rangeN k 0 ++ ddN (rangeN k 0) (reach m 8 rv)) fun ρ=>match okS m ρ,nodupB ρ with
  | true,true=>fd 4 (renA (renAll (posN ρ 0)) 5 rv) fun rv'=>fbs (ρ.map fun b=>renB (renAll (posN ρ 0)) 4 (m.getD b .dead)) fun m'=>fitS [rv'] m' [r] mo
  | _,_=>False
def retM (tt:TT) (fn:Func) (k:Nat) (r:A) (mo:List Blk):Exit → List A → List Blk → Prop
 | .ret,s,m=>rawL tt fn.results.toList s m fun vs=>match vs with
  | [v]=>finM k m v r mo
  | vs=>finM k m (.tup vs) r mo
 | .normal,s,m=>rawL tt fn.results.toList s m fun vs=>match vs with
  | [v]=>finM k m v r mo
  | vs=>finM k m (.tup vs) r mo
 | _,_,_=>False

section
variable {c:Ctx} {s:List A} {m:List Blk} {a:Act} {w w':World} {ids ids':Ids} {P:Program} {im im':Nat → Prop} {tt:TT} {G:GInv}

theorem raw1_run (htt:TTok P tt) (hs:Sim c s m a w ids) (rv:ResultVar) {K:A → Prop} (h:raw1 tt rv s m K) :
  ∃ r v,(resOf a.tmps rv).run P w = .ok v w ∧ K r ∧ Rel ids (imOf c ids w) w r v:=by
 cases rv with
 | tmp t =>
  simp only [raw1,fd_eq] at h
  exact ⟨_,a.tmps.getD t undef,rfl,h,hs.ev (.tmp t)⟩
 | cell p t =>
  simp only [raw1,fd_eq] at h
  obtain ⟨ad,r,u,h1,h2,h3,h4⟩:=sLoad_run (P:=P) htt hs (hs.ev (.tmp p)) h
  refine ⟨_,u,?_,h3,h4⟩
  have h1:a.tmps.getD p undef = .pointer (some ad):=h1
  show (do loadVar t (← asAddr (a.tmps.getD p undef)):Sem Value).run P w = _
  rw [h1]
  simp [asAddr,h2]
theorem rawL_run (htt:TTok P tt) (hs:Sim c s m a w ids):∀ (rs:List ResultVar) {K:List A → Prop},rawL tt rs s m K →
  ∃ (xs:List A) (vs:List Value),(rs.mapM (resOf a.tmps)).run P w = .ok vs w ∧ K xs ∧
   vs.length = xs.length ∧ ∀ j (h:j < xs.length) (h':j < vs.length),Rel ids (imOf c ids w) w xs[j] vs[j]
 | [],K,h=>⟨[],[],by simp,h,rfl,fun j h=>absurd h (Nat.not_lt_zero _)⟩
 | rv :: rs,K,h=>by
  obtain ⟨r,v,h1,h2,h3⟩:=raw1_run (P:=P) htt hs rv h
  obtain ⟨xs,vs,g1,g2,g3,g4⟩:=rawL_run htt hs rs h2
  refine ⟨r :: xs,v :: vs,?_,g2,by simp [g3],?_⟩
  ·rw [List.mapM_cons]
   simp only [Sem.run_bind,h1,Result.andThen_ok,g1]
   rfl
  ·intro j hj hj'
   cases j with
   | zero=>exact h3
   | succ j=>exact g4 j (by simpa using hj) (by simpa using hj')

/-- Some blocks alone, and one value. -/
theorem Sim.sub (hs:Sim c s m a w ids) {ρ : List Nat} (hnd : ρ.Nodup) (hok:∀ b ∈ ρ,b < m.length) {x:A} {v:Value} (hx:Rel ids (imOf c ids w) w x v) :
  Sim c [renA (renAll (posN ρ 0)) 5 x] (ρ.map fun b=>renB (renAll (posN ρ 0)) 4 (m.getD b .dead)) ⟨#[v],[]⟩ w (ρ.map fun b=>ids.getD b .dead):=by
 have idAt:∀ b,b ∈ ρ → ∃ p,ids[b]? = some p ∧ ids.getD b .dead = p ∧ BRel ids (imOf c ids w) w (m.getD b .dead) p:=by
  intro b hb
  obtain ⟨p,h1,h2⟩:=hs.blk_id (hok b hb)
  exact ⟨p,h1,by rw [List.getD_eq_getElem?_getD,h1]; rfl,h2⟩
 have idcAt:∀ (j:Nat) b,ρ[j]? = some b → (ρ.map fun b=>ids.getD b .dead)[j]? = ids[b]?:=by
  intro j b hj
  obtain ⟨p,h1,h2,_⟩:=idAt b (List.mem_of_getElem? hj)
  rw [List.getElem?_map,hj,h1]
  simp only [Option.map_some,h2]
 have idcInv:∀ (i:Nat) p,(ρ.map fun b=>ids.getD b .dead)[i]? = some p → ∃ b,ρ[i]? = some b ∧ ids[b]? = some p:=by
  intro i p hi
  cases hj : ρ[i]? with
  | none=>rw [List.getElem?_map,hj] at hi; cases hi
  | some b=>exact ⟨b,rfl,by rw [← idcAt i b hj]; exact hi⟩
 have hτ : RenOk (renAll (posN ρ 0)) ids (ρ.map fun b=>ids.getD b .dead):=by
  have key:∀ b b',posN ρ 0 b = some b' → (ρ.map fun b=>ids.getD b .dead)[b']? = ids[b]?:=by
   intro b b' hb
   obtain ⟨h1,h2⟩:=posN_some _ _ _ _ hb
   exact idcAt _ _ (by simpa using h2)
  exact ⟨fun b b' p h1 h2=>⟨p,by rw [key b b' h1]; exact h2,rfl⟩,fun b b' p h1 h2 _=>⟨p,by rw [key b b' h1]; exact h2,likeE0_rfl p⟩,fun b b' p h1 h2=>⟨p,by rw [key b b' h1]; exact h2,rfl⟩,fun b b' h1 h2=>by rw [key b b' h1]; exact h2,fun b b' h1 h2=>by rw [key b b' h1]; exact h2⟩
 have hi:∀ b,imOf c ids w b → imOf c (ρ.map fun b=>ids.getD b .dead) w b:=by
  rintro b (h | ⟨h1,h2,h3⟩)
  ·exact .inl h
  ·refine .inr ⟨h1,h2,fun p hp=>?_⟩
   obtain ⟨i,hi⟩:=List.getElem?_of_mem hp
   obtain ⟨b',_,h5⟩:=idcInv i _ hi
   exact h3 p (List.mem_of_getElem? h5)
 refine ⟨rfl,rfl,?_,by simp,?_,?_,?_,hs.frame,hs.im0lt,?_⟩
 ·intro i h1 h2
  have:i = 0:=by simp at h1; omega
  subst this
  exact renA_rel hi (fun _ _=>rfl) hτ 5 _ _ hx
 ·intro i h1 h2
  have hil:i < ρ.length:=by simpa using h1
  obtain ⟨p,q1,q2,q3⟩:=idAt ρ[i] (List.getElem_mem hil)
  rw [List.getElem_map,List.getElem_map,q2]
  exact renB_rel hi (fun _ _=>rfl) hτ 4 (fun _ _ _ _=>rfl) q3
 ·intro i j p q x h1 h2 h3 h4
  obtain ⟨b1,e1,e2⟩:=idcInv i _ h1
  obtain ⟨b2,e3,e4⟩:=idcInv j _ h2
  have:=hs.distinctX b1 b2 p q x e2 e4 h3 h4
  subst this
  exact (List.getElem?_inj (lt_of_get e1) hnd).1 (e1.trans e3.symm)
 ·intro p hp x hx
  obtain ⟨i,hi⟩:=List.getElem?_of_mem hp
  obtain ⟨b,_,h3⟩:=idcInv i _ hi
  exact hs.freshX p (List.mem_of_getElem? h3) x hx
 ·intro vs hv
  obtain ⟨i,hi⟩:=List.getElem?_of_mem hv
  obtain ⟨b,_,h3⟩:=idcInv i _ hi
  exact hs.gho vs (List.mem_of_getElem? h3)

theorem finM_sound (hs:Sim c s m a w ids) {k:Nat} {rv r:A} {mo:List Blk} {v:Value} (hx:Rel ids (imOf c ids w) w rv v) (h:finM k m rv r mo):∃ ids',Sim c [r] mo ⟨#[v],[]⟩ w ids':=by
 unfold finM at h
 rw [fNL_eq] at h
 split at h
 ·rename_i h1 h2
  rw [fd_eq,fbs_eq] at h
  exact WkS_of_fit h _ _ _ _ (hs.sub (nodupB_sound h2) (okS_sound h1) hx)
 ·exact h.elim

theorem retM_body (htt:TTok P tt) (hs:Sim c s m a w ids) {fn:Func} {k:Nat} {r:A} {mo:List Blk} (h:rawL tt fn.results.toList s m fun vs=>match vs with
  | [v]=>finM k m v r mo
  | vs=>finM k m (.tup vs) r mo):∃ v ids',(results fn a.tmps).run P w = .ok v w ∧ Sim c [r] mo ⟨#[v],[]⟩ w ids':=by
 obtain ⟨xs,vs,h1,h2,h3,h4⟩:=rawL_run (P:=P) htt hs _ h
 have hrun:=results_run (P:=P) (a:=a) h1
 split at h2
 ·rename_i x
  have:vs.length = 1:=by simpa using h3
  match vs,this with
  | [v],_ =>
   obtain ⟨ids',hs'⟩:=finM_sound hs (h4 0 (by simp) (by simp)) h2
   exact ⟨v,ids',hrun,hs'⟩
 ·rename_i hne
  have hne:¬ vs.length = 1:=by
   intro e
   rw [e] at h3
   match xs,h3 with
   | [x],_=>exact hne x rfl
  rw [dif_neg (by simpa using hne)] at hrun
  obtain ⟨ids',hs'⟩:=finM_sound hs (.tup xs vs h3 h4) h2
  exact ⟨_,ids',hrun,hs'⟩

theorem MCalls.of_WA (htt:TTok P tt) {f:FuncId} {fn:Func} {cd:Code} {args:List A} {mi:List Blk} {r:A} {mo:List Blk} (hf:P.funcs[f]? = some fn) (hb:fn.body = some cd)
  (hn : (fn.name == "runtime.NumGoroutine") = false) (k : Nat) (hk : fn.ntmps - args.length = k)
  (h:fl (args ++ List.replicate k .junk) fun s=>fnat mi.length fun n=>WA P G cd (retM tt fn n r mo) s mi):MCalls P G f args mi r mo:=by
 rw [fl_eq,fnat_eq] at h
 refine ⟨⟨fn,cd,hf,hb,hn⟩,?_⟩
 intro im w vs gs ids hG hs
 refine calls_of_wp hf hb ?_
 unfold WA at h
 have hl:vs.length = args.length:=by have:=hs.len; simpa using this
 have hsim:Sim ⟨w,im,muOf ids,gs⟩ (args ++ List.replicate k .junk) mi ⟨vs.toArray ++ Array.replicate (fn.ntmps - vs.toArray.size) undef,[]⟩ w ids:=by
  refine ⟨rfl,by simp [hl,hk],?_,hs.mlen,hs.blks,hs.distinctX,hs.freshX,hs.frame,hs.im0lt,hs.gho⟩
  intro i h1 h2
  by_cases hi:i < args.length
  ·rw [List.getElem_append_left hi,Array.getElem_append_left (by simp; omega)]
   exact hs.slots i hi (by simp; omega)
  ·rw [List.getElem_append_right (by omega)]
   simp only [List.getElem_replicate]
   exact .imm (.junk _)
 refine wp_mono (h ⟨w,im,muOf ids,gs⟩ _ w ids hG hsim) ?_
 rintro e a' w' ⟨s',m',ids',hq,hs'⟩
 cases e with
 | ret =>
  obtain ⟨v,ids2,h1,h2⟩:=retM_body (P:=P) htt hs' hq
  exact ⟨hs'.defers,v,h1,v,ids2,rfl,h2⟩
 | normal =>
  obtain ⟨v,ids2,h1,h2⟩:=retM_body (P:=P) htt hs' hq
  exact ⟨hs'.defers,v,h1,v,ids2,rfl,h2⟩
 | _=>exact hq.elim

/-- A contract serves a state that may be taken for its own. -/
theorem MCalls.fit {f:FuncId} {args args':List A} {mi mi':List Blk} {r:A} {mo:List Blk} (h:MCalls P G f args mi r mo) (hl:mi'.length = mi.length) (hf:fitS args' mi' args mi):MCalls P G f args' mi' r mo:=by
 refine ⟨h.1,?_⟩
 intro im w vs gs ids hG hs
 have hs':=hs.fit hf
 rw [List.take_of_length_le (by rw [hs.mlen,hl]; exact Nat.le_refl _)] at hs'
 exact h.2 im w vs gs ids hG hs'
end
end Go.Proofs.YtmeohhbdkoeadaaGreat.Am
namespace Go.Proofs.YtmeohhbdkoeadaaGreat.Am
variable [Inhabited DRT]
/-- What a branch's test says, in plain words: all rules as one. -/
theorem brsA:(∀ (p:Prop) [Decidable p],(decide p = true) = p) ∧ (∀ (p:Prop) [Decidable p],(decide p = false) = ¬ p) ∧ (∀ (α : Type) [BEq α] [LawfulBEq α] (a b : α),((a == b) = true) = (a = b)) ∧
  (∀ (α : Type) [BEq α] [LawfulBEq α] (a b : α),((a == b) = false) = (a ≠ b)) ∧ (∀ (α : Type) [BEq α] [LawfulBEq α] (a b : α),((a != b) = true) = (a ≠ b)) ∧ (∀ (α : Type) [BEq α] [LawfulBEq α] (a b : α),((a != b) = false) = (a = b)) ∧
  (∀ (α : Type) (a b : α),(a ≠ b) = ¬ (a = b)) ∧ (∀ b:Bool,((!b) = true) = (b = false)) ∧ (∀ b:Bool,((!b) = false) = (b = true)) ∧ (∀ b:Bool,(¬ b = true) = (b = false)) ∧ (∀ (p:Prop) [Decidable p],(¬ ¬ p) = p) :=
 ⟨fun _ _=>by simp,fun _ _=>by simp,fun _ _ _ _ _=>by simp,fun _ _ _ _ _=>by simp,fun _ _ _ _ _=>by simp,fun _ _ _ _ _=>by simp,fun _ _ _=>rfl,fun _=>by simp,fun _=>by simp,fun _=>by simp,fun _ _=>by simp⟩
theorem brsE:(∀ a b:Int,(a == b) = decide (a = b)) ∧ (∀ a b:Int,(a != b) = !decide (a = b)) ∧ (∀ a b:Bool,((a && b) = true) = (a = true ∧ b = true)) ∧ (∀ a b:Bool,((a || b) = true) = (a = true ∨ b = true)) ∧ (∀ b:Bool,((!b) = true) = (b = false)) ∧ (∀ b:Bool,((!b) = false) = (b = true)) ∧
  (∀ a b:Bool,((a && b) = false) = (a = false ∨ b = false)) ∧ (∀ a b:Bool,((a || b) = false) = (a = false ∧ b = false)) ∧ (∀ (p:Prop) [Decidable p],(decide p = true) = p) ∧ (∀ (p:Prop) [Decidable p],(decide p = false) = ¬ p) ∧ ((true = true) = True) ∧ ((false = true) = False) ∧ ((true = false) = False) ∧ ((false = false) = True) ∧ (∀ p:Prop,(p ∧ True) = p) ∧ (∀ p:Prop,(p ∨ False) = p) :=
 ⟨fun _ _=>rfl,fun _ _=>rfl,fun _ _=>by simp,fun _ _=>by simp,fun _=>by simp,fun _=>by simp,fun a b=>by cases a <;> cases b <;> simp,fun _ _=>by simp,fun _ _=>by simp,fun _ _=>by simp,by simp,by simp,by simp,by simp,by simp,by simp⟩
end Go.Proofs.YtmeohhbdkoeadaaGreat.Am
namespace Go.Proofs.YtmeohhbdkoeadaaGreat.Am
variable [Inhabited DRT]
/-! ### Short names for what the walks say most often -/
section
variable {P:Program} {G:GInv} {tt:TT} {Q:Exit → List A → List Blk → Prop} {s:List A} {m:List Blk}
theorem sq {x y:Code} (h:WA P G x (thenA (WA P G y Q) Q) s m):WA P G (.seq x y) Q s m:=WA_seq h
theorem bk {id:Nat} {x:Code} (h:WA P G x (blockA id Q) s m):WA P G (.block id x) Q s m:=WA_block h
theorem cd {t:Operand} {x y:Code} (h:condA (ev s t) (WA P G x Q s m) (WA P G y Q s m)):WA P G (.cond t x y) Q s m:=WA_cond h
theorem sk (h:Q .normal s m):WA P G .skip Q s m:=WA_skip h
theorem xt {id:Nat} (h:Q (.exit id) s m):WA P G (.exit id) Q s m:=WA_exit h
theorem rt (h:Q .ret s m):WA P G .ret Q s m:=WA_ret h
theorem rg (htt:TTok P tt) {id:Nat} {l:List Oper} (h:runL P G tt l l s m (Q .normal)):WA P G (.region id l.toArray false) Q s m:=WA_region htt h
theorem dw (htt:TTok P tt) (hm:P.follows .mixedOrders = true) {id:Nat} {l:List Oper}
  (h:extB (nAlloc l) m fun m'=>fnat m.length fun b=>runD P G tt l [] l 0 b s m' fun s' m'' fps=>indepB l fps = true ∧ Q .normal s' m''):WA P G (.region id l.toArray true) Q s m:=WA_draw htt hm h
end
theorem wf {k:IntKind} {n:Int} {K:A → Prop} (h2:K (.int k n)) (h1:k.wrap n = n:=by first|exact wr_i64 (by omega)|exact wr_u64 (by omega)|exact wr_u8 (by omega)|exact wr_i32 (by omega)|exact wr_u32 (by omega)):WR k n K:=WR_fit h1 h2
theorem wp' {k:IntKind} {n:Int} {K:A → Prop} (h:K (.int k (k.wrap n))):WR k n K:=WR_wrap h
theorem ai {l:List Oper} {f:List Fp} {q:Prop} (h2:q) (h1:indepB l f = true:=by kernel_rfl):indepB l f = true ∧ q:=⟨h1,h2⟩
theorem an {p q:Prop} (h2:q) (h1:p:=by first|omega|decide|(dsimp only;omega)|(simp at *;omega)):p ∧ q:=⟨h1,h2⟩
theorem fa {p:Prop} (h:p:=by first|exact rfl|exact trivial|exact Or.inl (fun _ _=>rfl)|exact (fun _=>rfl)|exact (fun _ _=>rfl)|exact Or.inl (fun _ hi=>absurd hi (Nat.not_lt_zero _))):p:=h
theorem fb {p q:Prop} (h2:q) (h:p:=by first|exact rfl|exact Or.inl (fun _ _=>rfl)|exact (fun _=>rfl)|exact (fun _ _=>rfl)):p ∧ q:=⟨h,h2⟩
end Go.Proofs.YtmeohhbdkoeadaaGreat.Am
namespace Go.Proofs.YtmeohhbdkoeadaaGreat.Am
variable [Inhabited DRT]
open Go.RowKit (Below)
/-- A contract serves arguments that may be taken for its own. -/
theorem ACalls.fit {P:Program} {G:GInv} {f:FuncId} {args args':List A} {r:A} (h:ACalls P G f args r) (hf:andL (fitA.fitL 6 0 args' args)):ACalls P G f args' r:=by
 refine ⟨h.1,?_⟩
 intro im w vs him hG hl hr
 have hlen:=fitL_len _ _ _ _ hf
 refine h.2 im w vs him hG (by omega) ?_
 intro j h1 h2
 have:=fitA_rel (ids:=[]) (im:=im) (im':=im) (w:=w) (fun _ h=>h) 6 0 _ _ _ (fitL_get _ _ _ _ hf j (by omega) h1) (.imm (hr j (by omega) h2))
 exact Rel.nil_rel (by simpa using this)
end Go.Proofs.YtmeohhbdkoeadaaGreat.Am
namespace Go.Proofs.YtmeohhbdkoeadaaGreat.Am
abbrev drF:Inhabited DRT:=⟨⟨False⟩⟩
end Go.Proofs.YtmeohhbdkoeadaaGreat.Am
namespace Go.Proofs.YtmeohhbdkoeadaaGreat.Am
variable [Inhabited DRT]
open Go.RowKit (Below)
section
variable {c:Ctx} {s:List A} {m:List Blk} {a:Act} {w w':World} {ids ids':Ids} {P:Program} {im im':Nat → Prop} {tt:TT} {G:GInv}
theorem Sim.reblk (hs:Sim c s m a w ids) (b:Nat) (x:Blk) (hx:∀ (h:b < ids.length),BRel ids (imOf c ids w) w x ids[b]):Sim c s (m.set b x) a w ids where
 defers:=hs.defers
 len:=hs.len
 slots:=hs.slots
 mlen:=by rw [List.length_set]; exact hs.mlen
 blks:=by
  intro i h h'
  rw [List.length_set] at h
  rw [List.getElem_set]
  split
  ·rename_i e; subst e; exact hx h'
  ·exact hs.blks i h h'
 distinctX:=hs.distinctX
 freshX:=hs.freshX
 frame:=hs.frame
 im0lt:=hs.im0lt
 gho:=hs.gho
/-- A cell of a box that holds a nil slice holds a row of ours that has no place yet. -/
theorem WA_nilB {Q:Exit → List A → List Blk → Prop} {code:Code} (b j:Nat) (ty:TypeId) (sz:Nat) {ty':TypeId} {cs:List A} (hb:m[b]? = some (.box ty' cs)) (hj:cs[j]? = some .nils)
  (h:fnat m.length fun n=>fl (cs.set j (.own n)) fun cs'=>setB m b (.box ty' cs') fun m1=>pushB m1 (.row ty sz 0 fun _=>[]) fun _ m'=>WA P G code Q s m'):WA P G code Q s m:=by
 rw [fnat_eq,fl_eq,setB_eq,pushB_eq] at h
 unfold WA at h ⊢
 intro c a w ids hG hs
 have hbm:b < m.length:=by
  rcases Nat.lt_or_ge b m.length with h' | h'
  ·exact h'
  ·rw [List.getElem?_eq_none h'] at hb; cases hb
 have hs1:=hs.grow (Bw.refl _ w) [.row ty sz 0 fun _=>[]] [.virt] rfl (fun i h1 h2=>by
   have:i = 0:=by simp at h1; omega
   subst this; exact rfl) (fun p h=>by simp at h) (fun vs h=>by simp at h) (fun i j p q x h1=>by
   cases i with
   | zero=>simp at h1
   | succ i=>simp at h1)
 have hs2:=hs1.reblk b (.box ty' (cs.set j (.own m.length))) (by
  intro hbi
  have hB:=hs1.blks b (by simp; omega) hbi
  have e:(m ++ [Blk.row ty sz 0 fun _=>[]])[b]'(by simp; omega) = .box ty' cs:=by
   rw [List.getElem_append_left hbm]
   rw [List.getElem?_eq_getElem hbm] at hb
   exact Option.some.inj hb
  rw [e] at hB
  cases hp:(ids ++ [IdE.virt])[b] with
  | dead=>rw [hp] at hB; exact hB
  | stale=>rw [hp] at hB; exact hB
  | virt=>rw [hp] at hB; exact hB
  | gho vs=>rw [hp] at hB; exact hB
  | lv p =>
   rw [hp] at hB
   obtain ⟨vs,g1,g2,g3,g4⟩:=hB
   refine ⟨vs,g1,g2,by rw [List.length_set]; exact g3,fun k hk hk'=>?_⟩
   rw [List.length_set] at hk
   have g5:=g4 k hk hk'
   rw [List.getElem_set]
   split
   ·rename_i ejk
    subst ejk
    have ec:cs[j] = .nils:=by
     rw [List.getElem?_eq_getElem hk] at hj; exact Option.some.inj hj
    rw [ec] at g5
    refine ⟨?_,g5.2⟩
    rw [g5.1.nils_inv]
    exact .own0 _ (by rw [← hs.mlen]; simp)
   ·exact g5)
 have e3:(m ++ [Blk.row ty sz 0 fun _=>[]]).set b (.box ty' (cs.set j (.own m.length))) = (m.set b (.box ty' (cs.set j (.own m.length)))) ++ [Blk.row ty sz 0 fun _=>[]]:=by
  rw [List.set_append_left _ _ hbm]
 rw [e3] at hs2
 exact h c a w _ hG hs2
end
end Go.Proofs.YtmeohhbdkoeadaaGreat.Am
namespace Go.Proofs.YtmeohhbdkoeadaaGreat.Am
variable [Inhabited DRT]
open Go.RowKit (Below)
section
variable {c:Ctx} {s:List A} {m:List Blk} {a:Act} {w w':World} {ids ids':Ids} {P:Program} {im im':Nat → Prop} {tt:TT} {G:GInv}
theorem posN_at {l:List Nat} {b j:Nat} (h:posN l 0 b = some j):l[j]? = some b:=by
 have:=(posN_some l 0 b j h).2
 simpa using this
theorem ren_ok (π : List Nat) (ids:Ids):RenOk (renAll (posN π 0)) ids (π.map fun b=>ids.getD b .dead):=by
 have key:∀ b b' p,posN π 0 b = some b' → ids[b]? = some p → (π.map fun b=>ids.getD b .dead)[b']? = some p:=by
  intro b b' p h1 h2
  rw [List.getElem?_map,posN_at h1,Option.map_some,List.getD_eq_getElem?_getD,h2]; rfl
 exact ⟨fun b b' p h1 h2=>⟨p,key b b' _ h1 h2,rfl⟩,fun b b' p h1 h2 _=>⟨p,key b b' _ h1 h2,likeE0_rfl p⟩,fun b b' p h1 h2=>⟨p,key b b' _ h1 h2,rfl⟩,fun b b' h1 h2=>key b b' _ h1 h2,fun b b' h1 h2=>key b b' _ h1 h2⟩
theorem mem_ren {π : List Nat} {ids:Ids} {p:IdE} (hp:p ≠ .dead) (h:p ∈ π.map fun b=>ids.getD b .dead):p ∈ ids:=by
 obtain ⟨b,_,e⟩:=List.mem_map.1 h
 rw [List.getD_eq_getElem?_getD] at e
 cases hb:ids[b]? with
 | none=>rw [hb] at e; exact absurd e.symm hp
 | some q=>rw [hb] at e; simp at e; subst e; exact List.mem_of_getElem? hb
theorem Sim.ren (hs:Sim c s m a w ids) (π : List Nat) (hn : π.Nodup) :
  Sim c (s.map (renA (renAll (posN π 0)) 4)) (π.map fun b=>renB (renAll (posN π 0)) 4 (m.getD b .dead)) a w (π.map fun b=>ids.getD b .dead):=by
 have hi:∀ b,imOf c ids w b → imOf c (π.map fun b=>ids.getD b .dead) w b:=by
  intro b h
  rcases h with h | ⟨h1,h2,h3⟩
  ·exact .inl h
  ·exact .inr ⟨h1,h2,fun p hp=>h3 p (mem_ren (by simp) hp)⟩
 have ht:=ren_ok π ids
 have hat:∀ (j:Nat) (p:Id),(π.map fun b=>ids.getD b .dead)[j]? = some (.lv p) → ∃ b,π[j]? = some b ∧ ids[b]? = some (.lv p):=by
  intro j p h
  rw [List.getElem?_map] at h
  cases hj : π[j]? with
  | none=>rw [hj] at h; cases h
  | some b =>
   rw [hj,Option.map_some,List.getD_eq_getElem?_getD] at h
   cases hb:ids[b]? with
   | none=>rw [hb] at h; simp at h
   | some q=>rw [hb] at h; simp at h; subst h; exact ⟨b,rfl,hb⟩
 refine ⟨hs.defers,by simp [hs.len],?_,by simp,?_,?_,?_,hs.frame,hs.im0lt,?_⟩
 ·intro i h h'
  rw [List.getElem_map]
  exact renA_rel hi (fun _ _=>rfl) ht 4 _ _ (hs.slots i (by simpa using h) h')
 ·intro j h h'
  rw [List.getElem_map,List.getElem_map]
  have hj:j < π.length:=by simpa using h
  by_cases hb : π[j] < m.length
  ·have hb' : π[j] < ids.length:=by rw [hs.mlen]; exact hb
   rw [List.getD_eq_getElem?_getD,List.getElem?_eq_getElem hb,List.getD_eq_getElem?_getD,List.getElem?_eq_getElem hb']
   exact renB_rel hi (fun _ _=>rfl) ht 4 (fun _ _ _ _=>rfl) (hs.blks _ hb hb')
  ·rw [List.getD_eq_getElem?_getD,List.getElem?_eq_none (by omega),List.getD_eq_getElem?_getD,List.getElem?_eq_none (by rw [hs.mlen]; omega)]
   exact rfl
 ·intro j j' p q x h1 h2 h3 h4
  obtain ⟨b,k1,k2⟩:=hat j p h1
  obtain ⟨b',k3,k4⟩:=hat j' q h2
  have e:=hs.distinctX b b' p q x k2 k4 h3 h4
  subst e
  have hj:j < π.length:=(List.getElem?_eq_some_iff.1 k1).1
  exact (List.getElem?_inj hj hn).1 (k1.trans k3.symm)
 ·intro p hp x hx
  exact hs.freshX p (mem_ren (by simp) hp) x hx
 ·intro vs hv
  exact hs.gho vs (mem_ren (by simp) hv)
/-- Blocks are named anew: block j is now what was block π[j]; the others are forgotten. -/
theorem WA_ren {Q:Exit → List A → List Blk → Prop} {code:Code} (π : List Nat) (hn:nodupB π = true)
  (h:fd.fdl 4 (s.map (renA (renAll (posN π 0)) 4)) fun s'=>fbs (π.map fun b=>renB (renAll (posN π 0)) 4 (m.getD b .dead)) fun m'=>WA P G code Q s' m'):WA P G code Q s m:=by
 rw [fdl_eq,fbs_eq] at h
 unfold WA at h ⊢
 intro c a w ids hG hs
 exact h c a w _ hG (hs.ren π (nodupB_sound hn))
/-- .. ahead of region id, where k blocks stand. -/
theorem WA_renR {Q:Exit → List A → List Blk → Prop} {id:Nat} {l:Array Oper} {d:Bool} (k:Nat) (π : List Nat) (_hk:Nat.beq m.length k = true) (hn:nodupB π = true)
  (h:fd.fdl 4 (s.map (renA (renAll (posN π 0)) 4)) fun s'=>fbs (π.map fun b=>renB (renAll (posN π 0)) 4 (m.getD b .dead)) fun m'=>WA P G (.region id l d) Q s' m'):WA P G (.region id l d) Q s m:=WA_ren π hn h
end
end Go.Proofs.YtmeohhbdkoeadaaGreat.Am
namespace Go.Proofs.YtmeohhbdkoeadaaGreat.Am
variable [Inhabited DRT]
open Go.RowKit (Below)
section
variable {c:Ctx} {P:Program} {tt:TT} {G:GInv} {ops:List Oper} {Q:Exit → Act → World → Prop}
end
end Go.Proofs.YtmeohhbdkoeadaaGreat.Am
namespace Go.Proofs.YtmeohhbdkoeadaaGreat.Am
variable [Inhabited DRT]
open Go.RowKit (Below)
section
variable {c:Ctx} {s:List A} {m:List Blk} {a:Act} {w w':World} {ids ids':Ids} {P:Program} {G:GInv}
open Classical in
theorem updRow_ne {row:Nat → List A} {i j:Nat} {cs:List A} (h:j ≠ i):updRow row i cs j = row j:=by unfold updRow; rw [if_neg h]
end
end Go.Proofs.YtmeohhbdkoeadaaGreat.Am
namespace Go.Proofs.YtmeohhbdkoeadaaGreat.Am
variable [Inhabited DRT]
open Go.RowKit Go.ChangeShapes

/-- Each value of a type, read by the claim's reader, is one of ours. -/
def Opens (P:Program) (t:TypeId) {α : Type} (f : α → List A) (ok : α → Prop):Prop :=
 ∀ (H:Type) (enc:TypeId × Value → H) (w:World) (im:Nat → Prop) (base:Nat) (sp:Nat → Bool) (held:Bool) (fuel:Nat) (cs:List Value) (d:DataW H) (ps:List MemPlace),
  DataW.trod enc P w base sp held fuel t cs = some (d,ps) → (∀ p ∈ ps,im p.block) →
  ∃ x : α,ok x ∧ cs.length = (f x).length ∧ (∀ v ∈ cs,oneV v) ∧ ∀ j (h:j < (f x).length) (h':j < cs.length),RelI im w (f x)[j] cs[j]

section
variable {P:Program} {t:TypeId}
theorem opens_int {k:IntKind} (ht:P.underlying t = some (.int k)):Opens P t (fun n:Int=>[.int k n]) (fun n=>k.min ≤ n ∧ n ≤ k.max):=by
 intro H enc w im base sp held fuel cs d ps h him
 obtain ⟨n,rfl,_,hw⟩:=DataW.trod_int ht h
 refine ⟨n,by simpa [Lit.wf] using hw,rfl,fun v hv=>?_,fun j h h'=>?_⟩
 ·simp at hv; subst hv; rfl
 ·have:j = 0:=by simp at h; omega
  subst this; exact .int k n
theorem opens_bool (ht:P.underlying t = some .bool):Opens P t (fun b:Bool=>[.sb b]) (fun _=>True):=by
 intro H enc w im base sp held fuel cs d ps h him
 obtain ⟨b,rfl,_⟩:=DataW.trod_bool ht h
 refine ⟨b,trivial,rfl,fun v hv=>?_,fun j h h'=>?_⟩
 ·simp at hv; subst hv; rfl
 ·have:j = 0:=by simp at h; omega
  subst this; exact .sb b
/-- Fields, one behind the other: type, place, size. -/
def OpensF (P:Program) (o:Nat) (L:List (TypeId × Nat × Nat)) {α : Type} (g : α → List A) (ok : α → Prop):Prop :=
 ∀ (H:Type) (enc:TypeId × Value → H) (w:World) (im:Nat → Prop) (base:Nat) (sp:Nat → Bool) (held:Bool) (n:Nat) (cs:List Value) (xs:List (DataW H × List MemPlace)),xs.length = L.length → (∀ x ∈ xs,∀ p ∈ x.2,im p.block) →
   (∀ (i:Nat) q,L[i]? = some q → DataW.trod enc P w base sp held n q.1 ((cs.drop q.2.1).take q.2.2) = xs[i]?) → o + (L.map fun q=>q.2.2).sum = cs.length →
   ∃ x : α,ok x ∧ (g x).length = cs.length - o ∧ (∀ v ∈ cs.drop o,oneV v) ∧ ∀ j (h:j < (g x).length) (h':o + j < cs.length),RelI im w (g x)[j] cs[o + j]
theorem opensF_nil {o:Nat}:OpensF P o [] (fun _:Unit=>[]) (fun _=>True):=by
 intro H enc w im base sp held n cs xs _ _ _ hsum
 simp at hsum
 exact ⟨(),trivial,by simp; omega,by rw [List.drop_of_length_le (by omega)]; simp,fun j h=>absurd h (Nat.not_lt_zero _)⟩
theorem opensF_cons {o k : Nat} {L : List (TypeId × Nat × Nat)} {α β : Type} {g1 : α → List A} {g2 : β → List A} {ok : α → Prop} {ok' : β → Prop} (h : Opens P t g1 ok)
      (hs:OpensF P (o + k) L g2 ok'):OpensF P o ((t,o,k) :: L) (fun x : α × β=>g1 x.1 ++ g2 x.2) (fun x=>ok x.1 ∧ ok' x.2):=by
 intro H enc w im base sp held n cs xs hl him hx hsum
 match xs,hl with
 | x :: xs,hl =>
  have h0:=hx 0 _ rfl
  simp only [List.getElem?_cons_zero] at h0
  simp only [List.map_cons,List.sum_cons] at hsum
  obtain ⟨a,a1,a2,a3,a4⟩:=h H enc w im base sp held n _ x.1 x.2 h0 (him x (by simp))
  obtain ⟨b,b1,b2,b3,b4⟩:=hs H enc w im base sp held n cs xs (by simpa using hl) (fun y hy=>him y (by simp [hy])) (fun i f' hf=>by simpa using hx (i + 1) f' (by simpa using hf)) (by omega)
  rw [List.length_take,List.length_drop] at a2
  have a2':(g1 a).length = k:=by omega
  refine ⟨(a,b),⟨a1,b1⟩,by simp [a2',b2]; omega,?_,?_⟩
  ·intro v hv
   rw [← List.take_append_drop k (cs.drop o)] at hv
   rcases List.mem_append.1 hv with hv | hv
   ·exact a3 v hv
   ·rw [List.drop_drop] at hv; exact b3 v hv
  ·intro j h1 h2
   by_cases hj:j < k
   ·have:=a4 j (by omega) (by rw [List.length_take,List.length_drop]; omega)
    simp only [List.getElem_append_left (show j < (g1 a).length by omega)]
    rw [List.getElem_take,List.getElem_drop] at this
    exact this
   ·have:=b4 (j - k) (by simp [a2'] at h1; omega) (by omega)
    simp only [List.getElem_append_right (show (g1 a).length ≤ j by omega)]
    have e:o + k + (j - k) = o + j:=by omega
    simp only [a2',e] at this ⊢
    exact this
def fieldsOf (P:Program) (t:TypeId):Option (List (TypeId × Nat × Nat)) :=
 match P.underlying t with
 | some (.struct fs)=>some (fs.toList.map fun f=>(f.type,f.offset,P.cellsOf f.type))
 | _=>none
theorem opens_struct {L:List (TypeId × Nat × Nat)} {α : Type} {g : α → List A} {ok : α → Prop} (ht:fieldsOf P t = some L) (hsz:(L.map fun q=>q.2.2).sum = P.cellsOf t) (h:OpensF P 0 L g ok):Opens P t g ok:=by
 intro H enc w im base sp held fuel cs d ps hd him
 unfold fieldsOf at ht
 split at ht
 ·rename_i fs hu
  cases ht
  obtain ⟨xs,n,_,e,hl,hxl,hx⟩:=DataW.trod_struct hu hd
  cases e
  obtain ⟨x,h1,h2,h3,h4⟩:=h H enc w im base sp held n cs xs (by simpa using hxl) (fun x hx p hp=>him p (List.mem_flatMap.2 ⟨x,hx,hp⟩)) (fun i q hf=>by
   rw [List.getElem?_map] at hf
   rcases hf':fs.toList[i]? with _ | f
   ·rw [hf'] at hf; cases hf
   ·rw [hf'] at hf; cases hf
    exact hx i f (by simpa using hf')) (by omega)
  exact ⟨x,h1,by omega,by simpa using h3,fun j a b=>by simpa using h4 j a (by omega)⟩
 ·cases ht
theorem opens_array {n:Nat} {e:TypeId} {L:List (TypeId × Nat × Nat)} {α : Type} {g : α → List A} {ok : α → Prop} (ht:P.underlying t = some (.array n e)) (hL:(List.range n).map (fun i=>(e,i * P.cellsOf e,P.cellsOf e)) = L)
  (hsz:(L.map fun q=>q.2.2).sum = P.cellsOf t) (h:OpensF P 0 L g ok):Opens P t g ok:=by
 intro H enc w im base sp held fuel cs d ps hd him
 obtain ⟨xs,m,_,e1,hl,hxl,hx⟩:=DataW.trod_array ht hd
 cases e1
 subst hL
 obtain ⟨x,h1,h2,h3,h4⟩:=h H enc w im base sp held m cs xs (by simpa using hxl) (fun x hx p hp=>him p (List.mem_flatMap.2 ⟨x,hx,hp⟩)) (fun i q hf=>by
  rw [List.getElem?_map] at hf
  rcases hf':(List.range n)[i]? with _ | f
  ·rw [hf'] at hf; cases hf
  ·rw [hf'] at hf; cases hf
   have hi:i < n:=by
    have:=(List.getElem?_eq_some_iff.1 hf').1
    simpa using this
   have:f = i:=by simpa [hi] using hf'.symm
   subst this
   exact hx f hi) (by omega)
 exact ⟨x,h1,by omega,by simpa using h3,fun j a b=>by simpa using h4 j a (by omega)⟩
/-- The same, in other words. -/
theorem Opens.to {α β : Type} {g : α → List A} {ok : α → Prop} {g' : β → List A} {ok' : β → Prop} (h:Opens P t g ok) (f : α → β) (hg:∀ x,g x = g' (f x)) (hok:∀ x,ok x → ok' (f x)):Opens P t g' ok':=by
 intro H enc w im base sp held fuel cs d ps hd him
 obtain ⟨x,h1,h2⟩:=h H enc w im base sp held fuel cs d ps hd him
 rw [hg] at h2
 exact ⟨f x,hok x h1,h2⟩
theorem opens_slice {e:TypeId} {α : Type} [Inhabited α] {g : α → List A} {ok : α → Prop} {sz:Nat} (ht:P.underlying t = some (.slice e)) (h:Opens P e g ok) (hsz:P.cellsOf e = sz) (hpos:0 < sz) :
  Opens P t (fun l:List α=>[.sl l.length sz fun i=>g (l.getD i default)]) (fun l=>l.length ≤ maxLen ∧ ∀ x ∈ l,ok x):=by
 intro H enc w im base sp held fuel cs d ps hd him
 rcases Deep.open_slice ht hd with ⟨rfl,_⟩ | ⟨a,len,cap,m,n,D,Pl,rfl,hb,hl,hcm,hm,he,hx⟩
 ·refine ⟨[],⟨Nat.zero_le _,fun _ h=>by cases h⟩,rfl,fun v hv=>?_,fun j h h'=>?_⟩
  ·simp at hv; subst hv; rfl
  ·have:j = 0:=by simp at h; omega
   subst this; exact .sl0 _ _
 ·cases he
  have hlm:len ≤ m:=by rw [hm]; split <;> omega
  have key:∀ i,i < len → ∃ x : α,ok x ∧ (g x).length = sz ∧ (∀ j,j < sz → ∃ v,w.cell? (a.add (i * sz + j)) = some v ∧ oneV v ∧ ∀ (h:j < (g x).length),RelI im w (g x)[j] v):=by
   intro i hi
   obtain ⟨cs',h1,h2⟩:=hx i (by omega)
   obtain ⟨x,x1,x2,x3,x4⟩:=h H enc w im base sp held n cs' _ _ h2 (fun p hp=>him p (List.mem_append_right _ (List.mem_flatMap.2 ⟨i,by simp; omega,hp⟩)))
   obtain ⟨_,c1,c2⟩:=World.cells?_some h1
   rw [hsz] at c1 c2
   refine ⟨x,x1,by omega,fun j hj=>⟨cs'[j]'(by omega),?_,x3 _ (List.getElem_mem _),fun h=>x4 j h (by omega)⟩⟩
   have:=c2 j hj
   rw [Deep.add_add] at this
   rw [this,List.getElem?_eq_getElem]
  obtain ⟨X,hX⟩:=Deep.choose_lt key
  refine ⟨(List.range len).map X,⟨by simp; omega,?_⟩,rfl,fun v hv=>by simp at hv; subst hv; rfl,?_⟩
  ·intro x hx
   simp only [List.mem_map,List.mem_range] at hx
   obtain ⟨i,hi,rfl⟩:=hx
   exact (hX i hi).1
  ·intro j h h'
   have:j = 0:=by simp at h; omega
   subst this
   show RelI im w (.sl ((List.range len).map X).length sz fun i=>g (((List.range len).map X).getD i default)) (.slice (some a) len cap)
   have e1:((List.range len).map X).length = len:=by simp
   rw [e1]
   have e2:∀ i,i < len → ((List.range len).map X).getD i default = X i:=by
    intro i hi; simp [List.getD_eq_getElem?_getD,hi]
   rcases Nat.eq_zero_or_pos len with h0 | h0
   ·subst h0; exact .sle _ _ _ _
   ·have hsp:a.spot = none:=by
     obtain ⟨v,hv,_⟩:=(hX 0 h0).2.2 0 hpos
     rw [Nat.zero_mul,Nat.add_zero] at hv
     unfold Addr.add at hv
     rw [if_pos rfl] at hv
     unfold World.cell? at hv
     split at hv
     ·split at hv
      ·cases hv
      ·rename_i h; simpa using h
     ·cases hv
    obtain ⟨blk,off,spot⟩:=a
    simp only at hsp
    subst hsp
    have hV:∀ i,i < len → ∃ f:Nat → Value,∀ j,j < sz → w.cell? ⟨blk,off + i * sz + j,none⟩ = some (f j) ∧ oneV (f j) ∧ ∀ (h:j < (g (X i)).length),RelI im w (g (X i))[j] (f j):=by
     intro i hi
     obtain ⟨f,hf⟩:=Deep.choose_lt (hX i hi).2.2
     refine ⟨f,fun j hj=>?_⟩
     have:=hf j hj
     rw [show Addr.add ⟨blk,off,none⟩ (i * sz + j) = ⟨blk,off + i * sz + j,none⟩ from by unfold Addr.add; split <;> simp_all <;> omega] at this
     exact this
    obtain ⟨V,hV⟩:=Deep.choose_lt hV
    refine .sl len sz _ blk off cap V (him _ (List.mem_append_left _ (List.mem_map.2 ⟨0,?_,rfl⟩))) hl ?_ ?_ ?_ ?_
    ·rw [List.mem_range,hsz]; exact Nat.mul_pos (by omega) hpos
    ·intro i hi; rw [e2 i hi]; exact (hX i hi).2.1
    ·intro i j hi hj; exact (hV i hi j hj).1
    ·intro i j hi hj; exact (hV i hi j hj).2.1
    ·intro i j hi hj
     simp only [e2 i hi] at hj ⊢
     exact (hV i hi j (by rw [← (hX i hi).2.1]; exact hj)).2.2 hj
/-- An argument that is cells. -/
theorem Opens.cell {α : Type} {g : α → A} {ok : α → Prop} (h:Opens P t (fun x=>[g x]) ok) {H:Type} {enc:TypeId × Value → H} {w:World} {im:Nat → Prop} {base:Nat} {sp:Nat → Bool} {held:Bool} {v:Value} {d:DataW H} {ps:List MemPlace}
  (hd:DataW.Trod enc P w base sp held t v d ps) (hv:∀ cs,v ≠ .agg cs) (him:∀ p ∈ ps,im p.block):∃ x,ok x ∧ RelI im w (g x) v:=by
 obtain ⟨fuel,hd⟩:=hd
 obtain ⟨x,h1,h2,h3,h4⟩:=h H enc w im base sp held fuel _ d ps hd him
 have hc:v.cells = #[v]:=by
  cases v <;> first|rfl|exact absurd rfl (hv _)|skip
 refine ⟨x,h1,?_⟩
 have:=h4 0 (by simp) (by rw [hc]; simp)
 simpa [hc] using this
theorem okWide_cell {r:Reach} {w:World} {base:Nat} {v:Value} (hval:Value.okWide P w r base t v) (ha:(match P.underlying t with | some (.int _)=>true | some .bool=>true | some .string=>true | some (.slice _)=>true | _=>false) = true):∀ cs,v ≠ .agg cs:=by
 rintro cs rfl
 unfold Value.okWide at hval
 split at hval
 ·rename_i fs h; rw [h] at ha; cases ha
 ·rename_i n e h; rw [h] at ha; cases ha
 ·unfold Cell.okWide at hval
  split at hval <;> first|(rename_i h1 h2;cases h2;done)|skip
  unfold Cell.ok at hval
  split at hval <;> first|(rename_i h1 h2;cases h2;done)|exact hval.elim
end
end Go.Proofs.YtmeohhbdkoeadaaGreat.Am

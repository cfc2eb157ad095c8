/-
  THE ENGINE, part 2: an abstract machine of symbolic values, each step proved sound.
-/
import Derived.Test.YtmeohhbdkoeadaaGreatAm1
import Derived.MapKept
import Derived.WideKeyRuns
import Derived.Carry
set_option linter.unusedSimpArgs false
set_option linter.unusedSectionVars false
set_option linter.unusedVariables false
namespace Go.Proofs.YtmeohhbdkoeadaaGreat.Am
variable [Inhabited DRT]
open Go.RowKit (Below)

/-- The rows of what is appended. -/
def vrow (m:List Blk) (esz:Nat) (y:A):Option (Nat × (Nat → List A)) :=
 match y with
 | .own b=>match m.getD b .dead with
  | .row _ sz n row=>match Nat.beq sz esz with
   | true=>some (n,row)
   | false=>none
  | _=>none
 | .sl n sz row=>match Nat.beq sz esz with
  | true=>some (n,row)
  | false=>none
 | .nils=>some (0,fun _=>[])
 | .osl b k=>match m.getD b .dead with
  | .row _ sz n row=>match Nat.beq sz esz with
   | true=>some (n - k,fun i=>row (k + i))
   | false=>none
  | _=>none
 | _=>none
def rowCat (n:Nat) (r1 r2:Nat → List A):Nat → List A:=fun i=>match Nat.blt i n with
 | true=>r1 i
 | false=>r2 (i - n)
def fbs:List Blk → (List Blk → Prop) → Prop
 | [],K=>K []
 | x :: xs,K=>match x with
  | .box ty cs=>fd.fdl 3 cs fun cs'=>fbs xs fun ys=>K (.box ty cs' :: ys)
  | .row ty sz n r=>fbs xs fun ys=>K (.row ty sz n r :: ys)
  | .nest ty ety sz n ho le r=>fbs xs fun ys=>K (.nest ty ety sz n ho le r :: ys)
  | .mapb g n k v=>fbs xs fun ys=>K (.mapb g n k v :: ys)
  | .mapx g n k v=>fbs xs fun ys=>K (.mapx g n k v :: ys)
  | .ghost cs=>fd.fdl 3 cs fun cs'=>fbs xs fun ys=>K (.ghost cs' :: ys)
  | .gone=>fbs xs fun ys=>K (.gone :: ys)
  | .dead=>fbs xs fun ys=>K (.dead :: ys)
theorem fbs_eq:∀ (l:List Blk) (K:List Blk → Prop),fbs l K = K l
 | [],K=>rfl
 | x :: xs,K=>by cases x <;> simp only [fbs,fdl_eq,fbs_eq xs]
def sApp (tt:TT) (t:TypeId) (x y:A) (s:List A) (m:List Blk) (K:List A → A → List Blk → Prop):Prop :=
 match tt.lookup t with
 | none=>False
 | some ti=>match ti.kind,vrow m ti.esz y with
  | 3,some (n2,row2)=>match x with
   | .own b=>match m.getD b .dead with
    | .row ty sz n row=>match Nat.beq sz ti.esz,Nat.beq ty ti.ety with
     | true,true=>fnat ti.ebytes fun eb=>(n + n2 ≤ 140737488355328 ∧ (n + n2) * eb ≤ 140737488355328) ∧
      fd.fdl 4 (s.map (scr b 4)) fun s'=>fbs ((m.map (scrB b 4)).set b (.row ty sz (n + n2) (rowCat n row row2))) fun m'=>K s' (.own b) m'
     | _,_=>False
    | _=>False
   | .nils=>fnat ti.ebytes fun eb=>fnat ti.ety fun ety=>fnat ti.esz fun esz=>(n2 ≤ 140737488355328 ∧ n2 * eb ≤ 140737488355328) ∧ pushB m (.row ety esz n2 row2) fun b m'=>K s (.own b) m'
   | _=>False
  | _,_=>False

section
variable {c:Ctx} {s:List A} {m:List Blk} {a:Act} {w w':World} {ids ids':Ids} {P:Program} {im im':Nat → Prop} {tt:TT} {G:GInv}
variable {next:Act → World → Prop} {Q:Exit → Act → World → Prop} {o:Oper}

theorem getD_row {b:Nat} {ty:TypeId} {sz n:Nat} {row:Nat → List A} (h:m.getD b .dead = .row ty sz n row):∃ hb:b < m.length,m[b] = .row ty sz n row:=by
 rcases Nat.lt_or_ge b m.length with hb | hb
 ·exact ⟨hb,by rw [List.getD_eq_getElem?_getD,List.getElem?_eq_getElem hb] at h; simpa using h⟩
 ·rw [List.getD_eq_getElem?_getD,List.getElem?_eq_none hb] at h; cases h

/-- Values that stand for rows. -/
def RowsV (im:Nat → Prop) (w:World) (n sz:Nat) (row:Nat → List A) (vs:List Value):Prop :=
 vs.length = n * sz ∧ (∀ u ∈ vs,oneV u) ∧ (∀ i,i < n → (row i).length = sz) ∧ ∀ i j,i < n → ∀ (h:j < (row i).length) (h':i * sz + j < vs.length),RelI im w (row i)[j] vs[i * sz + j]

theorem RowsV.nil (im:Nat → Prop) (w:World) (sz:Nat) (row:Nat → List A):RowsV im w 0 sz row [] :=
 ⟨by simp,by simp,fun i h=>by omega,fun i j h=>by omega⟩

theorem RowsV.cat {n n2 sz:Nat} {r1 r2:Nat → List A} {xs ys:List Value} (h1:RowsV im w n sz r1 xs) (h2:RowsV im w n2 sz r2 ys):RowsV im w (n + n2) sz (rowCat n r1 r2) (xs ++ ys):=by
 obtain ⟨a1,a2,a3,a4⟩:=h1
 obtain ⟨b1,b2,b3,b4⟩:=h2
 have rc:∀ i,i < n → rowCat n r1 r2 i = r1 i:=fun i hi=>by simp only [rowCat]; rw [show Nat.blt i n = true from Nat.ble_eq_true_of_le hi]
 have rc2:∀ i,¬ i < n → rowCat n r1 r2 i = r2 (i - n):=fun i hi=>by
  simp only [rowCat]
  have:Nat.blt i n = false:=by
   cases h:Nat.blt i n with
   | false=>rfl
   | true=>exact absurd (Nat.le_of_ble_eq_true h) hi
  rw [this]
 refine ⟨by rw [List.length_append,a1,b1,Nat.add_mul],?_,?_,?_⟩
 ·intro u hu
  rcases List.mem_append.1 hu with h | h
  ·exact a2 u h
  ·exact b2 u h
 ·intro i hi
  by_cases h:i < n
  ·rw [rc i h]; exact a3 i h
  ·rw [rc2 i h]; exact b3 _ (by omega)
 ·intro i j hi h h'
  by_cases hin:i < n
  ·have e:=rc i hin
   have hl:=a3 i hin
   have hj:j < (r1 i).length:=by rw [e] at h; exact h
   have hlt:i * sz + j < n * sz:=by
    have:=Nat.mul_le_mul_right sz (show i + 1 ≤ n from hin)
    rw [Nat.add_mul] at this; omega
   rw [List.getElem_append_left (by omega)]
   have:=a4 i j hin hj (by omega)
   simpa only [e] using this
  ·have e:=rc2 i hin
   have hl:=b3 (i - n) (by omega)
   have hj:j < (r2 (i - n)).length:=by rw [e] at h; exact h
   have hge:n * sz ≤ i * sz + j:=Nat.le_trans (Nat.mul_le_mul_right sz (by omega)) (Nat.le_add_right _ _)
   rw [List.getElem_append_right (by omega)]
   have e2:i * sz + j - xs.length = (i - n) * sz + j:=by
    rw [a1,Nat.sub_mul]
    have:=Nat.mul_le_mul_right sz (show n ≤ i by omega)
    omega
   have:=b4 (i - n) j (by omega) hj (by rw [← e2]; rw [List.length_append] at h'; omega)
   simpa only [e,e2] using this

theorem add_at (g o j:Nat):(⟨g,o,none⟩ : Addr).add j = ⟨g,o + j,none⟩:=by unfold Addr.add; split <;> simp_all

theorem divmod {i j sz n k:Nat} (hk:k < n * sz) (hi:i = k / sz) (hj:j = k % sz):i < n ∧ j < sz ∧ i * sz + j = k:=by
 have hs:0 < sz:=by
  rcases Nat.eq_zero_or_pos sz with h | h
  ·subst h; omega
  ·exact h
 subst hi; subst hj
 refine ⟨(Nat.div_lt_iff_lt_mul hs).2 hk,Nat.mod_lt _ hs,?_⟩
 have:=Nat.div_add_mod k sz
 rw [Nat.mul_comm] at this; exact this

theorem BRel.rowsV {ty:TypeId} {sz n:Nat} {row:Nat → List A} {p:Id} (h:BRel ids im w (.row ty sz n row) (.lv p)) :
  ∃ cur:Array Value,p.sz = sz ∧ p.n = n ∧ w.heap[p.blk]? = some (.cells cur ty (0,0)) ∧ cur.size = p.k ∧ n * sz ≤ p.k ∧ RowsV im w n sz row (cur.toList.take (n * sz)):=by
 obtain ⟨e1,e2,vs,g1,g2,g3,g4,g5⟩:=h
 have hl:(vs.toList.take (n * sz)).length = n * sz:=by simp; omega
 refine ⟨vs,e1,e2,g1,g2,g3,hl,?_,g4,?_⟩
 ·intro u hu
  obtain ⟨k,hk,rfl⟩:=List.getElem_of_mem hu
  rw [hl] at hk
  obtain ⟨q1,q2,q3⟩:=divmod hk rfl rfl
  have hlt:k < vs.size:=by omega
  have:=(g5 (k / sz) (k % sz) q1 (by rw [g4 _ q1]; exact q2) (by rw [q3]; exact hlt)).2
  simp only [List.getElem_take,Array.getElem_toList]
  simpa only [q3] using this
 ·intro i j hi h h'
  rw [hl] at h'
  have:=(g5 i j hi h (by omega)).1
  simpa using this

theorem RowsV.tail {im:Nat → Prop} {w:World} {n sz:Nat} {row:Nat → List A} {vs:List Value} (h:RowsV im w n sz row vs) (k:Nat):RowsV im w (n - k) sz (fun i=>row (k + i)) (vs.drop (k * sz)):=by
 obtain ⟨h1,h2,h3,h4⟩:=h
 refine ⟨by rw [List.length_drop,h1,Nat.sub_mul],fun u hu=>h2 u (List.mem_of_mem_drop hu),fun i hi=>h3 _ (by omega),fun i j hi hj h'=>?_⟩
 have:=h4 (k + i) j (by omega) hj (by rw [List.length_drop] at h'; rw [Nat.add_mul]; omega)
 rw [List.getElem_drop]
 have e:(k + i) * sz + j = k * sz + (i * sz + j):=by rw [Nat.add_mul]; omega
 simpa only [e] using this
theorem vrow_sound (hs:Sim c s m a w ids) {esz n:Nat} {row:Nat → List A} {y:A} {v:Value} (h:vrow m esz y = some (n,row)) (hy:Rel ids (imOf c ids w) w y v) :
  ∃ news,RowsV (imOf c ids w) w n esz row news ∧ ((v = .slice none 0 0 ∧ n = 0 ∧ news = []) ∨ ∃ ad cp,v = .slice (some ad) n cp ∧ (∀ j u,news[j]? = some u → w.cell? (ad.add j) = some u)):=by
 unfold vrow at h
 split at h
 ·rename_i b
  split at h
  ·rename_i ty sz n' row' hb
   split at h
   ·rename_i he
    have he:=Nat.eq_of_beq_eq_true he
    cases h
    subst he
    obtain ⟨hlt,hm⟩:=getD_row hb
    have hbi:b < ids.length:=by rw [hs.mlen]; exact hlt
    have hB:=hs.blks b hlt hbi
    rw [hm] at hB
    rcases hs.own_at hy (by rw [hb]; simp) with ⟨h1,rfl⟩ | ⟨p,cap,h1,h2,h3,rfl⟩
    ·have:ids[b] = .virt:=by rw [List.getElem?_eq_getElem hbi] at h1; exact Option.some.inj h1
     rw [this] at hB
     have hB:n = 0:=hB
     subst hB
     exact ⟨[],RowsV.nil _ _ _ _,.inl ⟨rfl,rfl,rfl⟩⟩
    ·have:ids[b] = .lv p:=by rw [List.getElem?_eq_getElem hbi] at h1; exact Option.some.inj h1
     rw [this] at hB
     obtain ⟨cur,e1,e2,g1,g2,g3,hR⟩:=hB.rowsV
     refine ⟨_,hR,.inr ⟨_,cap,by rw [e2],fun j u hu=>?_⟩⟩
     rw [add_at,Nat.zero_add,cell_of_row w p.blk j cur ty (0,0) g1]
     rw [List.getElem?_take] at hu
     split at hu
     ·simpa using hu
     ·cases hu
   ·cases h
  ·cases h
 ·rename_i n' sz row'
  split at h
  ·rename_i he
   have he:=Nat.eq_of_beq_eq_true he
   cases h
   subst he
   cases hy with
   | imm hy =>
    cases hy with
    | sl0=>exact ⟨[],RowsV.nil _ _ _ _,.inl ⟨rfl,rfl,rfl⟩⟩
    | sle _ _ ad cap=>exact ⟨[],RowsV.nil _ _ _ _,.inr ⟨ad,cap,rfl,fun j u hu=>by simp at hu⟩⟩
    | sl _ _ _ blk base cap vs hb hcap hl hc ho hr =>
     refine ⟨(List.range (n * sz)).map fun k=>vs (k / sz) (k % sz),⟨by simp,?_,hl,?_⟩,.inr ⟨_,cap,rfl,?_⟩⟩
     ·intro u hu
      simp only [List.mem_map,List.mem_range] at hu
      obtain ⟨k,hk,rfl⟩:=hu
      obtain ⟨q1,q2,q3⟩:=divmod hk rfl rfl
      exact ho _ _ q1 q2
     ·intro i j hi hj h'
      have hjs:j < sz:=by rw [← hl i hi]; exact hj
      have hs0:0 < sz:=by omega
      have e1:(i * sz + j) / sz = i:=by rw [Nat.mul_comm,Nat.mul_add_div hs0,Nat.div_eq_of_lt hjs]; simp
      have e2:(i * sz + j) % sz = j:=by rw [Nat.mul_comm,Nat.mul_add_mod,Nat.mod_eq_of_lt hjs]
      simp only [List.getElem_map,List.getElem_range,e1,e2]
      exact hr i j hi hj
     ·intro k u hu
      rw [List.getElem?_map] at hu
      rcases Nat.lt_or_ge k (n * sz) with hk | hk
      ·rw [List.getElem?_eq_getElem (by simpa using hk)] at hu
       simp at hu
       obtain ⟨q1,q2,q3⟩:=divmod hk rfl rfl
       rw [add_at,← hu,← hc _ _ q1 q2,Nat.add_assoc,q3]
      ·rw [List.getElem?_eq_none (by simpa using hk)] at hu; cases hu
  ·cases h
 ·cases h
  exact ⟨[],RowsV.nil _ _ _ _,.inl ⟨hy.nils_inv,rfl,rfl⟩⟩
 ·rename_i b k
  split at h
  ·rename_i ty sz n' row' hb
   split at h
   ·rename_i he
    have he:=Nat.eq_of_beq_eq_true he
    cases h
    subst he
    obtain ⟨hlt,hm⟩:=getD_row hb
    have hbi:b < ids.length:=by rw [hs.mlen]; exact hlt
    have hB:=hs.blks b hlt hbi
    rw [hm] at hB
    rcases hs.osl_at hy (by rw [hb]; simp) with ⟨h1,rfl⟩ | ⟨p,cap,x,h1,hx,rfl⟩
    ·have:ids[b] = .virt:=by rw [List.getElem?_eq_getElem hbi] at h1; exact Option.some.inj h1
     rw [this] at hB
     have hB:n' = 0:=hB
     subst hB
     rw [Nat.zero_sub]
     exact ⟨[],RowsV.nil _ _ _ _,.inl ⟨rfl,rfl,rfl⟩⟩
    ·have:ids[b] = .lv p:=by rw [List.getElem?_eq_getElem hbi] at h1; exact Option.some.inj h1
     rw [this] at hB
     obtain ⟨cur,e1,e2,g1,g2,g3,hR⟩:=hB.rowsV
     refine ⟨_,hR.tail k,.inr ⟨_,cap,by rw [e2],fun j u hu=>?_⟩⟩
     rw [List.getElem?_drop,List.getElem?_take] at hu
     split at hu
     ·rename_i hj
      have hkn:k < p.n:=by
       rw [e2]
       rcases Nat.lt_or_ge k n' with hk | hk
       ·exact hk
       ·have:=Nat.mul_le_mul_right sz hk
        omega
      rw [hx hkn,e1,add_at,cell_of_row w p.blk _ cur ty (0,0) g1]
      simpa using hu
     ·cases hu
   ·cases h
  ·cases h
 ·cases h

theorem RowsV.mono {n sz:Nat} {row:Nat → List A} {vs:List Value} (h:RowsV im w n sz row vs) (hm:∀ u v,RelI im w u v → RelI im' w' u v):RowsV im' w' n sz row vs :=
 ⟨h.1,h.2.1,h.2.2.1,fun i j hi hj hj'=>hm _ _ (h.2.2.2 i j hi hj hj')⟩

/-- A block whose first cells stand for rows. -/
theorem BRel.ofRowsV {ty:TypeId} {sz n cap:Nat} {row:Nat → List A} {g:Nat} {cur:Array Value} {vs:List Value} (hg:w.heap[g]? = some (.cells cur ty (0,0))) (hcs:cur.size = cap * sz) (hn:n ≤ cap)
  (ht:cur.toList.take (n * sz) = vs) (hR:RowsV im w n sz row vs):BRel ids im w (.row ty sz n row) (.lv (mkId g cur.size n sz)):=by
 have hle:n * sz ≤ cur.size:=by rw [hcs]; exact Nat.mul_le_mul_right _ hn
 refine ⟨rfl,rfl,cur,hg,rfl,hle,hR.2.2.1,?_⟩
 intro i j hi hj hj'
 have hlt:i * sz + j < n * sz:=by
  have:=Nat.mul_le_mul_right sz (show i + 1 ≤ n from hi)
  have:=hR.2.2.1 i hi
  rw [Nat.add_mul] at *; omega
 have hvl:=hR.1
 have e:vs[i * sz + j]'(by omega) = cur[i * sz + j]:=by subst ht; simp
 refine ⟨by rw [← e]; exact hR.2.2.2 i j hi hj (by omega),?_⟩
 rw [← e]; exact hR.2.1 _ (List.getElem_mem _)

theorem sApp_sound (htt:TTok P tt) (hs:Sim c s m a w ids) {t:TypeId} {X Y:Operand} (ho:o.op = .call { callee:=.builtin .append,args:=#[X,Y],argTypes:=#[t,t] })
  {K:List A → A → List Blk → Prop} (h:sApp tt t (ev s X) (ev s Y) s m K)
  (hn:∀ s1 v m' a' w' ids',K s1 v m' → Sim c (putD s1 o.dst v) m' a' w' ids' → next a' w'):o.wp P a w next Q:=by
 have hx:=hs.ev X
 have hy:=hs.ev Y
 have e:(execOp a.eval o) = (do pure (.value (← Builtin.append_ #[t,t] o.type #[a.eval X,a.eval Y]))):=by
  obtain ⟨dst,op,ty,pos,after,guard⟩:=o
  simp only at ho; subst ho
  simp [execOp,resolve,invoke,builtin]
 unfold sApp at h
 split at h
 ·exact h.elim
 ·rename_i ti hti
  obtain ⟨i0,d,z0,_,hd,_,_,_,_,_,_,_,_,_,hk3,_⟩:=htt.facts hti
  split at h
  ·rename_i n2 row2 hk hv
   obtain ⟨ie,ze,hd',hie,hsz,hby,hz,hzs,hne⟩:=hk3 hk
   subst hd'
   obtain ⟨news,hR2,hyv⟩:=vrow_sound hs hv hy
   have hyv':(a.eval Y = .slice none 0 0 ∧ n2 = 0 ∧ news = []) ∨ ∃ ad cp,a.eval Y = .slice (some ad) n2 cp ∧ news.length = n2 * ie.size ∧ (∀ j u,news[j]? = some u → w.cell? (ad.add j) = some u):=by
    rcases hyv with h | ⟨ad,cp,h1,h2⟩
    ·exact .inl h
    ·exact .inr ⟨ad,cp,h1,by rw [hsz]; exact hR2.1,h2⟩
   have hzs':ze.cells.size = ie.size:=by rw [hzs,hsz]
   split at h
   ·rename_i b hxv
    rw [hxv] at hx
    split at h
    ·rename_i ty sz n row hb
     split at h
     ·rename_i hb1 hb2
      have hb1:=Nat.eq_of_beq_eq_true hb1
      have hb2:=Nat.eq_of_beq_eq_true hb2
      subst hb1; subst hb2
      rw [fnat_eq] at h
      obtain ⟨⟨hc1,hc2⟩,h⟩:=h
      rw [fdl_eq,fbs_eq] at h
      obtain ⟨hlt,hm⟩:=getD_row hb
      have hbi:b < ids.length:=by rw [hs.mlen]; exact hlt
      have hB:=hs.blks b hlt hbi
      rw [hm] at hB
      have hxs:∃ xs,RowsV (imOf c ids w) w n ti.esz row xs ∧ ((a.eval X = .slice none 0 0 ∧ n = 0 ∧ xs = []) ∨ ∃ g cap cur,a.eval X = .slice (some ⟨g,0,none⟩) n cap ∧ w.heap[g]? = some (.cells cur ti.ety (0,0)) ∧ n ≤ cap ∧ cap ≤ maxLen ∧ cur.size = cap * ie.size ∧ cur.toList.take (n * ie.size) = xs) ∧
        ((a.eval X).ownBlock = none ∨ ∃ p,ids[b]? = some (.lv p) ∧ (a.eval X).ownBlock = some p.blk):=by
       rcases hs.own_at hx (by rw [hb]; simp) with ⟨h1,h2⟩ | ⟨p,cap,h1,h2,h3,h4⟩
       ·have:ids[b] = .virt:=by rw [List.getElem?_eq_getElem hbi] at h1; exact Option.some.inj h1
        rw [this] at hB
        have hB:n = 0:=hB
        subst hB
        exact ⟨[],RowsV.nil _ _ _ _,.inl ⟨h2,rfl,rfl⟩,.inl (by rw [h2]; rfl)⟩
       ·have:ids[b] = .lv p:=by rw [List.getElem?_eq_getElem hbi] at h1; exact Option.some.inj h1
        rw [this] at hB
        obtain ⟨cur,e1,e2,g1,g2,g3,hR⟩:=hB.rowsV
        subst e2
        exact ⟨_,hR,.inr ⟨p.blk,cap,cur,h4,g1,h2.1,h2.2,by rw [g2,← h3,e1,hsz],by rw [hsz]⟩,.inr ⟨p,h1,by rw [h4]; rfl⟩⟩
      obtain ⟨xs,hR1,hxv',hown⟩:=hxs
      obtain ⟨v',w',hrun,o1,o2,o3,o4,o5,odr,o6⟩:=append_out (P:=P) (w:=w) t o.type ti.ety ie ze hd hie hz hzs' (a.eval X) n xs hxv' (a.eval Y) n2 news hyv' hR2.2.1 hc1 (by rw [hby]; exact hc2)
      have hRR:=hR1.cat hR2
      have hblk:∀ k,k < w.heap.size → (∀ p,ids[b]? = some (.lv p) → ¬ p.has k) → w'.heap[k]? = w.heap[k]?:=by
       intro k hk hp
       refine o5 k hk (fun e=>?_)
       rcases hown with h | ⟨p,h1,h2⟩
       ·rw [h] at e; cases e
       ·rw [h2] at e; exact hp p h1 (.inl (Option.some.inj e).symm)
      rcases o6 with ⟨rfl,hnil⟩ | ⟨g,cap,cur,rfl,q1,q2,q3,q4,q5,q6,q7⟩
      ·have hs':=hs.rebind (w':=w') b .virt (.row ti.ety ti.esz (n + n2) (rowCat n row row2)) 4 hlt o1 o2 o3 o4 hblk (fun _ h=>by cases h) (fun p' h=>by cases h) (fun _=>hnil) odr
       refine wp_of_run (by rw [e]; simp [hrun]) (hn _ _ _ _ _ _ h (hs'.putD o.dst (.own0 b ?_)))
       rw [List.getElem?_set_self hbi]
      ·rw [hsz] at q4 q5
       have hs':=hs.rebind (w':=w') b (.lv (mkId g cur.size (n + n2) ti.esz)) (.row ti.ety ti.esz (n + n2) (rowCat n row row2)) 4 hlt o1 o2 o3 o4 hblk (fun _ h=>by cases h)
        (fun p' h x hx=>by
         cases h
         have:=mkId_has hx
         subst this
         refine ⟨q6,?_⟩
         rcases q7 with h | h
         ·exact .inl h
         ·rcases hown with h' | ⟨p,h1,h2⟩
          ·rw [h'] at h; cases h
          ·rw [h2] at h; exact .inr ⟨p,h1,.inl (Option.some.inj h).symm⟩)
        (fun hm=>BRel.ofRowsV q1 q4 q2 q5 (hRR.mono hm)) odr
       refine wp_of_run (by rw [e]; simp [hrun]) (hn _ _ _ _ _ _ h (hs'.putD o.dst (.own b cap (mkId g cur.size (n + n2) ti.esz) ?_ ⟨q2,q3⟩ q4.symm)))
       rw [List.getElem?_set_self hbi]
     ·exact h.elim
    ·exact h.elim
   ·rename_i hxv
    rw [hxv] at hx
    simp only [fnat_eq] at h
    obtain ⟨⟨hc1,hc2⟩,h⟩:=h
    rw [pushB_eq] at h
    obtain ⟨v',w',hrun,o1,o2,o3,o4,o5,odr,o6⟩:=append_out (P:=P) (w:=w) t o.type ti.ety ie ze hd hie hz hzs' (a.eval X) 0 [] (.inl ⟨hx.nils_inv,rfl,rfl⟩) (a.eval Y) n2 news hyv' hR2.2.1 (by omega) (by rw [hby]; simpa using hc2)
    have hbel:Bw w.heap.size w w':=⟨o1,o2,o3,o4,fun k hk=>o5 k hk (by rw [hx.nils_inv]; simp [Value.ownBlock]),odr⟩
    simp only [Nat.zero_add,List.nil_append] at o6
    have hmono:∀ js:Ids,(∀ p,IdE.lv p ∈ js → ∀ x,p.has x → w.heap.size ≤ x) → ∀ u v,RelI (imOf c ids w) w u v → RelI (imOf c (ids ++ js) w') w' u v:=by
     intro js hjs u v hu
     refine hu.mono ?_ (fun k hk=>hbel.block k (imOf_lt hs hk))
     intro k hk
     rcases hk with hk | ⟨h1,h2,h3⟩
     ·exact .inl hk
     ·refine .inr ⟨h1,Nat.lt_of_lt_of_le h2 o4,fun p hp=>?_⟩
      rcases List.mem_append.1 hp with hp | hp
      ·exact h3 p hp
      ·intro hx; have:=hjs p hp k hx; omega
    rcases o6 with ⟨rfl,hnil⟩ | ⟨g,cap,cur,rfl,q1,q2,q3,q4,q5,q6,q7⟩
    ·have hs' := hs.grow hbel [.row ti.ety ti.esz n2 row2] [.virt] rfl (fun i h1 h2 => by
       have:i = 0:=by simp at h1; omega
       subst this; exact hnil) (fun p h=>by simp at h) (fun vs h=>by simp at h) (fun i j p q x h1=>by
       cases i with
       | zero=>simp at h1
       | succ i=>simp at h1)
     refine wp_of_run (by rw [e]; simp [hrun]) (hn _ _ _ _ _ _ h (hs'.putD o.dst (.own0 m.length ?_)))
     rw [← hs.mlen]; simp
    ·rw [hsz] at q4 q5
     have hge:w.heap.size ≤ g:=by
      rcases q7 with h | h
      ·exact h
      ·rw [hx.nils_inv] at h; simp [Value.ownBlock] at h
     have hs':=hs.grow hbel [.row ti.ety ti.esz n2 row2] [.lv (mkId g cur.size n2 ti.esz)] rfl (fun i h1 h2=>by
       have:i = 0:=by simp at h1; omega
       subst this
       exact BRel.ofRowsV q1 q4 q2 q5 (hR2.mono (hmono _ (fun p hp x hx=>by simp at hp; subst hp; rw [mkId_has hx]; exact hge)))) (fun p h x hx=>by simp at h; subst h; rw [mkId_has hx]; exact ⟨hge,q6⟩) (fun vs h=>by simp at h) (fun i j p q x h1 h2 _ _=>by
       cases i with
       | zero=>cases j with
        | zero=>rfl
        | succ j=>simp at h2
       | succ i=>simp at h1)
     refine wp_of_run (by rw [e]; simp [hrun]) (hn _ _ _ _ _ _ h (hs'.putD o.dst (.own m.length cap (mkId g cur.size n2 ti.esz) ?_ ⟨q2,q3⟩ q4.symm)))
     rw [← hs.mlen]; simp
   ·exact h.elim
  ·exact h.elim
end
end Go.Proofs.YtmeohhbdkoeadaaGreat.Am
namespace Go.Proofs.YtmeohhbdkoeadaaGreat.Am
variable [Inhabited DRT]
open Go.RowKit (Below)

def zer (z:List A):Nat → List A
 | 0=>[]
 | n + 1=>z ++ zer z n
theorem zer_len (z:List A):∀ n,(zer z n).length = n * z.length
 | 0=>by simp [zer]
 | n + 1=>by simp [zer,zer_len z n,Nat.add_mul]; omega
theorem zer_get (z:List A):∀ (n k:Nat) (h:k < (zer z n).length) (h':k % z.length < z.length),(zer z n)[k] = z[k % z.length]
 | 0,k,h,_=>by simp [zer] at h
 | n + 1,k,h,h'=>by
  simp only [zer]
  by_cases hk:k < z.length
  ·rw [List.getElem_append_left hk]; simp [Nat.mod_eq_of_lt hk]
  ·rw [List.getElem_append_right (by omega)]
   have e:(k - z.length) % z.length = k % z.length:=(Nat.mod_eq_sub_mod (by omega)).symm
   rw [zer_get z n (k - z.length) (by simp [zer] at h; omega) (by rw [e]; exact h')]
   simp only [e]

def sMake (tt:TT) (t:TypeId) (l k:A) (m:List Blk) (K:KT):Prop :=
 match tt.lookup t,l,k with
 | some ti,.int _ l,.int _ k=>match ti.kind,tt.lookup ti.ety with
  | 3,some te=>fnat ti.ebytes fun eb=>fnat ti.ety fun ety=>fnat ti.esz fun esz=>fl te.zero fun z=>(0 ≤ l ∧ l ≤ k ∧ k ≤ 140737488355328 ∧ k * (eb:Int) ≤ 140737488355328) ∧ pushB m (.row ety esz l.toNat fun _=>z) fun b m'=>K (.own b) m'
  | _,_=>False
 | _,_,_=>False
def sBuildSl (tt:TT) (t:TypeId) (len:Nat) (parts:List (Nat × A)) (m:List Blk) (K:KT):Prop :=
 match tt.lookup t with
 | none=>False
 | some ti=>match ti.kind,tt.lookup ti.ety,Nat.ble (len * ti.esz) 1000000 with
  | 3,some te,true=>bldF ti parts (zer te.zero len) fun cs=>match cs.any (hasOwn 4),Nat.beq cs.length (len * ti.esz) with
   | false,true=>fnat ti.ety fun ety=>fnat ti.esz fun esz=>pushB m (.row ety esz len fun i=>takeL esz (cs.drop (i * esz))) fun b m'=>K (.own b) m'
   | _,_=>False
  | _,_,_=>False
/-- A slice of a row of ours: the row itself, shorter. -/
def sOwnSl (tt:TT) (t:TypeId) (b:Nat) (lo hi:Option A) (s:List A) (m:List Blk) (K:List A → A → List Blk → Prop):Prop :=
 match tt.lookup t,lo with
 | some ti,none=>match ti.kind,m.getD b .dead with
  | 3,.row ty sz n row=>bnd hi n n fun h =>
   fd.fdl 4 (s.map (scr b 4)) fun s'=>fbs ((m.map (scrB b 4)).set b (.row ty sz h row)) fun m'=>K s' (.own b) m'
  | _,_=>False
 | some ti,some l=>match ti.kind,hi,m.getD b .dead with
  | 3,none,.row _ sz n _=>match Nat.beq sz ti.esz with
   | true=>bnd (some l) 0 n fun k=>fnat b fun b'=>K s (.osl b' k) m
   | false=>False
  | _,_,_=>False
 | _,_=>False
/-- An operation that may strike names. -/
def stepS (P:Program) (G:GInv) (tt:TT) (o:Oper) (s:List A) (m:List Blk) (K:List A → A → List Blk → Prop):Prop :=
 match o.op with
 | .call { callee:=.builtin .append,args,argTypes }=>match args.toList,argTypes.toList with
  | [x,y],[t,t']=>match Nat.beq t' t with
   | true=>sApp tt t (ev s x) (ev s y) s m K
   | false=>False
  | _,_=>False
 | .makeSlice t l k=>sMake tt t (ev s l) (ev s k) m (K s)
 | .buildSlice t len ps=>sBuildSl tt t len (ps.toList.map fun p=>(p.1,ev s p.2)) m (K s)
 | .slice t x lo hi mx=>match mx,ev s x with
  | none,.own b=>sOwnSl tt t b (evO s lo) (evO s hi) s m K
  | _,_=>step P G tt o s m (K s)
 | _=>step P G tt o s m (K s)

section
variable {c:Ctx} {s:List A} {m:List Blk} {a:Act} {w w':World} {ids ids':Ids} {P:Program} {im im':Nat → Prop} {tt:TT} {G:GInv}
variable {next:Act → World → Prop} {Q:Exit → Act → World → Prop} {o:Oper}

theorem RowsV_made {z:Array Value} {sz n N:Nat} (hz:z.size = sz) (hn:n ≤ N) (hone:∀ v ∈ z.toList,v.oneCell' = true) :
  RowsV im w n sz (fun _=>z.toList.map ofConst) ((madeCells z (N * sz)).toList.take (n * sz)):=by
 have hle:n * sz ≤ N * sz:=Nat.mul_le_mul_right _ hn
 have hl:((madeCells z (N * sz)).toList.take (n * sz)).length = n * sz:=by rw [List.length_take,Array.length_toList,size_madeCells]; exact Nat.min_eq_left hle
 have hat:∀ k (h:k < ((madeCells z (N * sz)).toList.take (n * sz)).length) (h':k % sz < z.toList.length),((madeCells z (N * sz)).toList.take (n * sz))[k] = z.toList[k % sz]:=by
  intro k h h'
  simp [madeCells,hz]
  rw [getElem!_pos z (k % sz) (by simpa using h')]
 refine ⟨hl,?_,fun i _=>by simp [hz],?_⟩
 ·intro u hu
  obtain ⟨k,hk,rfl⟩:=List.getElem_of_mem hu
  have hk2:=hk
  rw [hl] at hk2
  obtain ⟨q1,q2,q3⟩:=divmod hk2 rfl rfl
  rw [hat k hk (by simpa [hz] using q2)]
  exact hone _ (List.getElem_mem _)
 ·intro i j hi hj h'
  have hjs:j < sz:=by simpa [hz] using hj
  have e2:(i * sz + j) % sz = j:=by rw [Nat.mul_comm,Nat.mul_add_mod,Nat.mod_eq_of_lt hjs]
  rw [hat _ h' (by rw [e2]; simpa [hz] using hjs)]
  simp only [e2,List.getElem_map]
  exact ofConst_rel _ _ _

theorem sMake_sound (htt:TTok P tt) (hs:Sim c s m a w ids) {t:TypeId} {L C:Operand} (ho:o.op = .makeSlice t L C) {K:KT} (h:sMake tt t (ev s L) (ev s C) m K) (hn:NextOk c s o K next):o.wp P a w next Q:=by
 have hl:=hs.ev L
 have hc:=hs.ev C
 unfold sMake at h
 split at h
 ·rename_i ti k1 l k2 k hti hL hC
  rw [hL] at hl; rw [hC] at hc
  obtain ⟨i0,d,z0,_,hd,_,_,_,_,_,_,_,_,_,hk3,_⟩:=htt.facts hti
  split at h
  ·rename_i te hk hte
   obtain ⟨ie,ze,hd',hie,hsz,hby,hz,hzs,hne⟩:=hk3 hk
   subst hd'
   obtain ⟨i1,d1,z1,hi1,_,hz1,_,hone,_,hzero,_⟩:=htt.facts hte
   have e1:i1 = ie:=by rw [hie] at hi1; exact (Option.some.inj hi1).symm
   subst e1
   have e2:z1 = ze:=by rw [hz] at hz1; exact (Option.some.inj hz1).symm
   subst e2
   simp only [fnat_eq,fl_eq] at h
   obtain ⟨⟨c1,c2,c3,c4⟩,h⟩:=h
   rw [pushB_eq] at h
   have hrun:=run_make (P:=P) w t ti.ety i1 z1 hd hie hz k1 k2 l k c1 c2 (by rw [hby,Int.mul_comm]; omega) (by omega)
   refine wp_new hs hn (.row ti.ety ti.esz l.toNat fun _=>te.zero) (madeCells z1.cells (k.toNat * i1.size)) ti.ety l.toNat ti.esz (v:=.slice (some ⟨w.heap.size,0,none⟩) l.toNat k.toNat) ?_ h ?_ ?_
   ·unfold execOp; rw [ho]; simp only [hl.int_inv,hc.int_inv,Sem.run_bind,hrun]; rfl
   ·intro ids' im' w' g1 g2 g3 g4
    rw [hsz] at g4 ⊢
    refine BRel.ofRowsV (cap:=k.toNat) g4 (by simp [size_madeCells]) (by omega) rfl ?_
    rw [hzero]
    exact RowsV_made hzs (by omega) hone
   ·intro ids' im' w' g
    refine .own _ k.toNat _ g ⟨by show l.toNat ≤ k.toNat; omega,by simp only [maxLen]; omega⟩ ?_
    simp [size_madeCells,hsz]
  ·exact h.elim
 ·exact h.elim

/-- A slice literal: the new block, and what it stands for. -/
theorem bsl_run (htt:TTok P tt) (hs:Sim c s m a w ids) {t:TypeId} {len:Nat} {ps:Array (Nat × Operand)} {ti te:TI} (hti:tt.lookup t = some ti) (hk:ti.kind = 3) (hte:tt.lookup ti.ety = some te) (hble:len * ti.esz ≤ 1000000)
  {K:List A → Prop} (h:bldF ti (ps.toList.map fun p=>(p.1,ev s p.2)) (zer te.zero len) K) :
  ∃ cs' vs',K cs' ∧ (cs'.any (hasOwn 4) = false → cs'.length = len * ti.esz →
   (Instr.buildSlice t len (ps.map fun p=>(p.1,a.eval p.2))).run P w = .ok (.slice (some ⟨w.heap.size,0,none⟩) len len) (w.alloc (.cells vs' ti.ety)) ∧ vs'.size = len * ti.esz ∧ len ≤ maxLen ∧
   ∀ ids' im' w',(∀ b,imOf c ids w b → im' b) → (∀ b,imOf c ids w b → w'.heap[b]? = w.heap[b]?) → (∀ (b:Nat) p,ids[b]? = some p → p ≠ .dead → ids'[b]? = some p) →
    w'.heap[w.heap.size]? = some (.cells vs' ti.ety (0,0)) → BRel ids' im' w' (.row ti.ety ti.esz len fun i=>takeL ti.esz (cs'.drop (i * ti.esz))) (.lv (mkId w.heap.size vs'.size len ti.esz))):=by
 have hp:=parts_rel hs ps.toList
 obtain ⟨i0,d,z0,_,hd,_,_,_,_,_,_,_,_,_,hk3,_⟩:=htt.facts hti
 obtain ⟨ie,ze,hd',hie,hsz,hby,hz,hzs,hne⟩:=hk3 hk
 subst hd'
 obtain ⟨i1,d1,z1,hi1,_,hz1,_,hone,_,hzero,_⟩:=htt.facts hte
 have e1:i1 = ie:=by rw [hie] at hi1; exact (Option.some.inj hi1).symm
 subst e1
 have e2:z1 = ze:=by rw [hz] at hz1; exact (Option.some.inj hz1).symm
 subst e2
 have hzl:te.zero.length = ti.esz:=by rw [hzero]; simp [hzs]
 have hM:=RowsV_made (im:=imOf c ids w) (w:=w) (n:=len) (N:=len) hzs (Nat.le_refl _) hone
 have hml:(madeCells z1.cells (len * ti.esz)).toList.length = len * ti.esz:=by simp [size_madeCells]
 rw [List.take_of_length_le (by omega)] at hM
 obtain ⟨cs',vs',f1,f2,f3,f4,f5⟩:=bldF_sound (ti:=ti) (ids:=ids) (im:=imOf c ids w) (w:=w) _ _ (zer te.zero len) (madeCells z1.cells (len * ti.esz)).toList _ hp (by rw [hml,zer_len,hzl])
  hM.2.1 (fun j h1 h2=>by
   rw [hml] at h2
   obtain ⟨q1,q2,q3⟩:=divmod h2 rfl rfl
   have:=hM.2.2.2 (j / ti.esz) (j % ti.esz) q1 (by simp [hzs]; exact q2) (by rw [q3,hml]; exact h2)
   rw [zer_get _ _ _ h1 (by rw [hzl]; exact q2)]
   simp only [hzl,q3] at this ⊢
   have e:te.zero[j % ti.esz]'(by rw [hzl]; exact q2) = (z1.cells.toList.map ofConst)[j % ti.esz]'(by simp [hzs]; exact q2):=by simp only [hzero]
   rw [e]; exact .imm this) h
 refine ⟨cs',vs'.toArray,f2,fun hown hlen=>?_⟩
 have hvl:vs'.length = len * ti.esz:=by rw [f3,hlen]
 have hfill:∀ zero:Array Value,(len * ti.esz = 0 ∨ zero = z1.cells) → (Array.range (len * ti.esz)).map (zero[· % zero.size]!) = madeCells z1.cells (len * ti.esz):=by
  intro zero h
  rcases h with h | h
  ·rw [h]; simp [madeCells]
  ·rw [h]; rfl
 have hpl:(fun i=>some (i * ti.esz,ti.esz)) = placeOf ti:=by
  funext x; unfold placeOf; rw [hk]; rfl
 have hrun:(Instr.buildSlice t len (ps.map fun p=>(p.1,a.eval p.2))).run P w = .ok (.slice (some ⟨w.heap.size,0,none⟩) len len) (w.alloc (.cells vs'.toArray ti.ety)):=by
  have hf:Instr.fill (placeOf ti) (madeCells z1.cells (len * ti.esz)) (ps.toList.map fun p=>(p.1,a.eval p.2)) = some vs'.toArray:=by simpa using f1
  have hle:¬ 16777216 < len * ti.esz:=by omega
  by_cases h0:len * ti.esz = 0
  ·have:=hfill #[] (.inl h0)
   rw [← this] at hf
   simp [Instr.buildSlice,underlying,hd,sizeOf,typeInfo,hie,hsz,h0,hpl,newRow]
   rw [h0] at hf
   simp at hf
   simp [hf]
  ·have:=hfill z1.cells (.inr rfl)
   rw [← this] at hf
   simp [Instr.buildSlice,underlying,hd,sizeOf,typeInfo,hie,hsz,hle,h0,hpl,newRow,zeroValue,hz]
   simp [hf]
 refine ⟨hrun,by simpa using hvl,?_,?_⟩
 ·have:len ≤ len * ti.esz:=Nat.le_mul_of_pos_right _ (Nat.pos_of_ne_zero hne)
  simp only [maxLen]; omega
 ·intro ids' im' w' g1 g2 g3 g4
  refine BRel.ofRowsV (cap:=len) (vs:=vs') g4 (by simpa using hvl) (Nat.le_refl _) (by rw [← hvl]; simp) ⟨hvl,f4,?_,?_⟩
  ·intro i hi
   simp only [takeL_eq]
   simp
   have:=Nat.mul_le_mul_right ti.esz (show i + 1 ≤ len from hi)
   rw [Nat.add_mul] at this; omega
  ·intro i j hi hj h'
   have hc:i * ti.esz + j < cs'.length:=by omega
   have e:(takeL ti.esz (cs'.drop (i * ti.esz)))[j] = cs'[i * ti.esz + j]:=by simp [takeL_eq]
   rw [e]
   refine (hasOwn_rel 4 _ _ ?_ (f5 _ hc h')).mono g1 g2
   have:=List.any_eq_false.1 hown _ (List.getElem_mem hc)
   simpa using this

theorem sBuildSl_sound (htt:TTok P tt) (hs:Sim c s m a w ids) {t:TypeId} {len:Nat} {ps:Array (Nat × Operand)} (ho:o.op = .buildSlice t len ps) {K:KT}
  (h:sBuildSl tt t len (ps.toList.map fun p=>(p.1,ev s p.2)) m K) (hn:NextOk c s o K next):o.wp P a w next Q:=by
 unfold sBuildSl at h
 split at h
 ·exact h.elim
 ·rename_i ti hti
  split at h
  ·rename_i te hk hte hble
   obtain ⟨cs',vs',f2,hrest⟩:=bsl_run (P:=P) htt hs hti hk hte (Nat.le_of_ble_eq_true hble) h
   split at f2
   ·rename_i hown hlen
    rw [fnat_eq,fnat_eq,pushB_eq] at f2
    obtain ⟨hrun,hvl,hmx,hB⟩:=hrest hown (Nat.eq_of_beq_eq_true hlen)
    refine wp_new hs hn _ vs' ti.ety len ti.esz (v:=.slice (some ⟨w.heap.size,0,none⟩) len len) ?_ f2 hB ?_
    ·unfold execOp; rw [ho]; simp only [Sem.run_bind,hrun]; rfl
    ·intro ids' im' w' g
     exact .own _ len _ g ⟨Nat.le_refl _,hmx⟩ hvl.symm
   ·exact f2.elim
  ·exact h.elim

theorem sOwnSl_sound (htt:TTok P tt) (hs:Sim c s m a w ids) {t:TypeId} {X:Operand} {lo hi:Option Operand} {b:Nat} (ho:o.op = .slice t X lo hi none) (hX:ev s X = .own b)
  {K:List A → A → List Blk → Prop} (h:sOwnSl tt t b (evO s lo) (evO s hi) s m K)
  (hn:∀ s1 v m' a' w' ids',K s1 v m' → Sim c (putD s1 o.dst v) m' a' w' ids' → next a' w'):o.wp P a w next Q:=by
 have hx:=hs.ev X
 rw [hX] at hx
 have e:execOp a.eval o = (do let z ← Instr.sliceAt t (a.eval X) (lo.map a.eval) (hi.map a.eval) none; pure (.value z)):=by unfold execOp; rw [ho]; rfl
 unfold sOwnSl at h
 split at h
 ·rename_i ti hti hlo
  have hlo:lo = none:=by cases lo with | none=>rfl | some=>simp [evO] at hlo
  subst hlo
  obtain ⟨i0,d,z0,_,hd,_,_,_,_,_,_,_,_,_,hk3,_⟩:=htt.facts hti
  split at h
  ·rename_i ty sz n row hk hb
   obtain ⟨ie,ze,hd',hie,hsz,hby,hz,hzs,hne⟩:=hk3 hk
   subst hd'
   have hun:P.underlying t = some (.slice (P.elem t)):=by
    have:P.elem t = ti.ety:=by simp [Program.elem,hd]
    rw [this]; exact hd
   have hel:P.elem t = ti.ety:=by simp [Program.elem,hd]
   obtain ⟨hlt,hm⟩:=getD_row hb
   have hbi:b < ids.length:=by rw [hs.mlen]; exact hlt
   have hB:=hs.blks b hlt hbi
   rw [hm] at hB
   rcases hs.own_at hx (by rw [hb]; simp) with ⟨h1,h2⟩ | ⟨p,cap,h1,h2,h3,h4⟩
   ·have:ids[b] = .virt:=by rw [List.getElem?_eq_getElem hbi] at h1; exact Option.some.inj h1
    rw [this] at hB
    have hB:n = 0:=hB
    subst hB
    obtain ⟨hb',h,b1,b2,b3⟩:=bnd_run hs h (Nat.le_refl _)
    rw [fdl_eq,fbs_eq] at h
    have h0:hb' = 0:=by
     cases hi with
     | none=>exact b1 rfl
     | some L=>have:=b2 rfl; omega
    subst h0
    have hs':=hs.rebind (w':=w) b .virt (.row ty sz 0 row) 4 hlt rfl rfl rfl (Nat.le_refl _) (fun _ _ _=>rfl) (fun _ h=>by cases h) (fun p' h=>by cases h) (fun _=>rfl)
    refine wp_of_run ?_ (hn _ _ _ _ _ _ h (hs'.putD o.dst (v:=.slice none 0 0) (.own0 b ?_)))
    ·rw [e,h2,Sem.run_bind,run_sliceAt_slice _ _ _ _ _ _ hun,run_slice_any _ _ _ _ _ hun]
     have:=bounds_run (P:=P) (w:=w) (a:=a) (isS:=true) (len:=0) (cap:=0) (lo:=none) b1 (fun _=>rfl) b3 (fun X h=>by cases h)
     simp only [Option.map_none] at this
     simp [this,hel,sizeOf,typeInfo,hie,hsz,sliced]
    ·rw [List.getElem?_set_self hbi]
   ·have:ids[b] = .lv p:=by rw [List.getElem?_eq_getElem hbi] at h1; exact Option.some.inj h1
    rw [this] at hB
    obtain ⟨hb',h,b1,b2,b3⟩:=bnd_run hs h (show n ≤ cap by have:=hB.2.1; omega)
    rw [fdl_eq,fbs_eq] at h
    obtain ⟨e1,e2,vs,g1,g2,g3,g4,g5⟩:=hB
    have hle:hb' ≤ n:=by
     cases hi with
     | none=>have:=b1 rfl; omega
     | some L=>exact b2 rfl
    have hs':=hs.rebind (w':=w) b (.lv (mkId p.blk p.k hb' p.sz)) (.row ty sz hb' row) 4 hlt rfl rfl rfl (Nat.le_refl _) (fun _ _ _=>rfl) (fun _ h=>by cases h)
     (fun p' h x hx=>by cases h; rw [mkId_has hx]; exact ⟨(hs.fresh p (List.mem_of_getElem? h1)).2,.inr ⟨p,h1,.inl rfl⟩⟩)
     (fun hmm=>⟨e1,rfl,vs,g1,g2,Nat.le_trans (Nat.mul_le_mul_right _ hle) g3,fun i hi=>g4 i (by omega),fun i j hi h h'=>⟨hmm _ _ (g5 i j (by omega) h h').1,(g5 i j (by omega) h h').2⟩⟩)
    refine wp_of_run ?_ (hn _ _ _ _ _ _ h (hs'.putD o.dst (v:=.slice (some ⟨p.blk,0,none⟩) hb' cap) (.own b cap (mkId p.blk p.k hb' p.sz) ?_ ⟨by show hb' ≤ cap; omega,h2.2⟩ h3)))
    ·rw [e,h4,Sem.run_bind,run_sliceAt_slice _ _ _ _ _ _ hun,run_slice_any _ _ _ _ _ hun,e2]
     have:=bounds_run (P:=P) (w:=w) (a:=a) (isS:=true) (len:=n) (cap:=cap) (lo:=none) b1 (fun _=>rfl) b3 (fun X h=>by cases h)
     simp only [Option.map_none] at this
     have e3:(⟨p.blk,0,none⟩ : Addr).add 0 = ⟨p.blk,0,none⟩:=rfl
     simp [this,hel,sizeOf,typeInfo,hie,hsz,sliced,e3]
    ·rw [List.getElem?_set_self hbi]
  ·exact h.elim
 ·rename_i ti l hti hlo
  obtain ⟨L,rfl⟩ : ∃ L,lo = some L:=by cases lo with | none=>simp [evO] at hlo | some L=>exact ⟨L,rfl⟩
  obtain ⟨i0,d,z0,_,hd,_,_,_,_,_,_,_,_,_,hk3,_⟩:=htt.facts hti
  split at h
  ·rename_i ty sz n row hk hh hb
   have hhi:hi = none:=by cases hi with | none=>rfl | some=>simp [evO] at hh
   subst hhi
   split at h
   ·rename_i hez
    have hez:=Nat.eq_of_beq_eq_true hez
    subst hez
    obtain ⟨ie,ze,hd',hie,hsz,hby,hz,hzs,hne⟩:=hk3 hk
    subst hd'
    have hun:P.underlying t = some (.slice (P.elem t)):=by
     have:P.elem t = ti.ety:=by simp [Program.elem,hd]
     rw [this]; exact hd
    have hel:P.elem t = ti.ety:=by simp [Program.elem,hd]
    obtain ⟨hlt,hm⟩:=getD_row hb
    have hbi:b < ids.length:=by rw [hs.mlen]; exact hlt
    have hB:=hs.blks b hlt hbi
    rw [hm] at hB
    rw [← hlo] at h
    rcases hs.own_at hx (by rw [hb]; simp) with ⟨h1,h2⟩ | ⟨p,cap,h1,h2,h3,h4⟩
    ·have:ids[b] = .virt:=by rw [List.getElem?_eq_getElem hbi] at h1; exact Option.some.inj h1
     rw [this] at hB
     have hB:n = 0:=hB
     subst hB
     obtain ⟨k,h,c1,c2,c3⟩:=bnd_run hs h (Nat.le_refl _)
     rw [fnat_eq] at h
     have h0:k = 0:=by have:=c2 rfl; omega
     subst h0
     refine wp_of_run ?_ (hn _ _ _ _ _ _ h (hs.putD o.dst (v:=.slice none 0 0) (.osl0 b 0 h1)))
     rw [e,h2,Sem.run_bind,run_sliceAt_slice _ _ _ _ _ _ hun,run_slice_any _ _ _ _ _ hun]
     have:=bounds_run (P:=P) (w:=w) (a:=a) (isS:=true) (len:=0) (cap:=0) (hi:=none) (h:=0) (fun _=>rfl) c1 (fun X h=>by cases h) c3
     simp only [Option.map_none,Option.map_some] at this
     simp [this,hel,sizeOf,typeInfo,hie,hsz,sliced]
    ·have:ids[b] = .lv p:=by rw [List.getElem?_eq_getElem hbi] at h1; exact Option.some.inj h1
     rw [this] at hB
     obtain ⟨k,h,c1,c2,c3⟩:=bnd_run hs h (Nat.le_refl _)
     rw [fnat_eq] at h
     have e1:p.sz = ti.esz:=hB.1
     have e2:p.n = n:=hB.2.1
     refine wp_of_run ?_ (hn _ _ _ _ _ _ h (hs.putD o.dst (v:=.slice (some ⟨p.blk,if cap = k then 0 else k * p.sz,none⟩) (p.n - k) (cap - k)) (.osl b k _ _ p h1 (fun hk=>if_neg (by have:=h2.1; omega)))))
     rw [e,h4,Sem.run_bind,run_sliceAt_slice _ _ _ _ _ _ hun,run_slice_any _ _ _ _ _ hun,e2]
     have:=bounds_run (P:=P) (w:=w) (a:=a) (isS:=true) (len:=n) (cap:=cap) (hi:=none) (h:=n) (fun _=>rfl) c1 (fun X h=>by cases h) c3
     simp only [Option.map_none,Option.map_some] at this
     have e3:(⟨p.blk,0,none⟩ : Addr).add (k * ti.esz) = ⟨p.blk,k * ti.esz,none⟩:=by rw [add_at,Nat.zero_add]
     by_cases hck:cap = k
     ·subst hck; simp [this,hel,sizeOf,typeInfo,hie,hsz,sliced,e3,e1]
     ·simp [this,hel,sizeOf,typeInfo,hie,hsz,sliced,e3,e1,hck]
   ·exact h.elim
  ·exact h.elim
 ·exact h.elim

theorem stepS_sound (htt:TTok P tt) (hG:G.ok c) (hs:Sim c s m a w ids) {K:List A → A → List Blk → Prop} (h:stepS P G tt o s m K)
  (hn:∀ s1 v m' a' w' ids',K s1 v m' → Sim c (putD s1 o.dst v) m' a' w' ids' → next a' w'):o.wp P a w next Q:=by
 unfold stepS at h
 split at h
 ·rename_i args ts ho
  split at h
  ·rename_i x y t t' hx ht
   split at h
   ·rename_i hb
    have hb:=Nat.eq_of_beq_eq_true hb
    subst hb
    have e1:args = #[x,y]:=by apply Array.ext'; simpa using hx
    have e2:ts = #[t',t']:=by apply Array.ext'; simpa using ht
    rw [e1,e2] at ho
    exact sApp_sound htt hs ho h hn
   ·exact h.elim
  ·exact h.elim
 ·rename_i ho; exact sMake_sound htt hs ho h (fun v m' a' w' ids'=>hn s v m' a' w' ids')
 ·rename_i ho; exact sBuildSl_sound htt hs ho h (fun v m' a' w' ids'=>hn s v m' a' w' ids')
 ·rename_i ho
  split at h
  ·rename_i hX; exact sOwnSl_sound htt hs ho hX h hn
  ·exact step_sound htt hG hs h (fun v m' a' w' ids'=>hn s v m' a' w' ids')
 ·exact step_sound htt hG hs h (fun v m' a' w' ids'=>hn s v m' a' w' ids')
end
end Go.Proofs.YtmeohhbdkoeadaaGreat.Am
namespace Go.Proofs.YtmeohhbdkoeadaaGreat.Am
variable [Inhabited DRT]
open Go.RowKit (Below)

/-! ### Names that are changed, a world that is changed in what is ours alone -/
def Id.like (p q:Id):Prop:=q.blk = p.blk ∧ q.k = p.k ∧ q.n = p.n ∧ q.sz = p.sz ∧ ∀ n k,p.hist n = some k → q.hist n = some k
def Id.like0 (p q:Id):Prop:=q.blk = p.blk ∧ q.k = p.k ∧ q.n = p.n ∧ q.sz = p.sz
theorem Id.like_rfl (p:Id):p.like p:=⟨rfl,rfl,rfl,rfl,fun _ _ h=>h⟩
def likeE:IdE → IdE → Prop
 | .dead,_=>True
 | .virt,q=>q = .virt
 | .stale,q=>q = .stale
 | .lv p,q=>∃ p',q = .lv p' ∧ p.like p'
 | .gho vs,q=>q = .gho vs
/-- As above, of names that no entry leans on. -/
def likeE0:IdE → IdE → Prop
 | .dead,_=>True
 | .virt,q=>q = .virt
 | .stale,q=>q = .stale
 | .lv p,q=>∃ p',q = .lv p' ∧ p.like0 p'
 | .gho vs,q=>q = .gho vs
theorem likeE0_rfl (p:IdE):likeE0 p p:=by
 cases p with
 | dead=>trivial
 | stale=>trivial
 | virt=>rfl
 | lv p=>exact ⟨p,rfl,rfl,rfl,rfl,rfl⟩
 | gho vs=>rfl
theorem likeE_rfl (p:IdE):likeE p p:=by
 cases p with
 | dead=>trivial
 | stale=>trivial
 | virt=>rfl
 | lv p=>exact ⟨p,rfl,p.like_rfl⟩
 | gho vs=>rfl

section
variable {c:Ctx} {s:List A} {m:List Blk} {a:Act} {w w':World} {ids ids':Ids} {P:Program} {im im':Nat → Prop} {tt:TT} {G:GInv}
variable {next:Act → World → Prop} {Q:Exit → Act → World → Prop} {o:Oper}

theorem Rel.reid (hi:∀ b,im b → im' b) (hw:∀ b,im b → w'.heap[b]? = w.heap[b]?) (hd:∀ (b:Nat) p,ids[b]? = some p → p ≠ .dead → ∃ q,ids'[b]? = some q ∧ likeE p q)
  {x:A} {v:Value} (h:Rel ids im w x v):Rel ids' im' w' x v:=by
 induction h with
 | imm h=>exact .imm (h.mono hi hw)
 | ref b off p h =>
  obtain ⟨q,h1,p',rfl,h2⟩:=hd _ _ h (by simp)
  rw [← h2.1]; exact .ref b off p' h1
 | oref b i off p h =>
  obtain ⟨q,h1,p',rfl,h2⟩:=hd _ _ h (by simp)
  rw [← h2.1,← h2.2.2.2.1]; exact .oref b i off p' h1
 | ownS b x n cap h =>
  obtain ⟨q,h1,h2⟩:=hd _ _ h (by simp)
  have h2:q = .stale:=h2
  subst h2
  exact .ownS b x n cap h1
 | refS b off x y h =>
  obtain ⟨q,h1,h2⟩:=hd _ _ h (by simp)
  have h2:q = .stale:=h2
  subst h2
  exact .refS b off x y h1
 | orefS b i off x y h =>
  obtain ⟨q,h1,h2⟩:=hd _ _ h (by simp)
  have h2:q = .stale:=h2
  subst h2
  exact .orefS b i off x y h1
 | omapS b x h =>
  obtain ⟨q,h1,h2⟩:=hd _ _ h (by simp)
  have h2:q = .stale:=h2
  subst h2
  exact .omapS b x h1
 | own0 b h =>
  obtain ⟨q,h1,h2⟩:=hd _ _ h (by simp)
  have h2:q = .virt:=h2
  subst h2
  exact .own0 b h1
 | own b cap p h hn hm =>
  obtain ⟨q,h1,p',rfl,h2⟩:=hd _ _ h (by simp)
  rw [← h2.1,← h2.2.2.1]
  exact .own b cap p' h1 (by rw [h2.2.2.1]; exact hn) (by rw [h2.2.1,h2.2.2.2.1]; exact hm)
 | omap b p h =>
  obtain ⟨q,h1,p',rfl,h2⟩:=hd _ _ h (by simp)
  rw [← h2.1]; exact .omap b p' h1
 | ent b k p n h hn =>
  obtain ⟨q,h1,p',rfl,h2⟩:=hd _ _ h (by simp)
  exact .ent b k p' n h1 (h2.2.2.2.2 _ _ hn)
 | entS b k n h =>
  obtain ⟨q,h1,h2⟩:=hd _ _ h (by simp)
  have h2:q = .stale:=h2
  subst h2
  exact .entS b k n h1
 | osl b k cap x p h hx =>
  obtain ⟨q,h1,p',rfl,h2⟩:=hd _ _ h (by simp)
  rw [← h2.1,← h2.2.2.1]; exact .osl b k cap x p' h1 (by rw [h2.2.2.1,h2.2.2.2.1]; exact hx)
 | osl0 b k h =>
  obtain ⟨q,h1,h2⟩:=hd _ _ h (by simp)
  have h2:q = .virt:=h2
  subst h2
  exact .osl0 b k h1
 | oslS b k x n cap h =>
  obtain ⟨q,h1,h2⟩:=hd _ _ h (by simp)
  have h2:q = .stale:=h2
  subst h2
  exact .oslS b k x n cap h1
 | agg cs vs hl ho hr ih=>exact .agg cs vs hl ho ih
 | tup cs vs hl hr ih=>exact .tup cs vs hl ih
 | fn f cs vs hl hr ih=>exact .fn f cs vs hl ih

theorem scr_reid {b:Nat} (hi:∀ b,im b → im' b) (hw:∀ b,im b → w'.heap[b]? = w.heap[b]?) (hd:∀ (b':Nat) p,b' ≠ b → ids[b']? = some p → p ≠ .dead → ∃ q,ids'[b']? = some q ∧ likeE p q)
  (d:Nat) (x:A) (v:Value) (h:Rel ids im w x v):Rel ids' im' w' (scr b d x) v:=by
 have h1:Rel (ids.set b .dead) im w (scr b d x) v:=scr_rel (fun _ h=>h) (fun _ _=>rfl) (fun b' p hne h=>by rw [List.getElem?_set_ne (fun e=>hne e.symm)]; exact h) d x v h
 refine h1.reid hi hw ?_
 intro b' p hp hnd
 by_cases hb:b' = b
 ·subst hb
  rw [List.getElem?_set] at hp
  split at hp
  ·split at hp
   ·cases hp; exact absurd rfl hnd
   ·cases hp
  ·rename_i hne; exact absurd rfl hne
 ·rw [List.getElem?_set_ne (fun e=>hb e.symm)] at hp
  exact hd b' p hb hp hnd

theorem BRel.reid (hi:∀ b,im b → im' b) (hw:∀ b,im b → w'.heap[b]? = w.heap[b]?) (hd:∀ (b:Nat) p,ids[b]? = some p → p ≠ .dead → ∃ q,ids'[b]? = some q ∧ likeE p q)
  {x:Blk} {p:IdE} (hp:∀ q,p = .lv q → ∀ k,q.has k → w'.heap[k]? = w.heap[k]?) (h:BRel ids im w x p):BRel ids' im' w' x p:=by
 cases x with
 | box ty cs =>
  cases p with
  | dead=>exact h
  | stale=>exact h
  | virt=>exact h
  | gho vs=>exact h
  | lv q =>
   obtain ⟨vs,h1,h2,h3,h4⟩:=h
   exact ⟨vs,by rw [hp _ rfl _ (.inl rfl)]; exact h1,h2,h3,fun j h h'=>⟨(h4 j h h').1.reid hi hw hd,(h4 j h h').2⟩⟩
 | dead=>exact h
 | gone=>exact h
 | row ty sz n row=>have h:=BRel.mono (ids:=ids) (ids':=ids) hi hw (fun _ _ h _=>h) hp h; cases p <;> exact h
 | nest ty ety sz n ho le row=>have h:=BRel.mono (ids:=ids) (ids':=ids) hi hw (fun _ _ h _=>h) hp h; cases p <;> exact h
 | mapb g n k v=>have h:=BRel.mono (ids:=ids) (ids':=ids) hi hw (fun _ _ h _=>h) hp h; cases p <;> exact h
 | mapx g n k v=>have h:=BRel.mono (ids:=ids) (ids':=ids) hi hw (fun _ _ h _=>h) hp h; cases p <;> exact h
 | ghost cs =>
  cases p with
  | dead=>exact h
  | stale=>exact h
  | virt=>exact h
  | lv q=>exact h
  | gho vs=>exact ⟨h.1,fun j h1 h2=>(h.2 j h1 h2).reid hi hw hd⟩
theorem BRel.rescr {b:Nat} (hi:∀ b,im b → im' b) (hw:∀ b,im b → w'.heap[b]? = w.heap[b]?) (hd:∀ (b':Nat) p,b' ≠ b → ids[b']? = some p → p ≠ .dead → ∃ q,ids'[b']? = some q ∧ likeE p q)
  (d:Nat) {x:Blk} {p:IdE} (hp:∀ q,p = .lv q → ∀ k,q.has k → w'.heap[k]? = w.heap[k]?) (h:BRel ids im w x p):BRel ids' im' w' (scrB b d x) p:=by
 cases x with
 | box ty cs =>
  cases p with
  | dead=>exact h
  | stale=>exact h
  | virt=>exact h
  | gho vs=>exact h
  | lv q =>
   obtain ⟨vs,h1,h2,h3,h4⟩:=h
   refine ⟨vs,by rw [hp _ rfl _ (.inl rfl)]; exact h1,h2,by simpa using h3,fun j h h'=>?_⟩
   rw [List.getElem_map]
   exact ⟨scr_reid hi hw hd d _ _ (h4 j (by simpa using h) h').1,(h4 j (by simpa using h) h').2⟩
 | dead=>exact h
 | gone=>exact h
 | row ty sz n row=>have h:=BRel.mono (ids:=ids) (ids':=ids) hi hw (fun _ _ h _=>h) hp h; cases p <;> exact h
 | nest ty ety sz n ho le row=>have h:=BRel.mono (ids:=ids) (ids':=ids) hi hw (fun _ _ h _=>h) hp h; cases p <;> exact h
 | mapb g n k v=>have h:=BRel.mono (ids:=ids) (ids':=ids) hi hw (fun _ _ h _=>h) hp h; cases p <;> exact h
 | mapx g n k v=>have h:=BRel.mono (ids:=ids) (ids':=ids) hi hw (fun _ _ h _=>h) hp h; cases p <;> exact h
 | ghost cs =>
  cases p with
  | dead=>exact h
  | stale=>exact h
  | virt=>exact h
  | lv q=>exact h
  | gho vs =>
   refine ⟨by simpa using h.1,fun j h1 h2=>?_⟩
   rw [List.getElem_map]
   exact scr_reid hi hw hd d _ _ (h.2 j (by simpa using h1) h2)

/-- What is read through values stays as it is. -/
theorem Sim.im_stays (hs:Sim c s m a w ids) (hsz:w.heap.size ≤ w'.heap.size)
  (hbl:∀ k,k < w.heap.size → (∀ (b:Nat) (p:Id),ids[b]? = some (.lv p) → ¬ p.has k) → w'.heap[k]? = w.heap[k]?)
  (hown:∀ p',IdE.lv p' ∈ ids' → ∀ x,p'.has x → x < w'.heap.size ∧ (w.heap.size ≤ x ∨ ∃ (b:Nat) (p:Id),ids[b]? = some (.lv p) ∧ p.has x)) :
  (∀ k,imOf c ids w k → imOf c ids' w' k) ∧ (∀ k,imOf c ids w k → w'.heap[k]? = w.heap[k]?):=by
 constructor
 ·intro k h
  rcases h with h | ⟨h1,h2,h3⟩
  ·exact .inl h
  ·refine .inr ⟨h1,Nat.lt_of_lt_of_le h2 hsz,fun p hp hx=>?_⟩
   rcases (hown p hp k hx).2 with h | ⟨b,p0,h4,h5⟩
   ·omega
   ·exact h3 p0 (List.mem_of_getElem? h4) h5
 ·intro k h
  refine hbl k (imOf_lt hs h) (fun b p hp e=>?_)
  rcases h with h | ⟨_,_,h3⟩
  ·exact hs.im0new h (hs.freshX p (List.mem_of_getElem? hp) k e).1
  ·exact h3 p (List.mem_of_getElem? hp) e
/-- A state that follows on another one. -/
theorem Sim.goOn (hs:Sim c s m a w ids) {s':List A} {m':List Blk} (hos:w'.os = w.os) (htp:w'.tape = w.tape) (hou:w'.output = w.output) (hsz:w.heap.size ≤ w'.heap.size)
  (hbl:∀ k,k < w.heap.size → (∀ (b:Nat) (p:Id),ids[b]? = some (.lv p) → ¬ p.has k) → w'.heap[k]? = w.heap[k]?)
  (hown:∀ p',IdE.lv p' ∈ ids' → ∀ x,p'.has x → x < w'.heap.size ∧ (w.heap.size ≤ x ∨ ∃ (b:Nat) (p:Id),ids[b]? = some (.lv p) ∧ p.has x))
  (hgho:∀ vs,IdE.gho vs ∈ ids' → IdE.gho vs ∈ ids)
  (hdis:∀ (b b':Nat) p q x,ids'[b]? = some (.lv p) → ids'[b']? = some (.lv q) → p.has x → q.has x → b = b')
  (hsl:s'.length = s.length) (hml:ids'.length = m'.length)
  (hslots:∀ i (h:i < s'.length) (h':i < a.tmps.size),Rel ids' (imOf c ids' w') w' s'[i] a.tmps[i])
  (hblks:∀ b (h:b < m'.length) (h':b < ids'.length),BRel ids' (imOf c ids' w') w' m'[b] ids'[b]) (hdr:drLe w.drawn w'.drawn:=by exact drLe.refl _):Sim c s' m' a w' ids' where
 defers:=hs.defers
 len:=by rw [hs.len,hsl]
 slots:=hslots
 mlen:=hml
 blks:=hblks
 distinctX:=hdis
 freshX:=by
  intro p hp x hx
  refine ⟨?_,(hown p hp x hx).1⟩
  rcases (hown p hp x hx).2 with h | ⟨b,p0,h4,h5⟩
  ·exact .inl (Nat.le_trans hs.frame.size h)
  ·exact (hs.freshX p0 (List.mem_of_getElem? h4) x h5).1
 frame:=by
  refine hs.frame.go hos htp hou hsz (fun k hk hm=>?_) hdr
  refine hbl k (Nat.lt_of_lt_of_le hk hs.frame.size) (fun b p hp e=>?_)
  rcases (hs.freshX p (List.mem_of_getElem? hp) k e).1 with h | h
  ·omega
  ·exact hm h
 im0lt:=hs.im0lt
 gho:=fun vs h=>hs.gho vs (hgho vs h)
end
end Go.Proofs.YtmeohhbdkoeadaaGreat.Am
namespace Go.Proofs.YtmeohhbdkoeadaaGreat.Am
variable [Inhabited DRT]
open Go.RowKit (Below)

/-! ### Rows that own rows -/
def updN {α : Type} (f:Nat → α) (i:Nat) (x : α):Nat → α:=fun j=>if j = i then x else f j
/-- The inner row is taken out. -/
def sTake (tt:TT) (t:TypeId) (b i:Nat) (ty ety:TypeId) (sz n:Nat) (hole:Option Nat) (len:Nat → Nat) (row:Nat → Nat → List A) (m:List Blk) (K:KT):Prop :=
 match tt.lookup t with
 | none=>False
 | some ti=>match ti.kind,Nat.beq ti.ety ety,Nat.beq ti.esz sz,hole with
  | 3,true,true,none=>i < n ∧ setB m b (.nest ty ety sz n (some i) len row) fun m'=>pushB m' (.row ety sz (len i) (row i)) fun k m''=>K (.own k) m''
  | _,_,_,_=>False
/-- It is put back. -/
def sPutB (b i b':Nat) (ty ety:TypeId) (sz n:Nat) (hole:Option Nat) (len:Nat → Nat) (row:Nat → Nat → List A) (s:List A) (m:List Blk) (K:List A → A → List Blk → Prop):Prop :=
 match hole,m.getD b' .dead,Nat.beq b b' with
 | some j,.row ety' sz' n' row',false=>match Nat.beq ety' ety,Nat.beq sz' sz with
  | true,true=>(i = j ∧ i < n) ∧ fd.fdl 4 (s.map (scr b' 4)) fun s'=>fbs (((m.map (scrB b' 4)).set b (.nest ty ety sz n none (updN len j n') (updN row j row'))).set b' .dead) fun m'=>K s' .junk m'
  | _,_=>False
 | _,_,_=>False
def stepN (P:Program) (G:GInv) (tt:TT) (o:Oper) (s:List A) (m:List Blk) (K:List A → A → List Blk → Prop):Prop :=
 match o.op with
 | .indexAddr t x i=>match ev s x with
  | .own b=>match m.getD b .dead with
   | .nest _ _ _ n _ _ _=>match tt.lookup t,ev s i with
    | some ti,.int _ ix=>match ti.kind,Nat.beq ti.esz 1 with
     | 3,true=>(0 ≤ ix ∧ ix < (n:Int)) ∧ K s (.oref b ix.toNat 0) m
     | _,_=>False
    | _,_=>False
   | _=>stepS P G tt o s m K
  | _=>stepS P G tt o s m K
 | .load t x=>match ev s x with
  | .oref b i off=>match m.getD b .dead with
   | .nest ty ety sz n hole len row=>match off with
    | 0=>sTake tt t b i ty ety sz n hole len row m (K s)
    | _=>False
   | _=>stepS P G tt o s m K
  | _=>stepS P G tt o s m K
 | .store t x y=>match ev s x with
  | .oref b i off=>match m.getD b .dead with
   | .nest ty ety sz n hole len row=>match off,ev s y,tt.lookup t with
    | 0,.own b',some ti=>match Nat.beq ti.size 1 with
     | true=>sPutB b i b' ty ety sz n hole len row s m K
     | false=>False
    | _,_,_=>False
   | _=>stepS P G tt o s m K
  | _=>stepS P G tt o s m K
 | _=>stepS P G tt o s m K

section
variable {c:Ctx} {s:List A} {m:List Blk} {a:Act} {w w':World} {ids ids':Ids} {P:Program} {im im':Nat → Prop} {tt:TT} {G:GInv}
variable {next:Act → World → Prop} {Q:Exit → Act → World → Prop} {o:Oper}

theorem getD_some {b:Nat} {x:Blk} (hx:x ≠ .dead) (h:m.getD b .dead = x):∃ hb:b < m.length,m[b] = x:=by
 rcases Nat.lt_or_ge b m.length with h' | h'
 ·exact ⟨h',by rw [List.getD_eq_getElem?_getD,List.getElem?_eq_getElem h'] at h; exact h⟩
 ·rw [List.getD_eq_getElem?_getD,List.getElem?_eq_none h'] at h; exact absurd h.symm hx
theorem nest_at (hs:Sim c s m a w ids) {b:Nat} {ty ety:TypeId} {sz n:Nat} {hole:Option Nat} {len:Nat → Nat} {row:Nat → Nat → List A} (hb:m.getD b .dead = .nest ty ety sz n hole len row) (h0:0 < n) :
  ∃ p,ids[b]? = some (.lv p) ∧ BRel ids (imOf c ids w) w (.nest ty ety sz n hole len row) (.lv p) ∧ b < m.length ∧ b < ids.length:=by
 obtain ⟨h1,h2⟩:=getD_some (by simp) hb
 have h3:b < ids.length:=by rw [hs.mlen]; exact h1
 have hB:=hs.blks b h1 h3
 rw [h2] at hB
 cases hp:ids[b] with
 | dead=>rw [hp] at hB; exact hB.elim
 | stale=>rw [hp] at hB; exact hB.elim
 | virt=>rw [hp] at hB; have hB:n = 0:=hB; omega
 | gho vs=>rw [hp] at hB; exact hB.elim
 | lv p=>rw [hp] at hB; exact ⟨p,by rw [List.getElem?_eq_getElem h3,hp],hB,h1,h3⟩

/-- A nest from which an inner row is taken. -/
theorem Sim.take (hs:Sim c s m a w ids) {b i:Nat} {ty ety:TypeId} {sz n:Nat} {len:Nat → Nat} {row:Nat → Nat → List A} (hb:m.getD b .dead = .nest ty ety sz n none len row) (hi:i < n) :
  ∃ p vs ids' v,ids[b]? = some (.lv p) ∧ w.heap[p.blk]? = some (.cells vs ty (0,0)) ∧ vs[i]? = some v ∧ p.sz = 1 ∧
   Sim c s (m.set b (.nest ty ety sz n (some i) len row) ++ [.row ety sz (len i) (row i)]) a w ids' ∧ Rel ids' (imOf c ids' w) w (.own m.length) v:=by
 obtain ⟨p,hid,hB,hbm,hbi⟩:=nest_at hs hb (by omega)
 obtain ⟨g1,g2,g3,vs,h1,h2,h3,kb,h4⟩:=hB
 have hivs:i < vs.size:=by omega
 obtain ⟨k1,k2,k3⟩:=h4 i hi (by simp) hivs
 -- the new names
 let p':Id:=⟨p.blk,p.k,p.n,p.sz,fun x=>p.kid x ∧ kb i ≠ some x,p.hist⟩
 have hsub:∀ x,p'.has x → p.has x:=by
  rintro x (h | h)
  ·exact .inl h
  ·exact .inr h.1
 have hq:∃ q:IdE,(∀ q',q = .lv q' → ∀ x,q'.has x → kb i = some x) ∧ (∀ im w',(∀ x,kb i = some x → w'.heap[x]? = w.heap[x]?) → (∀ u v,RelI (imOf c ids w) w u v → RelI im w' u v) → ∀ ids',BRel ids' im w' (.row ety sz (len i) (row i)) q) ∧
   (∀ ids' im w' k,ids'[k]? = some q → Rel ids' im w' (.own k) vs[i]):=by
  rcases k1 with ⟨e1,e2,e3⟩ | ⟨q,cap,us,e1,e2,e3,e4,e5,e6,e7,e8⟩
  ·exact ⟨.virt,(fun q' h=>by cases h),(fun _ _ _ _ _=>e2),(fun ids' im w' k h=>by rw [e1]; exact .own0 k h)⟩
  ·refine ⟨.lv (mkId q us.size (len i) sz),(fun q' h x hx=>by cases h; rw [mkId_has hx]; exact e2),?_,?_⟩
   ·intro im w' hk hm ids'
    refine ⟨rfl,rfl,us,by show w'.heap[q]? = _; rw [hk q e2]; exact e3,rfl,?_,e7,fun i' j hi' h h'=>⟨hm _ _ (e8 i' j hi' h h').1,(e8 i' j hi' h h').2⟩⟩
    show len i * sz ≤ us.size
    rw [e4]; exact Nat.mul_le_mul_right _ e5
   ·intro ids' im w' k h
    rw [e1]
    exact .own k cap (mkId q us.size (len i) sz) h ⟨e5,e6⟩ e4.symm
 obtain ⟨q,hq1,hq2,hq3⟩:=hq
 let ids':=ids.set b (.lv p') ++ [q]
 have hl':ids'.length = ids.length + 1:=by simp [ids']
 have get_old:∀ k,k < ids.length → k ≠ b → ids'[k]? = ids[k]?:=by
  intro k hk hne
  simp only [ids']
  rw [List.getElem?_append_left (by simpa using hk),List.getElem?_set_ne (fun e=>hne e.symm)]
 have get_b:ids'[b]? = some (.lv p'):=by
  simp only [ids']
  rw [List.getElem?_append_left (by simpa using hbi),List.getElem?_set_self hbi]
 have get_q:ids'[ids.length]? = some q:=by
  simp only [ids']
  rw [List.getElem?_append_right (by simp)]; simp
 have cases_id:∀ (k:Nat) (r:Id),ids'[k]? = some (.lv r) → (k = b ∧ r = p') ∨ (k = ids.length ∧ q = .lv r) ∨ (k ≠ b ∧ k < ids.length ∧ ids[k]? = some (.lv r)):=by
  intro k r h
  by_cases hkb:k = b
  ·subst hkb; rw [get_b] at h; cases h; exact .inl ⟨rfl,rfl⟩
  ·rcases Nat.lt_trichotomy k ids.length with hk | hk | hk
   ·rw [get_old k hk hkb] at h; exact .inr (.inr ⟨hkb,hk,h⟩)
   ·subst hk; rw [get_q] at h; exact .inr (.inl ⟨rfl,Option.some.inj h⟩)
   ·rw [List.getElem?_eq_none (by omega)] at h; cases h
 have hown:∀ r,IdE.lv r ∈ ids' → ∀ x,r.has x → x < w.heap.size ∧ (w.heap.size ≤ x ∨ ∃ (b:Nat) (p:Id),ids[b]? = some (.lv p) ∧ p.has x):=by
  intro r hr x hx
  obtain ⟨k,hk⟩:=List.getElem?_of_mem hr
  rcases cases_id k r hk with ⟨_,rfl⟩ | ⟨_,e⟩ | ⟨_,_,e⟩
  ·exact ⟨(hs.freshX p (List.mem_of_getElem? hid) x (hsub x hx)).2,.inr ⟨b,p,hid,hsub x hx⟩⟩
  ·have hx':p.has x:=.inr (k2 x (hq1 r e x hx))
   exact ⟨(hs.freshX p (List.mem_of_getElem? hid) x hx').2,.inr ⟨b,p,hid,hx'⟩⟩
  ·exact ⟨(hs.freshX r (List.mem_of_getElem? e) x hx).2,.inr ⟨k,r,e,hx⟩⟩
 obtain ⟨hi1,hi2⟩:=hs.im_stays (w':=w) (ids':=ids') (Nat.le_refl _) (fun _ _ _=>rfl) hown
 have hd:∀ (b':Nat) r,ids[b']? = some r → r ≠ .dead → ∃ q,ids'[b']? = some q ∧ likeE r q:=by
  intro b' r hr _
  have hlt:b' < ids.length:=by
   rcases Nat.lt_or_ge b' ids.length with h' | h'
   ·exact h'
   ·rw [List.getElem?_eq_none h'] at hr; cases hr
  by_cases hbb:b' = b
  ·subst hbb; rw [hid] at hr; cases hr
   exact ⟨_,get_b,p',rfl,rfl,rfl,rfl,rfl,fun _ _ h=>h⟩
  ·exact ⟨r,by rw [get_old b' hlt hbb]; exact hr,likeE_rfl r⟩
 have hmono:∀ u v,RelI (imOf c ids w) w u v → RelI (imOf c ids' w) w u v:=fun u v h=>h.mono hi1 hi2
 refine ⟨p,vs,ids',vs[i],hid,h1,Array.getElem?_eq_getElem hivs,g1,?_,hq3 _ _ _ _ (by rw [← hs.mlen]; exact get_q)⟩
 have hgq:∀ vs,q ≠ .gho vs:=fun vs e=>by
  have:=hq2 (imOf c ids w) w (fun _ _=>rfl) (fun _ _ h=>h) []
  rw [e] at this; exact this
 refine hs.goOn rfl rfl rfl (Nat.le_refl _) (fun _ _ _=>rfl) hown (fun vs h=>by
  simp only [ids'] at h
  rcases List.mem_append.1 h with h | h
  ·rcases List.mem_or_eq_of_mem_set h with h | h
   ·exact h
   ·cases h
  ·simp at h; exact absurd h.symm (hgq vs)) ?_ rfl (by simp [ids',hs.mlen]) (fun i h h'=>(hs.slots i h h').reid hi1 hi2 hd) ?_
 ·intro k k' r r' x e1 e2 x1 x2
  have inb:∀ y,q = .lv r → r.has y → p.kid y:=fun y e hy=>k2 y (hq1 r e y hy)
  rcases cases_id k r e1 with ⟨rfl,rfl⟩ | ⟨rfl,e⟩ | ⟨ne,_,e⟩ <;> rcases cases_id k' r' e2 with ⟨rfl,rfl⟩ | ⟨rfl,e'⟩ | ⟨ne',_,e'⟩
  ·rfl
  ·exfalso
   have hx:=hq1 r' e' x x2
   rcases x1 with h | h
   ·exact g3 (by rw [← h]; exact k2 x hx)
   ·exact h.2 hx
  ·exact absurd (hs.distinctX _ _ p r' x hid e' (hsub x x1) x2).symm ne'
  ·exfalso
   have hx:=hq1 r e x x1
   rcases x2 with h | h
   ·exact g3 (by rw [← h]; exact k2 x hx)
   ·exact h.2 hx
  ·rfl
  ·exact absurd (hs.distinctX _ _ p r' x hid e' (.inr (k2 x (hq1 r e x x1))) x2).symm ne'
  ·exact absurd (hs.distinctX _ _ r p x e hid x1 (hsub x x2)) ne
  ·exact absurd (hs.distinctX _ _ r p x e hid x1 (.inr (k2 x (hq1 r' e' x x2)))) ne
  ·exact hs.distinctX k k' r r' x e e' x1 x2
 ·intro k hk hk'
  simp only [List.length_append,List.length_set,List.length_singleton] at hk
  have hat:ids'[k]? = some ids'[k]:=List.getElem?_eq_getElem hk'
  rcases Nat.lt_or_ge k m.length with hkm | hkm
  ·rw [List.getElem_append_left (by simpa using hkm),List.getElem_set]
   split
   ·rename_i he; subst he
    rw [get_b] at hat
    rw [← Option.some.inj hat]
    refine ⟨g1,g2,(fun h=>g3 h.1),vs,h1,h2,h3,kb,?_⟩
    intro j hj hhole hjv
    obtain ⟨j1,j2,j3⟩:=h4 j hj (by simp) hjv
    have hji:j ≠ i:=fun e=>hhole (by rw [e])
    refine ⟨j1.mono hi1 hi2 (fun _ _=>rfl),fun x hx=>⟨j2 x hx,fun e=>?_⟩,fun j' hj' _ e1 e2=>j3 j' hj' (by simp) e1 e2⟩
    exact hji (k3 j hj (by simp) (by rw [hx,e]) (by rw [e]; simp))
   ·rename_i he
    have hki:k < ids.length:=by rw [hs.mlen]; exact hkm
    rw [get_old k hki (fun e=>he e.symm),List.getElem?_eq_getElem hki] at hat
    rw [← Option.some.inj hat]
    exact (hs.blks k hkm hki).reid hi1 hi2 hd (fun _ _ _ _=>rfl)
  ·have hq':ids'[k]? = some q:=by rw [show k = ids.length by rw [hs.mlen]; omega]; exact get_q
   rw [hq'] at hat
   rw [← Option.some.inj hat,List.getElem_append_right (by simpa using hkm)]
   simp only [List.length_set,show k - m.length = 0 by omega,List.getElem_cons_zero]
   exact hq2 _ _ (fun _ _=>rfl) hmono _

/-- An inner row is put back. -/
theorem Sim.putBack (hs:Sim c s m a w ids) {b b' i:Nat} {ty ety:TypeId} {sz n n':Nat} {len:Nat → Nat} {row:Nat → Nat → List A} {row':Nat → List A} (hb:m.getD b .dead = .nest ty ety sz n (some i) len row)
  (hb':m.getD b' .dead = .row ety sz n' row') (hne:b ≠ b') (hi:i < n) {v:Value} (hv:Rel ids (imOf c ids w) w (.own b') v) :
  ∃ p vs ids',ids[b]? = some (.lv p) ∧ w.heap[p.blk]? = some (.cells vs ty (0,0)) ∧ i < vs.size ∧ p.sz = 1 ∧
   Sim c (s.map (scr b' 4)) (((m.map (scrB b' 4)).set b (.nest ty ety sz n none (updN len i n') (updN row i row'))).set b' .dead) a (w.setRow p.blk (vs.setIfInBounds i v)) ids':=by
 obtain ⟨p,hid,hB,hbm,hbi⟩:=nest_at hs hb (by omega)
 obtain ⟨g1,g2,g3,vs,h1,h2,h3,kb,h4⟩:=hB
 have hivs:i < vs.size:=by omega
 obtain ⟨hbm',hm'⟩:=getD_some (by simp) hb'
 have hbi':b' < ids.length:=by rw [hs.mlen]; exact hbm'
 let w':=w.setRow p.blk (vs.setIfInBounds i v)
 have hsz:w'.heap.size = w.heap.size:=by simp [w',World.setRow]
 -- the inner block's name
 have hx:∃ x:Option Nat,(∀ y,x = some y → ∃ q,ids[b']? = some (.lv q) ∧ q.blk = y) ∧
   (∀ im w',(∀ y,x = some y → w'.heap[y]? = w.heap[y]?) → (∀ u v,RelI (imOf c ids w) w u v → RelI im w' u v) → Inner im w' ety sz n' row' v x):=by
  rcases own_len hs hv hb' with ⟨e1,e2,e3⟩ | ⟨q,cap,e1,e2,e3,e4,e5,e6⟩
  ·exact ⟨none,(fun y h=>by cases h),fun _ _ _ _=>.inl ⟨e2,e1,rfl⟩⟩
  ·have hB':=hs.blks b' hbm' hbi'
   rw [List.getElem?_eq_getElem hbi'] at e1
   rw [hm',Option.some.inj e1] at hB'
   obtain ⟨q1,q2,us,q3,q4,q5,q6,q7⟩:=hB'
   refine ⟨some q.blk,(fun y h=>by cases h; exact ⟨q,by rw [List.getElem?_eq_getElem hbi']; exact e1,rfl⟩),fun im w' hk hm=>.inr ⟨q.blk,cap,us,e6,rfl,by rw [hk _ rfl]; exact q3,by rw [q4,e3],e2.1,e2.2,q6,fun i' j hi' h h'=>⟨hm _ _ (q7 i' j hi' h h').1,(q7 i' j hi' h h').2⟩⟩⟩
 obtain ⟨x,hx1,hx2⟩:=hx
 let p':Id:=⟨p.blk,p.k,p.n,p.sz,fun y=>p.kid y ∨ x = some y,p.hist⟩
 have hsub:∀ y,p'.has y → p.has y ∨ x = some y:=by
  rintro y (h | h | h)
  ·exact .inl (.inl h)
  ·exact .inl (.inr h)
  ·exact .inr h
 let ids':=(ids.set b (.lv p')).set b' .dead
 have hl':ids'.length = ids.length:=by simp [ids']
 have get_old:∀ k,k ≠ b → k ≠ b' → ids'[k]? = ids[k]?:=by
  intro k h1 h2
  simp only [ids']
  rw [List.getElem?_set_ne (fun e=>h2 e.symm),List.getElem?_set_ne (fun e=>h1 e.symm)]
 have get_b:ids'[b]? = some (.lv p'):=by
  simp only [ids']
  rw [List.getElem?_set_ne (fun e=>hne e.symm),List.getElem?_set_self hbi]
 have get_b':ids'[b']? = some .dead:=by
  simp only [ids']
  rw [List.getElem?_set_self (by simpa using hbi')]
 have cases_id:∀ (k:Nat) (r:Id),ids'[k]? = some (.lv r) → (k = b ∧ r = p') ∨ (k ≠ b ∧ k ≠ b' ∧ ids[k]? = some (.lv r)):=by
  intro k r h
  by_cases hkb:k = b
  ·subst hkb; rw [get_b] at h; cases h; exact .inl ⟨rfl,rfl⟩
  ·by_cases hkb':k = b'
   ·subst hkb'; rw [get_b'] at h; cases h
   ·rw [get_old k hkb hkb'] at h; exact .inr ⟨hkb,hkb',h⟩
 have hown:∀ r,IdE.lv r ∈ ids' → ∀ y,r.has y → y < w'.heap.size ∧ (w.heap.size ≤ y ∨ ∃ (b:Nat) (p:Id),ids[b]? = some (.lv p) ∧ p.has y):=by
  intro r hr y hy
  rw [hsz]
  obtain ⟨k,hk⟩:=List.getElem?_of_mem hr
  rcases cases_id k r hk with ⟨_,rfl⟩ | ⟨_,_,e⟩
  ·rcases hsub y hy with h | h
   ·exact ⟨(hs.freshX p (List.mem_of_getElem? hid) y h).2,.inr ⟨b,p,hid,h⟩⟩
   ·obtain ⟨q,q1,q2⟩:=hx1 y h
    have:q.has y:=.inl q2.symm
    exact ⟨(hs.freshX q (List.mem_of_getElem? q1) y this).2,.inr ⟨b',q,q1,this⟩⟩
  ·exact ⟨(hs.freshX r (List.mem_of_getElem? e) y hy).2,.inr ⟨k,r,e,hy⟩⟩
 have hbl:∀ k,k < w.heap.size → (∀ (b:Nat) (p:Id),ids[b]? = some (.lv p) → ¬ p.has k) → w'.heap[k]? = w.heap[k]?:=by
  intro k _ hk
  exact setRow_other w p.blk k _ (fun e=>hk b p hid (.inl e))
 obtain ⟨hi1,hi2⟩:=hs.im_stays (w':=w') (ids':=ids') (by rw [hsz]; exact Nat.le_refl _) hbl hown
 have hd:∀ (k:Nat) r,k ≠ b' → ids[k]? = some r → r ≠ .dead → ∃ q,ids'[k]? = some q ∧ likeE r q:=by
  intro k r hk hr _
  by_cases hbb:k = b
  ·subst hbb; rw [hid] at hr; cases hr
   exact ⟨_,get_b,p',rfl,rfl,rfl,rfl,rfl,fun _ _ h=>h⟩
  ·exact ⟨r,by rw [get_old k hbb hk]; exact hr,likeE_rfl r⟩
 have hmono:∀ u v,RelI (imOf c ids w) w u v → RelI (imOf c ids' w') w' u v:=fun u v h=>h.mono hi1 hi2
 have hpb:∀ (k:Nat) (r:Id) y,ids[k]? = some (.lv r) → k ≠ b → r.has y → w'.heap[y]? = w.heap[y]?:=by
  intro k r y hr hk hy
  refine setRow_other w p.blk y _ (fun e=>hk ?_)
  exact hs.distinctX k b r p y hr hid hy (.inl e)
 refine ⟨p,vs,ids',hid,h1,hivs,g1,?_⟩
 refine hs.goOn rfl rfl rfl (by show w.heap.size ≤ w'.heap.size; rw [hsz]; exact Nat.le_refl _) hbl hown (fun vs h=>by
  simp only [ids'] at h
  rcases List.mem_or_eq_of_mem_set h with h | h
  ·rcases List.mem_or_eq_of_mem_set h with h | h
   ·exact h
   ·cases h
  ·cases h) ?_ (by simp) (by simp [ids',hs.mlen]) ?_ ?_
 ·intro k k' r r' y e1 e2 x1 x2
  rcases cases_id k r e1 with ⟨rfl,rfl⟩ | ⟨ne,ne2,e⟩ <;> rcases cases_id k' r' e2 with ⟨rfl,rfl⟩ | ⟨ne',ne2',e'⟩
  ·rfl
  ·rcases hsub y x1 with h | h
   ·exact absurd (hs.distinctX _ _ p r' y hid e' h x2).symm ne'
   ·obtain ⟨q,q1,q2⟩:=hx1 y h
    exact absurd (hs.distinctX _ _ q r' y q1 e' (.inl q2.symm) x2).symm ne2'
  ·rcases hsub y x2 with h | h
   ·exact absurd (hs.distinctX _ _ r p y e hid x1 h) ne
   ·obtain ⟨q,q1,q2⟩:=hx1 y h
    exact absurd (hs.distinctX _ _ r q y e q1 x1 (.inl q2.symm)) ne2
  ·exact hs.distinctX k k' r r' y e e' x1 x2
 ·intro k h h'
  rw [List.getElem_map]
  exact scr_reid hi1 hi2 hd 4 _ _ (hs.slots k (by simpa using h) h')
 ·intro k hk hk'
  have hat:ids'[k]? = some ids'[k]:=List.getElem?_eq_getElem hk'
  simp only [List.length_set,List.length_map] at hk
  rw [List.getElem_set]
  split
  ·rename_i he; subst he
   rw [get_b'] at hat
   rw [← Option.some.inj hat]; exact rfl
  ·rename_i he
   rw [List.getElem_set]
   split
   ·rename_i he2; subst he2
    rw [get_b] at hat
    rw [← Option.some.inj hat]
    have hv2:∀ j (h:j < (vs.setIfInBounds i v).size) (h':j < vs.size),(vs.setIfInBounds i v)[j] = if i = j then v else vs[j]:=by
     intro j h h'; rw [Array.getElem_setIfInBounds]
    have hkey:∀ y,x = some y → w'.heap[y]? = w.heap[y]?:=by
     intro y hy
     obtain ⟨q,q1,q2⟩:=hx1 y hy
     exact hpb b' q y q1 (fun e=>hne e.symm) (.inl q2.symm)
    have hpk:∀ y,p.kid y → w'.heap[y]? = w.heap[y]?:=by
     intro y hy
     exact setRow_other w p.blk y _ (fun e=>g3 (by rw [← e]; exact hy))
    refine ⟨g1,g2,?_,vs.setIfInBounds i v,setRow_heap w p.blk vs _ ty _ h1,by simp [h2]; rfl,h3,updN kb i x,?_⟩
    ·rintro (h | h)
     ·exact g3 h
     ·obtain ⟨q,q1,q2⟩:=hx1 _ h
      exact hne (hs.distinctX b b' p q p.blk hid q1 (.inl rfl) (.inl q2.symm))
    ·intro j hj _ hjv
     have hjv':j < vs.size:=by simpa using hjv
     rw [hv2 j hjv hjv']
     by_cases hji:j = i
     ·subst hji
      rw [if_pos rfl]
      simp only [updN,if_pos]
      refine ⟨hx2 _ _ hkey hmono,(fun y hy=>.inr hy),?_⟩
      intro j' hj' _ e1 e2
      by_cases hjj:j' = j
      ·exact hjj
      ·exfalso
       rw [if_neg hjj] at e1
       cases hxx:x with
       | none=>exact e2 hxx
       | some y =>
        have hj'v:j' < vs.size:=by omega
        obtain ⟨_,k2,_⟩:=h4 j' hj' (by simp; exact fun e=>hjj e.symm) hj'v
        obtain ⟨q,q1,q2⟩:=hx1 y hxx
        exact hne (hs.distinctX b b' p q y hid q1 (.inr (k2 y (by rw [e1,hxx]))) (.inl q2.symm))
     ·rw [if_neg (fun e=>hji e.symm)]
      simp only [updN,if_neg hji]
      obtain ⟨k1,k2,k3⟩:=h4 j hj (by simp; exact fun e=>hji e.symm) hjv'
      refine ⟨k1.mono hi1 hi2 (fun y hy=>hpk y (k2 y hy)),(fun y hy=>.inl (k2 y hy)),?_⟩
      intro j' hj' _ e1 e2
      by_cases hjj:j' = i
      ·exfalso
       subst hjj
       rw [if_pos rfl] at e1
       cases hxx:x with
       | none=>rw [hxx] at e1; exact e2 e1.symm
       | some y =>
        obtain ⟨q,q1,q2⟩:=hx1 y hxx
        exact hne (hs.distinctX b b' p q y hid q1 (.inr (k2 y (by rw [← e1,hxx]))) (.inl q2.symm))
      ·rw [if_neg hjj] at e1
       exact k3 j' hj' (by simp; exact fun e=>hjj e.symm) e1 e2
   ·rename_i he2
    have hkm:k < m.length:=hk
    have hki:k < ids.length:=by rw [hs.mlen]; exact hkm
    rw [get_old k (fun e=>he2 e.symm) (fun e=>he e.symm),List.getElem?_eq_getElem hki] at hat
    rw [← Option.some.inj hat,List.getElem_map]
    refine (hs.blks k hkm hki).rescr hi1 hi2 hd 4 ?_
    intro q hq y hy
    exact hpb k q y (by rw [List.getElem?_eq_getElem hki,hq]) (fun e=>he2 e.symm) hy
end
end Go.Proofs.YtmeohhbdkoeadaaGreat.Am
namespace Go.Proofs.YtmeohhbdkoeadaaGreat.Am
variable [Inhabited DRT]
open Go.RowKit (Below)
section
variable {c:Ctx} {s:List A} {m:List Blk} {a:Act} {w w':World} {ids ids':Ids} {P:Program} {im im':Nat → Prop} {tt:TT} {G:GInv}
variable {next:Act → World → Prop} {Q:Exit → Act → World → Prop} {o:Oper}

theorem set_take (vs:Array Value) (i:Nat) (v:Value) (h:i < vs.size):(vs.toList.take i ++ [v] ++ vs.toList.drop (i + [v].length)).toArray = vs.setIfInBounds i v:=by
 apply Array.ext'
 simp only [List.length_singleton,Array.toList_setIfInBounds]
 rw [List.set_eq_take_append_cons_drop,if_pos (by simpa using h)]
 simp

theorem stepN_sound (htt:TTok P tt) (hG:G.ok c) (hs:Sim c s m a w ids) {K:List A → A → List Blk → Prop} (h:stepN P G tt o s m K)
  (hn:∀ s1 v m' a' w' ids',K s1 v m' → Sim c (putD s1 o.dst v) m' a' w' ids' → next a' w'):o.wp P a w next Q:=by
 unfold stepN at h
 split at h
 ·rename_i t X Y ho
  split at h
  ·rename_i b hX
   split at h
   ·rename_i ty ety sz n hole len row hb
    split at h
    ·rename_i ti kk ix hti hY
     split at h
     ·rename_i hk he
      obtain ⟨h01,h⟩:=h
      obtain ⟨i,d,z,hi,hd,_,_,_,_,_,_,_,_,hk2,hk3,_⟩:=htt.facts hti
      obtain ⟨ie,ze,hde,hie,hesz,_⟩:=hk3 hk
      subst hde
      have hx:=hs.ev X
      have hy:=hs.ev Y
      rw [hX] at hx
      rw [hY] at hy
      obtain ⟨p,hid,hB,_,_⟩:=nest_at hs hb (by omega)
      obtain ⟨g1,g2,g3,vs,h1,h2,h3,kb,h4⟩:=hB
      have e:execOp a.eval o = (do let z ← Instr.indexAt t (a.eval X) (a.eval Y); pure (.value z)):=by unfold execOp; rw [ho]
      have hesz1:ti.esz = 1:=Nat.eq_of_beq_eq_true he
      rcases hs.own_at hx (by rw [hb]; simp) with ⟨q1,_⟩ | ⟨p',cap,q1,q2,q3,q4⟩
      ·rw [hid] at q1; cases q1
      ·rw [hid] at q1; cases q1
       refine wp_of_run (v:=.pointer (some ⟨p.blk,0 + ix.toNat * 1,none⟩)) (w':=w) ?_ (hn s _ m _ _ ids h (hs.putD o.dst ?_))
       ·rw [e,q4,hy.int_inv,g2]
        simp [Instr.indexAt,asIntOf,underlying,hd,h01.1,h01.2,sizeOf,typeInfo,hie,hesz,hesz1,addr_add]
       ·have:=Rel.oref (ids:=ids) (im:=imOf c ids w) (w:=w) b ix.toNat 0 p hid
        rw [g1] at this; simpa using this
     ·exact h.elim
    ·exact h.elim
   ·exact stepS_sound htt hG hs h hn
  ·exact stepS_sound htt hG hs h hn
 ·rename_i t X ho
  split at h
  ·rename_i b i off hX
   split at h
   ·rename_i ty ety sz n hole len row hb
    split at h
    ·unfold sTake at h
     split at h
     ·exact h.elim
     ·rename_i ti hti
      split at h
      ·rename_i hk he1 he2
       obtain ⟨hin,h⟩:=h
       rw [setB_eq,pushB_eq] at h
       obtain ⟨i0,d,z,hi,hd,_,_,_,_,_,hag,_,_,hk2,hk3,_⟩:=htt.facts hti
       obtain ⟨ie,ze,hde,hie,hesz,_⟩:=hk3 hk
       subst hde
       obtain ⟨p,vs,ids',v,q1,q2,q3,q4,q5,q6⟩:=hs.take hb hin
       have hx:=hs.ev X
       rw [hX] at hx
       obtain ⟨p',r1,r2⟩:=hs.oref_at hx (by rw [hb]; simp)
       rw [q1] at r1; cases r1
       have hc:w.cell? ⟨p.blk,i * p.sz + 0,none⟩ = some v:=by
        rw [q4,cell_of_row w p.blk _ vs ty (0,0) q2]; simpa using q3
       have hrun:=run_loadVar_one (P:=P) (w:=w) hd (by rfl) p.blk (i * p.sz + 0) v hc
       refine wp_of_run (v:=v) (w':=w) ?_ (hn s _ _ _ _ ids' h (q5.putD o.dst ?_))
       ·have e1:execOp a.eval o = (do let z ← loadVar t ⟨p.blk,i * p.sz + 0,none⟩; pure (.value z)):=by
         unfold execOp; rw [ho]; simp only [r2]; rfl
        rw [e1]; simp at hrun; simp [hrun]
       ·simpa using q6
      ·exact h.elim
    ·exact h.elim
   ·exact stepS_sound htt hG hs h hn
  ·exact stepS_sound htt hG hs h hn
 ·rename_i t X Y ho
  split at h
  ·rename_i b i off hX
   split at h
   ·rename_i ty ety sz n hole len row hb
    split at h
    ·rename_i b' ti hY hti
     split at h
     ·rename_i hsz1
      have hsz1:ti.size = 1:=Nat.eq_of_beq_eq_true hsz1
      unfold sPutB at h
      split at h
      ·rename_i j ety' sz' n' row' hb' hbb
       split at h
       ·rename_i he1 he2
        have he1:=Nat.eq_of_beq_eq_true he1
        have he2:=Nat.eq_of_beq_eq_true he2
        subst he1; subst he2
        obtain ⟨⟨hij,hin⟩,h⟩:=h
        subst hij
        rw [fdl_eq,fbs_eq] at h
        have hne:b ≠ b':=fun e=>by subst e; rw [Nat.beq_refl] at hbb; cases hbb
        have hx:=hs.ev X
        have hy:=hs.ev Y
        rw [hX] at hx; rw [hY] at hy
        obtain ⟨i0,d,z,hi,hd,_,hsz0,_⟩:=htt.facts hti
        obtain ⟨p,vs,ids',q1,q2,q3,q4,q5⟩:=hs.putBack hb hb' hne hin hy
        obtain ⟨p',r1,r2⟩:=hs.oref_at hx (by rw [hb]; simp)
        rw [q1] at r1; cases r1
        obtain ⟨o1,o2⟩:=one_rel (by rfl) hy
        have hst:=run_storeVar (P:=P) (w:=w) hi p.blk (i * p.sz + 0) ty vs (a.eval Y) [a.eval Y] o2 (by rw [hsz0,hsz1]; rfl) (by intro u hu; rw [List.mem_singleton.1 hu]; exact o1) q2 (by rw [q4]; simp; omega)
        rw [q4] at hst
        simp only [Nat.mul_one,Nat.add_zero] at hst
        rw [set_take vs i _ q3] at hst
        refine wp_of_skip (w':=w.setRow p.blk (vs.setIfInBounds i (a.eval Y))) ?_ (hn _ _ _ _ _ ids' h (q5.junk_put o.dst _))
        have e1:execOp a.eval o = (do storeVar t ⟨p.blk,i * p.sz + 0,none⟩ (a.eval Y); pure .skip):=by
         unfold execOp; rw [ho]; simp only [r2]; rfl
        rw [e1,q4]; simp [hst]
       ·exact h.elim
      ·exact h.elim
     ·exact h.elim
    ·exact h.elim
   ·exact stepS_sound htt hG hs h hn
  ·exact stepS_sound htt hG hs h hn
 ·exact stepS_sound htt hG hs h hn
end
end Go.Proofs.YtmeohhbdkoeadaaGreat.Am
namespace Go.Proofs.YtmeohhbdkoeadaaGreat.Am
variable [Inhabited DRT]
open Go.RowKit (Below)

/-! ### Names of blocks that are renamed -/
structure Ren where
 r:Nat → Option Nat
 o:Nat → Option Nat
 m:Nat → Option Nat
def renA (τ : Ren):Nat → A → A
 | 0,_=>.junk
 | d + 1,x=>match x with
  | .ref b o=>match τ.r b with
   | some b'=>.ref b' o
   | none=>.junk
  | .oref b i o=>match τ.o b with
   | some b'=>.oref b' i o
   | none=>.junk
  | .own b=>match τ.o b with
   | some b'=>.own b'
   | none=>.junk
  | .omap b=>match τ.m b with
   | some b'=>.omap b'
   | none=>.junk
  | .ent _ _=>.junk
  | .osl _ _=>.junk
  | .agg cs=>.agg (cs.map (renA τ d))
  | .tup cs=>.tup (cs.map (renA τ d))
  | .fn f cs=>.fn f (cs.map (renA τ d))
  | x=>x
def renB (τ : Ren) (d:Nat):Blk → Blk
 | .box ty cs=>.box ty (cs.map (renA τ d))
 | .ghost cs=>.ghost (cs.map (renA τ d))
 | x=>x
/-- What a renaming must keep. -/
structure RenOk (τ : Ren) (ids ids':Ids):Prop where
 r:∀ b b' p,τ.r b = some b' → ids[b]? = some (.lv p) → ∃ p',ids'[b']? = some (.lv p') ∧ p'.blk = p.blk
 o:∀ b b' p,τ.o b = some b' → ids[b]? = some p → p ≠ .dead → ∃ q,ids'[b']? = some q ∧ likeE0 p q
 m:∀ b b' p,τ.m b = some b' → ids[b]? = some (.lv p) → ∃ p',ids'[b']? = some (.lv p') ∧ p'.blk = p.blk
 rs:∀ b b',τ.r b = some b' → ids[b]? = some .stale → ids'[b']? = some .stale
 ms:∀ b b',τ.m b = some b' → ids[b]? = some .stale → ids'[b']? = some .stale

section
variable {c:Ctx} {s:List A} {m:List Blk} {a:Act} {w w':World} {ids ids':Ids} {P:Program} {im im':Nat → Prop} {tt:TT} {G:GInv}

theorem renA_rel {τ : Ren} (hi:∀ b,im b → im' b) (hw:∀ b,im b → w'.heap[b]? = w.heap[b]?) (ht:RenOk τ ids ids') :
  ∀ (d:Nat) (x:A) (v:Value),Rel ids im w x v → Rel ids' im' w' (renA τ d x) v
 | 0,x,v,_=>.imm (.junk _)
 | d + 1,x,v,h=>by
  have keep:∀ y,RelI im w y v → Rel ids' im' w' y v:=fun y hy=>.imm (hy.mono hi hw)
  cases x with
  | ref b o =>
   simp only [renA]
   split
   ·rename_i b' hb
    rcases h.ref_inv with ⟨p,h1,rfl⟩ | ⟨h1,x,y,rfl⟩
    rotate_left
    ·exact .refS _ _ x y (ht.rs _ _ hb h1)
    obtain ⟨p',h2,h3⟩:=ht.r _ _ _ hb h1
    rw [← h3]; exact .ref _ _ p' h2
   ·exact .imm (.junk _)
  | oref b i o =>
   simp only [renA]
   split
   ·rename_i b' hb
    rcases h.oref_inv with ⟨p,h1,rfl⟩ | ⟨h1,x,y,rfl⟩
    rotate_left
    ·obtain ⟨q,h4,h5⟩:=ht.o _ _ _ hb h1 (by simp)
     have h5:q = .stale:=h5
     subst h5
     exact .orefS _ _ _ x y h4
    obtain ⟨q,h2,p',rfl,h3⟩:=ht.o _ _ _ hb h1 (by simp)
    rw [← h3.1,← h3.2.2.2]; exact .oref _ _ _ p' h2
   ·exact .imm (.junk _)
  | own b =>
   simp only [renA]
   split
   ·rename_i b' hb
    rcases h.own_inv with ⟨h1,rfl⟩ | ⟨p,cap,h1,h2,h3,rfl⟩ | ⟨h1,x,n,cap,rfl⟩
    ·obtain ⟨q,h4,h5⟩:=ht.o _ _ _ hb h1 (by simp)
     have h5:q = .virt:=h5
     subst h5
     exact .own0 _ h4
    ·obtain ⟨q,h4,p',rfl,h5⟩:=ht.o _ _ _ hb h1 (by simp)
     rw [← h5.1,← h5.2.2.1]
     exact .own _ cap p' h4 (by rw [h5.2.2.1]; exact h2) (by rw [h5.2.1,h5.2.2.2]; exact h3)
    ·obtain ⟨q,h4,h5⟩:=ht.o _ _ _ hb h1 (by simp)
     have h5:q = .stale:=h5
     subst h5
     exact .ownS _ x n cap h4
   ·exact .imm (.junk _)
  | omap b =>
   simp only [renA]
   split
   ·rename_i b' hb
    rcases h.omap_inv with ⟨p,h1,rfl⟩ | ⟨h1,x,rfl⟩
    rotate_left
    ·exact .omapS _ x (ht.ms _ _ hb h1)
    obtain ⟨p',h2,h3⟩:=ht.m _ _ _ hb h1
    rw [← h3]; exact .omap _ p' h2
   ·exact .imm (.junk _)
  | agg cs =>
   obtain ⟨vs,rfl,hl,ho,hr⟩:=h.agg_inv
   exact .agg _ vs (by simpa using hl) ho (fun j h h'=>by rw [List.getElem_map]; exact renA_rel hi hw ht d _ _ (hr j (by simpa using h) h'))
  | tup cs =>
   obtain ⟨vs,rfl,hl,hr⟩:=h.tup_inv
   exact .tup _ vs (by simpa using hl) (fun j h h'=>by rw [List.getElem_map]; exact renA_rel hi hw ht d _ _ (hr j (by simpa using h) h'))
  | fn f cs =>
   obtain ⟨vs,rfl,hl,hr⟩:=h.fn_inv
   exact .fn f _ vs (by simpa using hl) (fun j h h'=>by rw [List.getElem_map]; exact renA_rel hi hw ht d _ _ (hr j (by simpa using h) h'))
  | int k n=>cases h with | imm h=>exact keep _ h
  | bool k=>cases h with | imm h=>exact keep _ h
  | sb k=>cases h with | imm h=>exact keep _ h
  | str k=>cases h with | imm h=>exact keep _ h
  | nilp=>cases h with | imm h=>exact keep _ h
  | bref cs off=>cases h with | imm h=>exact keep _ h
  | nils=>cases h with | imm h=>exact keep _ h
  | sl n sz row=>cases h with | imm h=>exact keep _ h
  | nilfn=>cases h with | imm h=>exact keep _ h
  | nilm=>cases h with | imm h=>exact keep _ h
  | mv g n k v=>cases h with | imm h=>exact keep _ h
  | junk=>exact .imm (.junk _)
  | ent=>exact .imm (.junk _)
  | osl=>exact .imm (.junk _)

theorem renB_rel {τ : Ren} (hi:∀ b,im b → im' b) (hw:∀ b,im b → w'.heap[b]? = w.heap[b]?) (ht:RenOk τ ids ids') (d:Nat)
  {x:Blk} {p:IdE} (hp:∀ q,p = .lv q → ∀ k,q.has k → w'.heap[k]? = w.heap[k]?) (h:BRel ids im w x p):BRel ids' im' w' (renB τ d x) p:=by
 cases x with
 | box ty cs =>
  cases p with
  | dead=>exact h
  | stale=>exact h
  | virt=>exact h
  | gho vs=>exact h
  | lv q =>
   obtain ⟨vs,h1,h2,h3,h4⟩:=h
   refine ⟨vs,by rw [hp _ rfl _ (.inl rfl)]; exact h1,h2,by simpa using h3,fun j h h'=>?_⟩
   rw [List.getElem_map]
   exact ⟨renA_rel hi hw ht d _ _ (h4 j (by simpa using h) h').1,(h4 j (by simpa using h) h').2⟩
 | ghost cs =>
  cases p with
  | dead=>exact h
  | stale=>exact h
  | virt=>exact h
  | lv q=>exact h
  | gho vs =>
   refine ⟨by simpa using h.1,fun j h1 h2=>?_⟩
   rw [List.getElem_map]
   exact renA_rel hi hw ht d _ _ (h.2 j (by simpa using h1) h2)
 | dead=>exact h
 | gone=>exact h
 | row ty sz n row=>have h:=BRel.mono (ids:=ids) (ids':=ids) hi hw (fun _ _ h _=>h) hp h; cases p <;> exact h
 | nest ty ety sz n ho le row=>have h:=BRel.mono (ids:=ids) (ids':=ids) hi hw (fun _ _ h _=>h) hp h; cases p <;> exact h
 | mapb g n k v=>have h:=BRel.mono (ids:=ids) (ids':=ids) hi hw (fun _ _ h _=>h) hp h; cases p <;> exact h
 | mapx g n k v=>have h:=BRel.mono (ids:=ids) (ids':=ids) hi hw (fun _ _ h _=>h) hp h; cases p <;> exact h
end

/-! ### Many places set at once -/
def setMany {α : Type}:List Nat → List α → List α → List α
 | b :: bs,x :: xs,m=>setMany bs xs (m.set b x)
 | _,_,m=>m
theorem setMany_len {α : Type}:∀ (ρ : List Nat) (xs m:List α),(setMany ρ xs m).length = m.length
 | [],xs,m=>by cases xs <;> rfl
 | b :: bs,[],m=>rfl
 | b :: bs,x :: xs,m=>by rw [setMany,setMany_len bs xs]; simp
theorem setMany_ne {α : Type}:∀ (ρ : List Nat) (xs m:List α) (b:Nat),b ∉ ρ → (setMany ρ xs m)[b]? = m[b]?
 | [],xs,m,b,_=>by cases xs <;> rfl
 | b' :: bs,[],m,b,_=>rfl
 | b' :: bs,x :: xs,m,b,h=>by
  rw [setMany,setMany_ne bs xs _ b (fun h'=>h (by simp [h'])),List.getElem?_set_ne (fun e=>h (by simp [e]))]
theorem setMany_at {α : Type}:∀ (ρ : List Nat) (xs m:List α) (k b:Nat) (x : α),ρ.Nodup → ρ[k]? = some b → xs[k]? = some x → b < m.length → (setMany ρ xs m)[b]? = some x
 | [],xs,m,k,b,x,_,h,_,_=>by simp at h
 | b' :: bs,[],m,k,b,x,_,_,h,_=>by simp at h
 | b' :: bs,y :: xs,m,k,b,x,hn,h1,h2,hb=>by
  rw [setMany]
  cases k with
  | zero =>
   simp at h1 h2
   subst h1; subst h2
   rw [setMany_ne _ _ _ _ (List.nodup_cons.1 hn).1,List.getElem?_set_self hb]
  | succ k=>exact setMany_at bs xs _ k b x (List.nodup_cons.1 hn).2 (by simpa using h1) (by simpa using h2) (by simpa using hb)

/-! ### What a call is handed -/
def posN:List Nat → Nat → Nat → Option Nat
 | [],_,_=>none
 | x :: xs,k,b=>match Nat.beq b x with
  | true=>some k
  | false=>posN xs (k + 1) b
theorem posN_some:∀ (l:List Nat) (k b j:Nat),posN l k b = some j → k ≤ j ∧ l[j - k]? = some b
 | [],k,b,j,h=>by simp [posN] at h
 | x :: xs,k,b,j,h=>by
  unfold posN at h
  split at h
  ·rename_i e
   cases h
   have:=Nat.eq_of_beq_eq_true e
   subst this
   simp
  ·obtain ⟨h1,h2⟩:=posN_some xs (k + 1) b j h
   refine ⟨by omega,?_⟩
   rw [show j - k = (j - (k + 1)) + 1 by omega]
   simpa using h2
theorem posN_none:∀ (l:List Nat) (k b:Nat),posN l k b = none → b ∉ l
 | [],_,_,_=>by simp
 | x :: xs,k,b,h=>by
  unfold posN at h
  split at h
  ·cases h
  ·rename_i e
   have:=posN_none xs (k + 1) b h
   simp only [List.mem_cons,not_or]
   exact ⟨fun e'=>by subst e'; simp at e,this⟩
def reach (m:List Blk):Nat → A → List Nat
 | 0,_=>[]
 | d + 1,x=>match x with
  | .ref b _=>b :: match m.getD b .dead with
   | .box _ cs=>(cs.map (reach m d)).flatten
   | _=>[]
  | .oref b _ _=>[b]
  | .own b=>[b]
  | .omap b=>[b]
  | .agg cs=>(cs.map (reach m d)).flatten
  | .tup cs=>(cs.map (reach m d)).flatten
  | .fn _ cs=>(cs.map (reach m d)).flatten
  | _=>[]
def ddN:List Nat → List Nat → List Nat
 | _,[]=>[]
 | acc,x :: xs=>match memN0 x acc with
  | true=>ddN acc xs
  | false=>x :: ddN (x :: acc) xs
where memN0 (i:Nat):List Nat → Bool
 | []=>false
 | j :: js=>match Nat.beq i j with
  | true=>true
  | false=>memN0 i js
def fNL:List Nat → (List Nat → Prop) → Prop
 | [],K=>K []
 | x :: xs,K=>fnat x fun y=>fNL xs fun ys=>K (y :: ys)
theorem fNL_eq:∀ (l:List Nat) (K:List Nat → Prop),fNL l K = K l
 | [],_=>rfl
 | x :: xs,K=>by simp only [fNL,fnat_eq,fNL_eq xs]
def nodupB:List Nat → Bool
 | []=>true
 | x :: xs=>match ddN.memN0 x xs with
  | true=>false
  | false=>nodupB xs
theorem memN0_iff {i:Nat}:∀ {l:List Nat},ddN.memN0 i l = true ↔ i ∈ l
 | []=>by simp [ddN.memN0]
 | x :: xs=>by
  unfold ddN.memN0
  split
  ·rename_i h; have:=Nat.eq_of_beq_eq_true h; simp [this]
  ·rename_i h
   have hne:i ≠ x:=fun e=>by subst e; simp at h
   simp [hne,memN0_iff (l:=xs)]
theorem nodupB_sound:∀ {l:List Nat},nodupB l = true → l.Nodup
 | [],_=>List.nodup_nil
 | x :: xs,h=>by
  unfold nodupB at h
  split at h
  ·cases h
  ·rename_i hn
   refine List.nodup_cons.2 ⟨fun hm=>?_,nodupB_sound h⟩
   rw [memN0_iff.2 hm] at hn; cases hn
def handable:Blk → Bool
 | .box _ _=>true
 | .row _ _ _ _=>true
 | .nest _ _ _ _ _ _ _=>true
 | .mapb _ _ _ _=>true
 | _=>false
def okR (m:List Blk):List Nat → Bool
 | []=>true
 | b :: bs=>match handable (m.getD b .dead) with
  | true=>okR m bs
  | false=>false
theorem okR_sound {m:List Blk}:∀ {l:List Nat},okR m l = true → ∀ b ∈ l,handable (m.getD b .dead) = true ∧ b < m.length
 | [],_,b,hb=>by simp at hb
 | x :: xs,h,b,hb=>by
  unfold okR at h
  split at h
  ·rename_i hx
   rcases List.mem_cons.1 hb with rfl | hb
   ·refine ⟨hx,?_⟩
    rcases Nat.lt_or_ge b m.length with h' | h'
    ·exact h'
    ·rw [List.getD_eq_getElem?_getD,List.getElem?_eq_none h'] at hx; simp [handable] at hx
   ·exact okR_sound h b hb
  ·cases h
/-- The names that are watched: rows that are handed as they are, and all boxes and maps. -/
def ghA:A → A
 | .own b=>.own b
 | _=>.junk
def ghB (m:List Blk):Nat → List Nat → List A
 | _,[]=>[]
 | k,b :: bs=>(match m.getD b .dead with
  | .box _ _=>.ref k 0
  | .mapb _ _ _ _=>.omap k
  | _=>.junk) :: ghB m (k + 1) bs
abbrev renAll (f:Nat → Option Nat):Ren:=⟨f,f,f⟩
def backN (ρ : List Nat) (M:Nat):Nat → Option Nat
 | 0=>none
 | j + 1=>match Nat.blt j ρ.length with
  | true=>some (ρ.getD j 0)
  | false=>some (M + (j - ρ.length))
def keepR (ρ : List Nat) (go:List A) (n:Nat) (b:Nat):Option Nat :=
 match posN ρ 0 b with
 | none=>some b
 | some k=>match go.getD (n + k) .junk with
  | .ref k' o=>match Nat.beq k' (k + 1),o with
   | true,0=>some b
   | _,_=>none
  | _=>none
def keepM (ρ : List Nat) (go:List A) (n:Nat) (b:Nat):Option Nat :=
 match posN ρ 0 b with
 | none=>some b
 | some k=>match go.getD (n + k) .junk with
  | .omap k'=>match Nat.beq k' (k + 1) with
   | true=>some b
   | false=>none
  | _=>none
def anyOwn (k:Nat):List A → List A → Bool
 | .own b :: as,g :: gs=>match Nat.beq b k,g with
  | true,.own b'=>match Nat.beq b' k with
   | true=>true
   | false=>anyOwn k as gs
  | _,_=>anyOwn k as gs
 | _ :: as,_ :: gs=>anyOwn k as gs
 | _,_=>false
def sameSz (x y:Blk):Bool :=
 match x,y with
 | .row _ sz _ _,.row _ sz' _ _=>Nat.beq sz sz'
 | .nest _ _ _ _ _ _ _,.nest _ _ _ _ _ _ _=>true
 | _,_=>false
def keepO (ρ : List Nat) (as go:List A) (m mo:List Blk) (b:Nat):Option Nat :=
 match posN ρ 0 b with
 | none=>some b
 | some k=>match anyOwn (k + 1) as go,sameSz (m.getD b .dead) (mo.getD k .dead) with
  | true,true=>some b
  | _,_=>none
def noGhost:List Blk → Bool
 | []=>true
 | .ghost _ :: _=>false
 | .gone :: _=>false
 | _ :: xs=>noGhost xs

def muOf (ids:Ids):Nat → Prop:=fun x=>∃ p,IdE.lv p ∈ ids ∧ p.has x
/-- A function that is handed blocks, and hands some back. -/
def MCalls (P:Program) (G:GInv) (f:FuncId) (args:List A) (mi:List Blk) (r:A) (mo:List Blk):Prop :=
 (∃ fn cd, P.funcs[f]? = some fn ∧ fn.body = some cd ∧ (fn.name == "runtime.NumGoroutine") = false) ∧
 ∀ (im:Nat → Prop) (w:World) (vs gs:List Value) (ids:Ids),G.ok ⟨w,im,muOf ids,gs⟩ → Sim ⟨w,im,muOf ids,gs⟩ args mi ⟨vs.toArray,[]⟩ w ids →
  Calls P f vs.toArray w fun e w'=>∃ v ids',e = .returned v ∧ Sim ⟨w,im,muOf ids,gs⟩ [r] mo ⟨#[v],[]⟩ w' ids'
def sCallM (P:Program) (G:GInv) (f:A) (args:List A) (s:List A) (m:List Blk) (K:List A → A → List Blk → Prop):Prop :=
 match f with
 | .fn g cap=>fd.fdl 4 (args ++ cap) fun as=>fNL (ddN [] ((as.map (reach m 8)).flatten)) fun ρ=>match okR m ρ,nodupB ρ with
  | true,true=>fd.fdl 4 (as.map (renA (renAll (posN ρ 1)) 4)) fun as' =>
   fbs (.ghost (as'.map ghA ++ ghB m 1 ρ) :: ρ.map fun b=>renB (renAll (posN ρ 1)) 4 (m.getD b .dead)) fun mi =>
   ∃ r mo,MCalls P G g as' mi r mo ∧ match mo with
    | .ghost go :: mo'=>match noGhost mo',Nat.ble ρ.length mo'.length with
     | true,true =>
      fd.fdl 4 (s.map (renA ⟨keepR ρ go as'.length,keepO ρ as' go m mo',keepM ρ go as'.length⟩ 4)) fun s' =>
      fbs (setMany ρ (mo'.map (renB (renAll (backN ρ m.length)) 4)) (m.map (renB ⟨keepR ρ go as'.length,keepO ρ as' go m mo',keepM ρ go as'.length⟩ 4)) ++ (mo'.drop ρ.length).map (renB (renAll (backN ρ m.length)) 4)) fun m' =>
      fd 4 (renA (renAll (backN ρ m.length)) 4 r) fun r'=>K s' r' m'
     | _,_=>False
    | _=>False
  | _,_=>False
 | _=>False
end Go.Proofs.YtmeohhbdkoeadaaGreat.Am
namespace Go.Proofs.YtmeohhbdkoeadaaGreat.Am
variable [Inhabited DRT]
open Go.RowKit (Below)
section
variable {c:Ctx} {s:List A} {m:List Blk} {a:Act} {w w':World} {ids ids':Ids} {P:Program} {im im':Nat → Prop} {tt:TT} {G:GInv}
variable {next:Act → World → Prop} {Q:Exit → Act → World → Prop} {o:Oper}

theorem handable_gho {x:Blk} {vs:List Value} (h:handable x = true) (hb:BRel ids im w x (.gho vs)):False:=by
 cases x <;> first|exact hb|(simp [handable] at h)
theorem Sim.blk_id (hs:Sim c s m a w ids) {b:Nat} (hb:b < m.length):∃ p,ids[b]? = some p ∧ BRel ids (imOf c ids w) w (m.getD b .dead) p:=by
 have h1:b < ids.length:=by rw [hs.mlen]; exact hb
 refine ⟨ids[b],List.getElem?_eq_getElem h1,?_⟩
 have:=hs.blks b hb h1
 rwa [show m.getD b .dead = m[b] by rw [List.getD_eq_getElem?_getD,List.getElem?_eq_getElem hb]; rfl]
theorem lt_of_get {α : Type} {l:List α} {i:Nat} {x : α} (h:l[i]? = some x):i < l.length:=by
 rcases Nat.lt_or_ge i l.length with h' | h'
 ·exact h'
 ·rw [List.getElem?_eq_none h'] at h; cases h
/-- What stands for a watched name. -/
def ghV (m:List Blk) (ids:Ids) (b:Nat):Value :=
 match m.getD b .dead,ids.getD b .dead with
 | .box _ _,.lv p=>.pointer (some ⟨p.blk,0,none⟩)
 | .mapb _ _ _ _,.lv p=>.map (some p.blk)
 | _,_=>.bool false
theorem ghB_len (m:List Blk):∀ (ρ : List Nat) (k:Nat),(ghB m k ρ).length = ρ.length
 | [],_=>rfl
 | _ :: ρ,k=>by simp [ghB,ghB_len m ρ]
theorem ghB_rel (hs:Sim c s m a w ids) {idc:Ids} {im':Nat → Prop}:∀ (ρ : List Nat) (k:Nat),(∀ j b,ρ[j]? = some b → idc[k + j]? = ids[b]? ∧ b < m.length) →
  ∀ j (h:j < (ghB m k ρ).length) (h':j < (ρ.map (ghV m ids)).length),Rel idc im' w (ghB m k ρ)[j] (ρ.map (ghV m ids))[j]
 | [],k,_,j,h,_=>by simp [ghB] at h
 | b :: ρ,k,hi,0,h,h'=>by
  obtain ⟨e1,e2⟩:=hi 0 b rfl
  obtain ⟨p,hp,hb⟩:=hs.blk_id e2
  have hpd:ids.getD b .dead = p:=by rw [List.getD_eq_getElem?_getD,hp]; rfl
  simp only [ghB,List.map_cons,List.getElem_cons_zero]
  unfold ghV
  rw [hpd]
  split
  ·rename_i ty cs hm
   rw [hm] at hb ⊢
   cases p with
   | lv p=>exact .ref k 0 p (by rw [Nat.add_zero] at e1; rw [e1,hp])
   | dead=>exact hb.elim
   | stale=>exact hb.elim
   | virt=>exact hb.elim
   | gho vs=>exact hb.elim
  ·rename_i g n kk vv hm
   rw [hm] at hb ⊢
   cases p with
   | lv p=>exact .omap k p (by rw [Nat.add_zero] at e1; rw [e1,hp])
   | dead=>exact hb.elim
   | stale=>exact hb.elim
   | virt=>exact hb.elim
   | gho vs=>exact hb.elim
  ·exact .imm (.junk _)
 | b :: ρ,k,hi,j + 1,h,h'=>by
  simp only [ghB,List.map_cons,List.getElem_cons_succ]
  exact ghB_rel hs ρ (k + 1) (fun j b hj=>by
   have:=hi (j + 1) b (by simpa using hj)
   rwa [show k + (j + 1) = k + 1 + j by omega] at this) j (by simpa [ghB] using h) (by simpa using h')
theorem anyOwn_sound (k:Nat):∀ (as gs:List A),anyOwn k as gs = true → ∃ j:Nat,as[j]? = some (A.own k) ∧ gs[j]? = some (A.own k)
 | [],_,h=>by simp [anyOwn] at h
 | x :: as,[],h=>by cases x <;> simp [anyOwn] at h
 | x :: as,g :: gs,h=>by
  have rest:anyOwn k as gs = true → ∃ j:Nat,(x :: as)[j]? = some (A.own k) ∧ (g :: gs)[j]? = some (A.own k):=fun h=>by
   obtain ⟨j,h1,h2⟩:=anyOwn_sound k as gs h
   exact ⟨j + 1,by simpa using h1,by simpa using h2⟩
  unfold anyOwn at h
  split at h
  ·rename_i b as' g' gs' e1 e2
   cases e1; cases e2
   split at h
   ·rename_i b' hb
    have:=Nat.eq_of_beq_eq_true hb
    subst this
    split at h
    ·rename_i hb'
     have:=Nat.eq_of_beq_eq_true hb'
     subst this
     exact ⟨0,rfl,rfl⟩
    ·exact rest h
   ·exact rest h
  ·rename_i e1 e2
   cases e1; cases e2
   exact rest h
  ·cases h
theorem noGhost_sound:∀ {l:List Blk},noGhost l = true → ∀ x ∈ l,∀ cs,x ≠ .ghost cs
 | [],_,x,h=>by simp at h
 | y :: ys,h,x,hx=>by
  rcases List.mem_cons.1 hx with rfl | hx
  ·intro cs e; subst e; simp [noGhost] at h
  ·exact noGhost_sound (l:=ys) (by cases y <;> simp [noGhost] at h <;> exact h) x hx

theorem noGhost_gone:∀ {l:List Blk},noGhost l = true → ∀ x ∈ l,x ≠ .gone
 | [],_,x,h=>by simp at h
 | y :: ys,h,x,hx=>by
  rcases List.mem_cons.1 hx with rfl | hx
  ·intro e; subst e; simp [noGhost] at h
  ·exact noGhost_gone (l:=ys) (by cases y <;> simp [noGhost] at h <;> exact h) x hx

theorem sCallM_sound (hs:Sim c s m a w ids) (hG:G.ok c) {F:Operand} {xs:Array Operand} {ts:Array TypeId} (ho:o.op = .call { callee:=.value F,args:=xs,argTypes:=ts }) {K:List A → A → List Blk → Prop}
  (h:sCallM P G (ev s F) (xs.toList.map (ev s)) s m K)
  (hn:∀ s1 v m' a' w' ids',K s1 v m' → Sim c (putD s1 o.dst v) m' a' w' ids' → next a' w'):o.wp P a w next Q:=by
 have hf:=hs.ev F
 have hGw:G.G w:=hG.now hs.frame
 unfold sCallM at h
 split at h
 ·rename_i g cap hv; rw [hv] at hf
  obtain ⟨us,hu1,hu2,hu3⟩:=hf.fn_inv
  rw [fdl_eq,fNL_eq] at h
  generalize has:xs.toList.map (ev s) ++ cap = as at h
  generalize hρ : ddN [] ((as.map (reach m 8)).flatten) = ρ at h
  generalize hvs:xs.toList.map a.eval ++ us = vs
  have hrel:∀ j (h:j < as.length) (h':j < vs.length),Rel ids (imOf c ids w) w as[j] vs[j]:=by
   subst has; subst hvs
   intro j h h'
   by_cases hj:j < xs.toList.length
   ·rw [List.getElem_append_left (by simpa using hj),List.getElem_append_left (by simpa using hj)]
    exact evL_rel hs xs.toList j (by simpa using hj) (by simpa using hj)
   ·rw [List.getElem_append_right (by simpa using hj),List.getElem_append_right (by simpa using hj)]
    simp at h h' hj
    have:=hu3 (j - xs.size) (by omega) (by omega)
    simpa using this
  have hlen:vs.length = as.length:=by subst has; subst hvs; simp [hu2]
  have run : ∀ fn cd, P.funcs[g]? = some fn → fn.body = some cd → (fn.name == "runtime.NumGoroutine") = false → (execOp a.eval o).run P w = .ok (.enter g vs.toArray) w := by
   intro fn cd h1 h2 h3
   have e:execOp a.eval o = (do let d ← resolve a.eval { callee:=.value F,args:=xs,argTypes:=ts } o.type; invoke d.target d.args):=by unfold execOp; rw [ho]
   have e2:(xs.map a.eval ++ us.toArray) = vs.toArray:=by subst hvs; apply Array.ext'; simp
   have h4 : ¬ fn.name = "runtime.NumGoroutine" := by simpa using h3
   rw [e]
   simp [resolve,hu1,Deferred.ofValue,invoke,callFunc,h1,h2,h4,e2]
  split at h
  ·rename_i hok hnd
   have hok:=okR_sound hok
   have hnd:=nodupB_sound hnd
   rw [fdl_eq,fbs_eq] at h
   generalize has':as.map (renA (renAll (posN ρ 1)) 4) = as' at h
   obtain ⟨r,mo,hc,h⟩:=h
   split at h
   ·rename_i go mo'
    split at h
    ·rename_i hng hle
     have hle : ρ.length ≤ mo'.length:=Nat.le_of_ble_eq_true hle
     have hgn:=noGhost_gone hng
     have hng:=noGhost_sound hng
     rw [fdl_eq,fbs_eq,fd_eq] at h
     -- the callee's names
     let gs:List Value:=vs ++ ρ.map (ghV m ids)
     let idc:Ids:=.gho gs :: ρ.map fun b=>ids.getD b .dead
     let c':Ctx:=⟨w,imOf c ids w,muOf idc,gs⟩
     have idAt:∀ b,b ∈ ρ → ∃ p,ids[b]? = some p ∧ ids.getD b .dead = p ∧ BRel ids (imOf c ids w) w (m.getD b .dead) p ∧ ∀ vs,p ≠ .gho vs:=by
      intro b hb
      obtain ⟨p,h1,h2⟩:=hs.blk_id (hok b hb).2
      refine ⟨p,h1,by rw [List.getD_eq_getElem?_getD,h1]; rfl,h2,?_⟩
      rintro vs rfl
      exact handable_gho (hok b hb).1 h2
     have idcAt:∀ j b,ρ[j]? = some b → idc[j + 1]? = ids[b]?:=by
      intro j b hj
      obtain ⟨p,h1,h2,_⟩:=idAt b (List.mem_of_getElem? hj)
      show (ρ.map fun b=>ids.getD b .dead)[j]? = _
      rw [List.getElem?_map,hj,h1]
      simp only [Option.map_some,h2]
     have idcInv:∀ (i:Nat) p,idc[i]? = some (.lv p) → ∃ j b,i = j + 1 ∧ ρ[j]? = some b ∧ ids[b]? = some (.lv p):=by
      intro i p hi
      cases i with
      | zero=>simp [idc] at hi
      | succ j =>
       have hi':(ρ.map fun b=>ids.getD b .dead)[j]? = some (.lv p):=hi
       rw [List.getElem?_map] at hi'
       cases hj : ρ[j]? with
       | none=>rw [hj] at hi'; cases hi'
       | some b=>exact ⟨j,b,rfl,hj,by rw [← idcAt j b hj]; exact hi⟩
     have muIn:∀ x,muOf idc x → ∃ b p,b ∈ ρ ∧ ids[b]? = some (.lv p) ∧ p.has x:=by
      rintro x ⟨p,hp,hx⟩
      obtain ⟨i,hi⟩:=List.getElem?_of_mem hp
      obtain ⟨j,b,_,h2,h3⟩:=idcInv i p hi
      exact ⟨b,p,List.mem_of_getElem? h2,h3,hx⟩
     have muOwn:∀ b p x,b ∈ ρ → ids[b]? = some (.lv p) → p.has x → muOf idc x:=by
      intro b p x hb hp hx
      obtain ⟨j,hj⟩:=List.getElem?_of_mem hb
      exact ⟨p,List.mem_of_getElem? (by rw [idcAt j b hj]; exact hp),hx⟩
     have imNot:∀ b,imOf c ids w b → ¬ muOf idc b:=by
      intro b hb hm
      obtain ⟨b',p,_,h2,h3⟩:=muIn b hm
      rcases hb with hb | ⟨_,_,hb⟩
      ·exact hs.im0new hb (hs.freshX p (List.mem_of_getElem? h2) b h3).1
      ·exact hb p (List.mem_of_getElem? h2) h3
     have hτ : RenOk (renAll (posN ρ 1)) ids idc:=by
      have key:∀ b b',posN ρ 1 b = some b' → idc[b']? = ids[b]?:=by
       intro b b' hb
       obtain ⟨h1,h2⟩:=posN_some _ _ _ _ hb
       have:=idcAt _ _ h2
       rwa [show b' - 1 + 1 = b' by omega] at this
      exact ⟨fun b b' p h1 h2=>⟨p,by rw [key b b' h1]; exact h2,rfl⟩,fun b b' p h1 h2 _=>⟨p,by rw [key b b' h1]; exact h2,likeE0_rfl p⟩,fun b b' p h1 h2=>⟨p,by rw [key b b' h1]; exact h2,rfl⟩,fun b b' h1 h2=>by rw [key b b' h1]; exact h2,fun b b' h1 h2=>by rw [key b b' h1]; exact h2⟩
     have hal:as'.length = as.length:=by rw [← has']; simp
     have hslots:∀ j (h:j < as'.length) (h':j < vs.length),Rel idc (imOf c' idc w) w as'[j] vs[j]:=by
      intro j h h'
      have:as'[j] = renA (renAll (posN ρ 1)) 4 (as[j]'(by omega)):=by simp [← has']
      rw [this]
      exact renA_rel (fun _ h=>.inl h) (fun _ _=>rfl) hτ 4 _ _ (hrel j (by omega) h')
     have hsc:Sim c' as' (.ghost (as'.map ghA ++ ghB m 1 ρ) :: ρ.map fun b=>renB (renAll (posN ρ 1)) 4 (m.getD b .dead)) ⟨vs.toArray,[]⟩ w idc:=by
      refine ⟨rfl,by simp [hlen,hal],fun i h h'=>by simpa using hslots i h (by simpa using h'),by simp [idc],?_,?_,?_,Fr.refl _ _ _ _,?_,?_⟩
      ·intro i h1 h2
       cases i with
       | zero =>
        show BRel idc (imOf c' idc w) w (.ghost (as'.map ghA ++ ghB m 1 ρ)) (.gho gs)
        refine ⟨by simp [gs,ghB_len,hlen,hal],fun j g1 g2=>?_⟩
        by_cases hj:j < as'.length
        ·rw [List.getElem_append_left (by simpa using hj)]
         simp only [gs]
         rw [List.getElem_append_left (by omega),List.getElem_map]
         have:=hslots j hj (by omega)
         generalize as'[j] = x at this ⊢
         cases x <;> first|exact this|exact .imm (.junk _)
        ·rw [List.getElem_append_right (by simpa using hj)]
         simp only [gs]
         rw [List.getElem_append_right (by omega)]
         have:=ghB_rel (idc:=idc) (im':=imOf c' idc w) hs ρ 1 (fun j b hj=>⟨by rw [Nat.add_comm]; exact idcAt j b hj,(hok b (List.mem_of_getElem? hj)).2⟩) (j - as'.length) (by simp at g1; rw [ghB_len] at *; omega) (by simp; simp [ghB_len] at g1; omega)
         simpa [hlen,hal] using this
       | succ i =>
        have hi:i < ρ.length:=by simpa using h1
        obtain ⟨p,q1,q2,q3,q4⟩:=idAt ρ[i] (List.getElem_mem hi)
        show BRel idc (imOf c' idc w) w ((ρ.map fun b=>renB (renAll (posN ρ 1)) 4 (m.getD b .dead))[i]'(by simpa using hi)) ((ρ.map fun b=>ids.getD b .dead)[i]'(by simpa using hi))
        rw [List.getElem_map,List.getElem_map,q2]
        exact renB_rel (fun _ h=>.inl h) (fun _ _=>rfl) hτ 4 (fun _ _ _ _=>rfl) q3
      ·intro i j p q x h1 h2 h3 h4
       obtain ⟨i',b1,rfl,e1,e2⟩:=idcInv i p h1
       obtain ⟨j',b2,rfl,e3,e4⟩:=idcInv j q h2
       have:=hs.distinctX b1 b2 p q x e2 e4 h3 h4
       subst this
       have:=(List.getElem?_inj (lt_of_get e1) hnd).1 (e1.trans e3.symm)
       omega
      ·intro p hp x hx
       obtain ⟨i,hi⟩:=List.getElem?_of_mem hp
       obtain ⟨j,b,_,h2,h3⟩:=idcInv i p hi
       exact ⟨.inr ⟨p,hp,hx⟩,(hs.freshX p (List.mem_of_getElem? h3) x hx).2⟩
      ·exact fun b hb=>⟨imOf_lt hs hb,imNot b hb⟩
      ·intro vs' hv'
       rcases List.mem_cons.1 hv' with e | e
       ·cases e; rfl
       ·simp only [List.mem_map] at e
        obtain ⟨b,hb,e⟩:=e
        obtain ⟨p,_,q2,_,q4⟩:=idAt b hb
        exact absurd (q2.symm.trans e) (q4 vs')
     have hGc:G.ok c':=by
      refine ⟨hGw,fun b hb=>?_⟩
      obtain ⟨b',p,_,h2,h3⟩:=muIn b hb
      rcases (hs.freshX p (List.mem_of_getElem? h2) b h3).1 with h | h
      ·exact Nat.le_trans (G.lt _ hG.1) h
      ·exact hG.2 b h
     obtain ⟨⟨fn,cd,f1,f2,f3⟩,hc⟩:=hc
     unfold Oper.wp
     rw [run fn cd f1 f2 f3]
     show Calls P g _ w _
     refine Calls_mono (hc (imOf c ids w) w vs gs idc hGc hsc) ?_
     rintro e w' ⟨v,ids_r,rfl,hr⟩
     have hr:Sim c' [r] (.ghost go :: mo') ⟨#[v],[]⟩ w' ids_r:=hr
     -- behind the call
     match ids_r,hr with
     | [],hr=>have:=hr.mlen; simp at this
     | g0 :: idr,hr =>
     have hml:idr.length = mo'.length:=by have:=hr.mlen; simpa using this
     have hgh0:=hr.blks 0 (by simp) (by simp)
     simp only [List.getElem_cons_zero] at hgh0
     have hgh:∃ gs',g0 = .gho gs':=by
      cases g0 with
      | gho gs'=>exact ⟨gs',rfl⟩
      | dead=>exact hgh0.elim
      | stale=>exact hgh0.elim
      | virt=>exact hgh0.elim
      | lv p=>exact hgh0.elim
     obtain ⟨gs',rfl⟩:=hgh
     have hgs:gs' = gs:=hr.gho gs' (by simp)
     subst hgs
     obtain ⟨hgl,hgr⟩:=hgh0
     have ghAt:∀ (j:Nat) x v,go[j]? = some x → gs[j]? = some v → Rel (.gho gs :: idr) (imOf c' (.gho gs :: idr) w') w' x v:=by
      intro j x v e1 e2
      have g1:=lt_of_get e1
      have g2:=lt_of_get e2
      have:=hgr j g1 g2
      rw [List.getElem?_eq_getElem g1] at e1
      rw [List.getElem?_eq_getElem g2] at e2
      cases e1; cases e2; exact this
     have hsame:∀ b,b < w.heap.size → ¬ muOf idc b → w'.heap[b]? = w.heap[b]?:=fun b h1 h2=>hr.frame.block b h1 h2
     have hszw:w.heap.size ≤ w'.heap.size:=hr.frame.size
     have hni:ids.length = m.length:=hs.mlen
     generalize hids2:setMany ρ idr ids ++ idr.drop ρ.length = ids2
     have at2:∀ (k b:Nat) p,ρ[k]? = some b → idr[k]? = some p → ids2[b]? = some p:=by
      intro k b p h1 h2
      have hb:=(hok b (List.mem_of_getElem? h1)).2
      rw [← hids2,List.getElem?_append_left (by rw [setMany_len,hni]; exact hb)]
      exact setMany_at ρ idr ids k b p hnd h1 h2 (by rw [hni]; exact hb)
     have ne2:∀ b,b ∉ ρ → b < m.length → ids2[b]? = ids[b]?:=by
      intro b h1 h2
      rw [← hids2,List.getElem?_append_left (by rw [setMany_len,hni]; exact h2)]
      exact setMany_ne _ _ _ _ h1
     have ex2:∀ (k:Nat) p,ρ.length ≤ k → idr[k]? = some p → ids2[m.length + (k - ρ.length)]? = some p:=by
      intro k p h1 h2
      rw [← hids2,List.getElem?_append_right (by rw [setMany_len,hni]; omega),setMany_len,hni,List.getElem?_drop]
      rw [show ρ.length + (m.length + (k - ρ.length) - m.length) = k by omega]; exact h2
     have inv2:∀ (i:Nat) p,ids2[i]? = some p → (i ∉ ρ ∧ i < m.length ∧ ids[i]? = some p) ∨ ∃ k:Nat,idr[k]? = some p ∧ ((ρ[k]? = some i) ∨ (ρ.length ≤ k ∧ i = m.length + (k - ρ.length))):=by
      intro i p hi
      rcases Nat.lt_or_ge i m.length with hlt | hge
      ·by_cases hm:i ∈ ρ
       ·obtain ⟨k,hk⟩:=List.getElem?_of_mem hm
        have hkl:=lt_of_get hk
        have:idr[k]? = some (idr[k]'(by omega)):=List.getElem?_eq_getElem _
        rw [at2 k i _ hk this] at hi
        exact .inr ⟨k,by rw [this]; exact hi,.inl hk⟩
       ·rw [ne2 i hm hlt] at hi; exact .inl ⟨hm,hlt,hi⟩
      ·rw [← hids2,List.getElem?_append_right (by rw [setMany_len,hni]; exact hge),setMany_len,hni,List.getElem?_drop] at hi
       exact .inr ⟨ρ.length + (i - m.length),hi,.inr ⟨by omega,by omega⟩⟩
     have newc:∀ x,c'.new x → c.new x:=by
      rintro x (h | h)
      ·exact .inl (Nat.le_trans hs.frame.size h)
      ·obtain ⟨b,p,_,h2,h3⟩:=muIn x h
       exact (hs.freshX p (List.mem_of_getElem? h2) x h3).1
     have own2:∀ p,IdE.lv p ∈ ids2 → ∀ x,p.has x → (∃ i,i ∉ ρ ∧ ids[i]? = some (.lv p)) ∨ (c'.new x ∧ x < w'.heap.size ∧ IdE.lv p ∈ idr):=by
      intro p hp x hx
      obtain ⟨i,hi⟩:=List.getElem?_of_mem hp
      rcases inv2 i _ hi with ⟨h1,_,h3⟩ | ⟨k,h1,_⟩
      ·exact .inl ⟨i,h1,h3⟩
      ·have:=hr.freshX p (List.mem_cons_of_mem _ (List.mem_of_getElem? h1)) x hx
       exact .inr ⟨this.1,this.2,List.mem_of_getElem? h1⟩
     have othNot:∀ (i:Nat) p x,i ∉ ρ → ids[i]? = some (.lv p) → p.has x → x < w.heap.size ∧ ¬ muOf idc x:=by
      intro i p x h1 h2 h3
      refine ⟨(hs.freshX p (List.mem_of_getElem? h2) x h3).2,fun hm=>?_⟩
      obtain ⟨b,q,h4,h5,h6⟩:=muIn x hm
      have:=hs.distinctX i b p q x h2 h5 h3 h6
      subst this; exact h1 h4
     have hA:∀ b,imOf c ids w b → imOf c ids2 w' b:=by
      intro b hb
      have hnm:=imNot b hb
      have hlt:=imOf_lt hs hb
      rcases hb with hb | ⟨h1,h2,h3⟩
      ·exact .inl hb
      ·refine .inr ⟨h1,by omega,fun p hp hx=>?_⟩
       rcases own2 p hp b hx with ⟨i,_,h5⟩ | ⟨h4 | h4,_,_⟩
       ·exact h3 p (List.mem_of_getElem? h5) hx
       ·have h4:w.heap.size ≤ b:=h4
        omega
       ·exact hnm h4
     have hB:∀ b,imOf c' (.gho gs :: idr) w' b → imOf c ids2 w' b:=by
      rintro b (hb | ⟨h1,h2,h3⟩)
      ·exact hA b hb
      ·refine .inr ⟨newc b h1,h2,fun p hp hx=>?_⟩
       rcases own2 p hp b hx with ⟨i,h4,h5⟩ | ⟨_,_,h4⟩
       ·obtain ⟨g1,g2⟩:=othNot i p b h4 h5 hx
        rcases h1 with h1 | h1
        ·have h1:w.heap.size ≤ b:=h1
         omega
        ·exact g2 h1
       ·exact h3 p (List.mem_cons_of_mem _ h4) hx
     have hH:∀ b,imOf c ids w b → w'.heap[b]? = w.heap[b]?:=fun b hb=>hsame b (imOf_lt hs hb) (imNot b hb)
     have hυ : RenOk (renAll (backN ρ m.length)) (.gho gs :: idr) ids2:=by
      have key:∀ b b' p,backN ρ m.length b = some b' → (IdE.gho gs :: idr)[b]? = some p → ids2[b']? = some p:=by
       intro b b' p h1 h2
       cases b with
       | zero=>simp [backN] at h1
       | succ j =>
        have h2:idr[j]? = some p:=by simpa using h2
        simp only [backN] at h1
        split at h1
        ·rename_i hj
         have hj:j < ρ.length:=Nat.le_of_ble_eq_true hj
         cases h1
         exact at2 j _ p (by rw [List.getD_eq_getElem?_getD,List.getElem?_eq_getElem hj]; rfl) h2
        ·rename_i hj
         have hj:¬ j < ρ.length:=fun h'=>by rw [show Nat.blt j ρ.length = true from Nat.ble_eq_true_of_le h'] at hj; cases hj
         cases h1
         exact ex2 j p (by omega) h2
      exact ⟨fun b b' p h1 h2=>⟨p,key b b' _ h1 h2,rfl⟩,fun b b' p h1 h2 _=>⟨p,key b b' _ h1 h2,likeE0_rfl p⟩,fun b b' p h1 h2=>⟨p,key b b' _ h1 h2,rfl⟩,fun b b' h1 h2=>key b b' _ h1 h2,fun b b' h1 h2=>key b b' _ h1 h2⟩
     have gsAt:∀ (k b:Nat),ρ[k]? = some b → gs[as'.length + k]? = some (ghV m ids b):=by
      intro k b hk
      show (vs ++ ρ.map (ghV m ids))[as'.length + k]? = _
      rw [List.getElem?_append_right (by omega),List.getElem?_map,show as'.length + k - vs.length = k by omega,hk]
      rfl
     have hκ : RenOk ⟨keepR ρ go as'.length,keepO ρ as' go m mo',keepM ρ go as'.length⟩ ids ids2:=by
      have nst:∀ k:Nat,idr[k]? ≠ some .stale:=by
       intro k b1
       have hkl:=lt_of_get b1
       have hB2:=hr.blks (k + 1) (by simp; omega) (by simp; omega)
       rw [List.getElem?_eq_getElem hkl] at b1
       simp only [List.getElem_cons_succ,Option.some.inj b1] at hB2
       have h2:=hgn _ (List.getElem_mem (show k < mo'.length by omega))
       generalize mo'[k]'(by omega) = x at hB2 h2
       cases x <;> first|exact hB2.elim|exact absurd rfl h2|cases hB2
      have old:∀ b,ids[b]? = some .stale → posN ρ 0 b = none → ids2[b]? = some .stale:=fun b h2 hp=>by
       rw [ne2 b (posN_none _ _ _ hp) (by rw [← hni]; exact lt_of_get h2)]; exact h2
      have inn:∀ b k,ids[b]? = some .stale → posN ρ 0 b = some k → False:=fun b k h2 hp=>by
       obtain ⟨_,hk⟩:=posN_some _ _ _ _ hp
       obtain ⟨p',q1,q2,q3,_⟩:=idAt b (List.mem_of_getElem? hk)
       rw [h2] at q1; cases q1
       have:=(hok b (List.mem_of_getElem? hk)).1
       cases hx:m.getD b .dead <;> rw [hx] at q3 this <;> first|exact q3.elim|(simp [handable] at this)
      refine ⟨?_,?_,?_,?_,?_⟩
      rotate_left 3
      ·intro b b' h1 h2
       have h1:keepR ρ go as'.length b = some b':=h1
       unfold keepR at h1
       split at h1
       ·rename_i hp; cases h1; exact old b h2 hp
       ·rename_i k hp; exact (inn b k h2 hp).elim
      ·intro b b' h1 h2
       have h1:keepM ρ go as'.length b = some b':=h1
       unfold keepM at h1
       split at h1
       ·rename_i hp; cases h1; exact old b h2 hp
       ·rename_i k hp; exact (inn b k h2 hp).elim
      ·intro b b' p h1 h2
       have h1:keepR ρ go as'.length b = some b':=h1
       unfold keepR at h1
       split at h1
       ·rename_i hp; cases h1
        exact ⟨p,by rw [ne2 b (posN_none _ _ _ hp) (by rw [← hni]; exact lt_of_get h2)]; exact h2,rfl⟩
       ·rename_i k hp
        obtain ⟨_,hk⟩:=posN_some _ _ _ _ hp
        rw [Nat.sub_zero] at hk
        split at h1
        ·rename_i k' o' hgo
         split at h1
         ·rename_i hk'
          cases h1
          have hk':=Nat.eq_of_beq_eq_true hk'
          subst hk'
          have hgo':go[as'.length + k]? = some (.ref (k + 1) 0):=by
           rw [List.getD_eq_getElem?_getD] at hgo
           cases hx:go[as'.length + k]? with
           | none=>rw [hx] at hgo; cases hgo
           | some y=>rw [hx] at hgo; simpa using hgo
          obtain ⟨p',e1,e2⟩:=(ghAt _ _ _ hgo' (gsAt k b hk)).ref_inv.resolve_right (fun h=>nst k (by simpa using h.1))
          have e1:idr[k]? = some (.lv p'):=by simpa using e1
          refine ⟨p',at2 k b _ hk e1,?_⟩
          have hpd:ids.getD b .dead = .lv p:=by rw [List.getD_eq_getElem?_getD,h2]; rfl
          unfold ghV at e2
          rw [hpd] at e2
          split at e2
          ·rename_i q _ he; cases he
           simp only [Value.pointer.injEq,Option.some.injEq,Addr.mk.injEq] at e2
           exact e2.1.symm
          ·cases e2
          ·cases e2
         ·cases h1
        ·cases h1
      ·intro b b' p h1 h2 hpd
       have h1:keepO ρ as' go m mo' b = some b':=h1
       unfold keepO at h1
       split at h1
       ·rename_i hp; cases h1
        exact ⟨p,by rw [ne2 b (posN_none _ _ _ hp) (by rw [← hni]; exact lt_of_get h2)]; exact h2,likeE0_rfl p⟩
       ·rename_i k hp
        obtain ⟨_,hk⟩:=posN_some _ _ _ _ hp
        rw [Nat.sub_zero] at hk
        split at h1
        ·rename_i hany hss
         cases h1
         obtain ⟨j,e1,e2⟩:=anyOwn_sound _ _ _ hany
         have hj:=lt_of_get e1
         have hva:gs[j]? = some (vs[j]'(by omega)):=by
          show (vs ++ ρ.map (ghV m ids))[j]? = _
          rw [List.getElem?_append_left (by omega),List.getElem?_eq_getElem]
         have R1:=hslots j hj (by omega)
         rw [List.getElem?_eq_getElem hj] at e1
         rw [Option.some.inj e1] at R1
         have R2:=ghAt j _ _ e2 hva
         have hidk:idc[k + 1]? = some p:=by rw [idcAt k b hk]; exact h2
         have hkl:k < idr.length:=by have:=lt_of_get hk; omega
         have hkr:idr[k]? = some idr[k]:=List.getElem?_eq_getElem hkl
         refine ⟨idr[k],at2 k b _ hk hkr,?_⟩
         have nst:idr[k]? ≠ some .stale:=by
          intro b1
          rw [hkr] at b1
          have b1:=Option.some.inj b1
          have hB2:=hr.blks (k + 1) (by simp; omega) (by simp; omega)
          simp only [List.getElem_cons_succ,b1] at hB2
          have hmk:mo'.getD k .dead = mo'[k]'(by omega):=by rw [List.getD_eq_getElem?_getD,List.getElem?_eq_getElem]; rfl
          rw [← hmk] at hB2
          unfold sameSz at hss
          split at hss
          ·rename_i hm1 hm2; rw [hm2] at hB2; exact hB2
          ·rename_i hm1 hm2; rw [hm2] at hB2; exact hB2
          ·cases hss
         rcases R1.own_inv with ⟨a1,a2⟩ | ⟨p1,cap1,a1,a2,a3,a4⟩ | ⟨a1,_⟩
         rotate_right
         ·rw [hidk] at a1; cases a1
          obtain ⟨p',q1,q2,q3,_⟩:=idAt b (List.mem_of_getElem? hk)
          rw [h2] at q1; cases q1
          unfold sameSz at hss
          split at hss
          ·rename_i hm1 hm2; rw [hm1] at q3; exact q3.elim
          ·rename_i hm1 hm2; rw [hm1] at q3; exact q3.elim
          ·cases hss
         ·rw [hidk] at a1; cases a1
          rcases R2.own_inv with ⟨b1,b2⟩ | ⟨p2,cap2,b1,b2,b3,b4⟩ | ⟨b1,_⟩
          rotate_right
          ·exact absurd (by simpa using b1) nst
          ·have b1:idr[k]? = some .virt:=by simpa using b1
           rw [hkr] at b1
           exact Option.some.inj b1
          ·rw [a2] at b4; cases b4
         ·rw [hidk] at a1; cases a1
          rcases R2.own_inv with ⟨b1,b2⟩ | ⟨p2,cap2,b1,b2,b3,b4⟩ | ⟨b1,_⟩
          rotate_right
          ·exact absurd (by simpa using b1) nst
          ·rw [a4] at b2; cases b2
          ·have b1:idr[k]? = some (.lv p2):=by simpa using b1
           rw [hkr] at b1
           have b1:=Option.some.inj b1
           rw [a4] at b4
           simp only [Value.slice.injEq,Option.some.injEq,Addr.mk.injEq] at b4
           obtain ⟨⟨c1,_⟩,c2,c3⟩:=b4
           obtain ⟨p',q1,q2,q3,_⟩:=idAt b (List.mem_of_getElem? hk)
           rw [h2] at q1; cases q1
           have hB2:=hr.blks (k + 1) (by simp; omega) (by simp; omega)
           simp only [List.getElem_cons_succ,b1] at hB2
           have hmk:mo'.getD k .dead = mo'[k]'(by omega):=by rw [List.getD_eq_getElem?_getD,List.getElem?_eq_getElem]; rfl
           rw [← hmk] at hB2
           have hsz:p2.sz = p1.sz:=by
            unfold sameSz at hss
            split at hss
            ·rename_i hm1 hm2
             rw [hm1] at q3; rw [hm2] at hB2
             have:=Nat.eq_of_beq_eq_true hss
             rw [hB2.1,q3.1,this]
            ·rename_i hm1 hm2
             rw [hm1] at q3; rw [hm2] at hB2
             rw [hB2.1,q3.1]
            ·cases hss
           rw [b1]
           exact ⟨p2,rfl,c1.symm,by rw [← b3,← a3,hsz,c3],c2.symm,hsz⟩
        ·cases h1
      ·intro b b' p h1 h2
       have h1:keepM ρ go as'.length b = some b':=h1
       unfold keepM at h1
       split at h1
       ·rename_i hp; cases h1
        exact ⟨p,by rw [ne2 b (posN_none _ _ _ hp) (by rw [← hni]; exact lt_of_get h2)]; exact h2,rfl⟩
       ·rename_i k hp
        obtain ⟨_,hk⟩:=posN_some _ _ _ _ hp
        rw [Nat.sub_zero] at hk
        split at h1
        ·rename_i k' hgo
         split at h1
         ·rename_i hk'
          cases h1
          have hk':=Nat.eq_of_beq_eq_true hk'
          subst hk'
          have hgo':go[as'.length + k]? = some (.omap (k + 1)):=by
           rw [List.getD_eq_getElem?_getD] at hgo
           cases hx:go[as'.length + k]? with
           | none=>rw [hx] at hgo; cases hgo
           | some y=>rw [hx] at hgo; simpa using hgo
          obtain ⟨p',e1,e2⟩:=(ghAt _ _ _ hgo' (gsAt k b hk)).omap_inv.resolve_right (fun h=>nst k (by simpa using h.1))
          have e1:idr[k]? = some (.lv p'):=by simpa using e1
          refine ⟨p',at2 k b _ hk e1,?_⟩
          have hpd:ids.getD b .dead = .lv p:=by rw [List.getD_eq_getElem?_getD,h2]; rfl
          unfold ghV at e2
          rw [hpd] at e2
          split at e2
          ·cases e2
          ·rename_i q _ he; cases he
           simp only [Value.map.injEq,Option.some.injEq] at e2
           exact e2.symm
          ·cases e2
         ·cases h1
        ·cases h1
     refine hn _ _ _ _ w' ids2 h (Sim.putD ?_ o.dst (renA_rel hB (fun _ _=>rfl) hυ 4 _ _ (by simpa using hr.slots 0 (by simp) (by simp))))
     have hml2:ids2.length = (setMany ρ (mo'.map (renB (renAll (backN ρ m.length)) 4)) (m.map (renB ⟨keepR ρ go as'.length,keepO ρ as' go m mo',keepM ρ go as'.length⟩ 4)) ++ (mo'.drop ρ.length).map (renB (renAll (backN ρ m.length)) 4)).length:=by
      rw [← hids2]; simp [setMany_len,hni,hml]
     have back:∀ (k:Nat) x p,mo'[k]? = some x → idr[k]? = some p → BRel ids2 (imOf c ids2 w') w' (renB (renAll (backN ρ m.length)) 4 x) p:=by
      intro k x p h1 h2
      have g1:=lt_of_get h1
      have g2:=lt_of_get h2
      have:=hr.blks (k + 1) (by simp; omega) (by simp; omega)
      simp only [List.getElem_cons_succ] at this
      rw [List.getElem?_eq_getElem g1] at h1
      rw [List.getElem?_eq_getElem g2] at h2
      cases h1; cases h2
      exact renB_rel hB (fun _ _=>rfl) hυ 4 (fun _ _ _ _=>rfl) this
     refine ⟨hs.defers,by simp [hs.len],?_,hml2,?_,?_,?_,?_,hs.im0lt,?_⟩
     ·intro i h1 h2
      rw [List.getElem_map]
      exact renA_rel hA hH hκ 4 _ _ (hs.slots i (by simpa using h1) h2)
     ·intro i h1 h2
      have e2:ids2[i]? = some ids2[i]:=List.getElem?_eq_getElem h2
      have e1:=List.getElem?_eq_getElem h1
      generalize ids2[i] = p at e2 ⊢
      generalize hgx:(setMany ρ (mo'.map (renB (renAll (backN ρ m.length)) 4)) (m.map (renB ⟨keepR ρ go as'.length,keepO ρ as' go m mo',keepM ρ go as'.length⟩ 4)) ++ (mo'.drop ρ.length).map (renB (renAll (backN ρ m.length)) 4))[i] = x at e1 ⊢
      rcases inv2 i p e2 with ⟨g1,g2,g3⟩ | ⟨k,g1,g2 | ⟨g2,g3⟩⟩
      ·rw [List.getElem?_append_left (by rw [setMany_len]; simpa using g2),setMany_ne _ _ _ _ g1,List.getElem?_map,List.getElem?_eq_getElem g2] at e1
       cases e1
       have hb:=hs.blks i g2 (by rw [hni]; exact g2)
       rw [List.getElem?_eq_getElem (by rw [hni]; exact g2)] at g3
       cases g3
       refine renB_rel hA hH hκ 4 ?_ hb
       intro q hq y hy
       obtain ⟨f1,f2⟩:=othNot i q y g1 (by rw [List.getElem?_eq_getElem (by rw [hni]; exact g2),hq]) hy
       exact hsame y f1 f2
      ·have hib:=(hok i (List.mem_of_getElem? g2)).2
       have hkm:k < mo'.length:=by have:=lt_of_get g1; omega
       rw [List.getElem?_append_left (by rw [setMany_len]; simpa using hib),
        setMany_at ρ (mo'.map (renB (renAll (backN ρ m.length)) 4)) _ k i (renB (renAll (backN ρ m.length)) 4 mo'[k]) hnd g2 (by rw [List.getElem?_map,List.getElem?_eq_getElem hkm]; rfl) (by simpa using hib)] at e1
       cases e1
       exact back k _ p (List.getElem?_eq_getElem hkm) g1
      ·have hkm:k < mo'.length:=by have:=lt_of_get g1; omega
       rw [g3,List.getElem?_append_right (by rw [setMany_len]; simp),setMany_len,List.getElem?_map,List.getElem?_drop,List.length_map,
        show ρ.length + (m.length + (k - ρ.length) - m.length) = k by omega,List.getElem?_eq_getElem hkm] at e1
       cases e1
       exact back k _ p (List.getElem?_eq_getElem hkm) g1
     ·intro i j p q x h1 h2 h3 h4
      have mix:∀ (i:Nat) p (k:Nat) q,i ∉ ρ → ids[i]? = some (.lv p) → idr[k]? = some (.lv q) → p.has x → q.has x → False:=by
       intro i p k q g1 g2 g3 g4 g5
       obtain ⟨f1,f2⟩:=othNot i p x g1 g2 g4
       rcases (hr.freshX q (List.mem_cons_of_mem _ (List.mem_of_getElem? g3)) x g5).1 with f | f
       ·have f:w.heap.size ≤ x:=f
        omega
       ·exact f2 f
      rcases inv2 i _ h1 with ⟨g1,g2,g3⟩ | ⟨k,g1,g2⟩ <;> rcases inv2 j _ h2 with ⟨e1,e2,e3⟩ | ⟨k',e1,e2⟩
      ·exact hs.distinctX i j p q x g3 e3 h3 h4
      ·exact (mix i p k' q g1 g3 e1 h3 h4).elim
      ·exact (mix j q k p e1 e3 g1 h4 h3).elim
      ·have:=hr.distinctX (k + 1) (k' + 1) p q x (by simpa using g1) (by simpa using e1) h3 h4
       have:k = k':=by omega
       subst this
       rcases g2 with g2 | ⟨g2,g3⟩ <;> rcases e2 with e2 | ⟨e2,e3⟩
       ·rw [g2] at e2; exact Option.some.inj e2
       ·have:=lt_of_get g2; omega
       ·have:=lt_of_get e2; omega
       ·omega
     ·intro p hp x hx
      rcases own2 p hp x hx with ⟨i,h1,h2⟩ | ⟨h1,h2,_⟩
      ·have:=hs.freshX p (List.mem_of_getElem? h2) x hx
       exact ⟨this.1,by omega⟩
      ·exact ⟨newc x h1,h2⟩
     ·refine hs.frame.go hr.frame.os hr.frame.tape hr.frame.output hszw (fun k hk hm=>?_) hr.frame.drawn
      refine hsame k (Nat.lt_of_lt_of_le hk hs.frame.size) (fun hmu=>?_)
      obtain ⟨b,p,_,h2,h3⟩:=muIn k hmu
      rcases (hs.freshX p (List.mem_of_getElem? h2) k h3).1 with f | f
      ·omega
      ·exact hm f
     ·intro vs' hv'
      obtain ⟨i,hi⟩:=List.getElem?_of_mem hv'
      rcases inv2 i _ hi with ⟨_,_,h3⟩ | ⟨k,h1,_⟩
      ·exact hs.gho vs' (List.mem_of_getElem? h3)
      ·have hkm:k < mo'.length:=by have:=lt_of_get h1; omega
       have:=hr.blks (k + 1) (by simp; omega) (by simp; have:=lt_of_get h1; omega)
       simp only [List.getElem_cons_succ] at this
       rw [List.getElem?_eq_getElem (lt_of_get h1)] at h1
       rw [Option.some.inj h1] at this
       have hng':=hng _ (List.getElem_mem hkm)
       generalize mo'[k] = x at this hng'
       cases x <;> first|exact this.elim|(rename_i cs;exact absurd rfl (hng' cs))|(have this:IdE.gho vs' = .dead:=this;cases this)|(have this:IdE.gho vs' = .stale:=this;cases this)
    ·exact h.elim
   ·exact h.elim
  ·exact h.elim
 ·exact h.elim
end
end Go.Proofs.YtmeohhbdkoeadaaGreat.Am
namespace Go.Proofs.YtmeohhbdkoeadaaGreat.Am
variable [Inhabited DRT]
open Go.RowKit (Below)
section
variable {c:Ctx} {s:List A} {m:List Blk} {a:Act} {w w':World} {ids ids':Ids} {P:Program} {im im':Nat → Prop} {tt:TT} {G:GInv}
variable {next:Act → World → Prop} {Q:Exit → Act → World → Prop} {o:Oper}

/-- A row of ours, taken for a value that nobody writes. -/
theorem own_imm (hs:Sim c s m a w ids) {b:Nat} {v:Value} (hA:∀ x,imOf c ids w x → im' x) (hZ:∀ p,ids[b]? = some (.lv p) → ∀ x,p.has x → im' x) (hr:Rel ids (imOf c ids w) w (.own b) v) :
  RelI im' w (wk m 1 (.own b)) v:=by
 cases hr with
 | imm h=>cases h
 | ownS b x n cap h=>simp only [wk,hs.stale_gone h]; exact .junk _
 | own0 b h =>
  simp only [wk]
  split
  ·rename_i ty sz n row hb
   rcases own_len hs (.own0 b h) hb with ⟨rfl,_,_⟩ | ⟨p,cap,g1,_⟩
   ·exact .sl0 _ _
   ·rw [h] at g1; cases g1
  ·rename_i hb
   have hlt:b < ids.length:=by
    rcases Nat.lt_or_ge b ids.length with h' | h'
    ·exact h'
    ·rw [List.getElem?_eq_none h'] at h; cases h
   have:=hs.blks b (by rw [← hs.mlen]; exact hlt) hlt
   rw [List.getElem?_eq_getElem hlt] at h
   have e:m[b]'(by rw [← hs.mlen]; exact hlt) = m.getD b .dead:=by
    rw [List.getD_eq_getElem?_getD,List.getElem?_eq_getElem (by rw [← hs.mlen]; exact hlt)]; rfl
   rw [e,hb,Option.some.inj h] at this
   have this:_ = 0:=this
   subst this
   split
   ·exact .sl0 _ _
   ·exact .junk _
  ·exact .junk _
 | own b cap p h hn hm =>
  simp only [wk]
  split
  ·rename_i ty sz n row hb
   obtain ⟨x,hxm,hbr⟩:=hs.blk_at h
   rw [getD_of_get hxm] at hb; subst hb
   obtain ⟨q1,q2,vs0,g1,g2,g3,hl,g5⟩:=hbr
   subst q1; subst q2
   have hlt:∀ i j,i < p.n → j < p.sz → i * p.sz + j < vs0.size:=by
    intro i j hi hj
    have:=Nat.mul_le_mul_right p.sz (show i + 1 ≤ p.n from hi)
    rw [Nat.add_mul] at this; omega
   refine .sl p.n p.sz row p.blk 0 cap (fun i j=>vs0.getD (i * p.sz + j) undef) (hZ p h _ (.inl rfl)) hn.1 hl ?_ ?_ ?_
   ·intro i j hi hj
    have hk:=hlt i j hi hj
    rw [Nat.zero_add,cell_of_row w p.blk _ vs0 ty (0,0) g1]
    simp [Array.getD_eq_getD_getElem?,hk]
   ·intro i j hi hj
    have hk:=hlt i j hi hj
    have:=(g5 i j hi (by rw [hl i hi]; exact hj) hk).2
    simpa [Array.getD_eq_getD_getElem?,hk] using this
   ·intro i j hi hj
    have hk:=hlt i j hi (by rw [← hl i hi]; exact hj)
    have:=(g5 i j hi hj hk).1
    simp only [Array.getD_eq_getD_getElem?,Array.getElem?_eq_getElem hk,Option.getD_some]
    exact this.mono hA (fun _ _=>rfl)
  ·rename_i ty ety sz n hole len row hb
   split
   ·skip
    obtain ⟨x,hxm,hbr⟩:=hs.blk_at h
    rw [getD_of_get hxm] at hb; subst hb
    obtain ⟨q1,q2,q3,vs0,g1,g2,g3,kb,g5⟩:=hbr
    subst q2
    refine .sl p.n 1 _ p.blk 0 cap (fun i j=>vs0.getD (i * 1 + j) undef) (hZ p h _ (.inl rfl)) hn.1 (fun _ _=>rfl) ?_ ?_ ?_
    ·intro i j hi hj
     rw [Nat.zero_add,cell_of_row w p.blk _ vs0 ty (0,0) g1]
     simp [Array.getD_eq_getD_getElem?,show i + j < vs0.size by omega]
    ·intro i j hi hj
     have hj0:j = 0:=by omega
     subst hj0
     have hk:i < vs0.size:=by omega
     simp only [Nat.mul_one,Nat.add_zero,Array.getD_eq_getD_getElem?,Array.getElem?_eq_getElem hk,Option.getD_some]
     rcases (g5 i hi (by simp) hk).1 with ⟨e,_⟩ | ⟨q,cap',vs',e,_⟩ <;> rw [e] <;> rfl
    ·intro i j hi hj
     have hj0:j = 0:=by simp at hj; omega
     subst hj0
     have hk:i < vs0.size:=by omega
     simp only [Nat.mul_one,Nat.add_zero,Array.getD_eq_getD_getElem?,Array.getElem?_eq_getElem hk,Option.getD_some,List.getElem_cons_zero]
     obtain ⟨k1,k2,_⟩:=g5 i hi (by simp) hk
     rcases k1 with ⟨e1,e2,_⟩ | ⟨q,cap',vs',e1,e2,e3,e4,e5,e6,e7,e8⟩
     ·rw [e1,e2]; exact .sl0 _ _
     ·rw [e1]
      have hlt:∀ i' j,i' < len i → j < sz → i' * sz + j < vs'.size:=by
       intro i' j hi' hj
       have h1:=Nat.mul_le_mul_right sz (show i' + 1 ≤ len i from hi')
       have h2:=Nat.mul_le_mul_right sz e5
       rw [Nat.add_mul] at h1; omega
      refine .sl (len i) sz (row i) q 0 cap' (fun i' j=>vs'.getD (i' * sz + j) undef) (hZ p h _ (.inr (k2 q e2))) e5 e7 ?_ ?_ ?_
      ·intro i' j hi' hj
       have hk:=hlt i' j hi' hj
       rw [Nat.zero_add,cell_of_row w q _ vs' ety (0,0) e3]
       simp [Array.getD_eq_getD_getElem?,hk]
      ·intro i' j hi' hj
       have hk:=hlt i' j hi' hj
       have:=(e8 i' j hi' (by rw [e7 i' hi']; exact hj) hk).2
       simpa [Array.getD_eq_getD_getElem?,hk] using this
      ·intro i' j hi' hj
       have hk:=hlt i' j hi' (by rw [← e7 i' hi']; exact hj)
       have:=(e8 i' j hi' hj hk).1
       simp only [Array.getD_eq_getD_getElem?,Array.getElem?_eq_getElem hk,Option.getD_some]
       exact this.mono hA (fun _ _=>rfl)
   ·exact .junk _
  ·exact .junk _
theorem omap_imm (hs:Sim c s m a w ids) {b:Nat} {v:Value} (hA:∀ x,imOf c ids w x → im' x) (hZ:∀ p,ids[b]? = some (.lv p) → ∀ x,p.has x → im' x) (hr:Rel ids (imOf c ids w) w (.omap b) v) :
  RelI im' w (wk m 1 (.omap b)) v:=by
 cases hr with
 | omapS b x h=>simp only [wk,hs.stale_gone h]; exact .junk _
 | imm h=>cases h
 | omap b p h =>
  simp only [wk]
  split
  ·rename_i g n key val hb
   obtain ⟨x,hxm,hbr⟩:=hs.blk_at h
   rw [getD_of_get hxm] at hb; subst hb
   obtain ⟨es,clock,f,g1,g2,g3,g4,g5,_⟩:=hbr
   exact .mv g n key val p.blk es clock f (hZ p h _ (.inl rfl)) g1 g2 g3 g4 (fun i hi=>(g5 i hi).mono hA (fun _ _=>rfl))
  ·exact .junk _

/-! ### A row of ours that is written no more -/
def frz (b:Nat) (q:Option (List A)) (y z:A):Nat → A → A
 | 0,_=>.junk
 | d + 1,x=>match x with
  | .ref b' o=>match Nat.beq b' b with
   | true=>match q with
    | some cs=>.bref cs o
    | none=>.junk
   | false=>.ref b' o
  | .oref b' i o=>match Nat.beq b' b with
   | true=>.junk
   | false=>.oref b' i o
  | .own b'=>match Nat.beq b' b with
   | true=>y
   | false=>.own b'
  | .omap b'=>match Nat.beq b' b with
   | true=>z
   | false=>.omap b'
  | .ent _ _=>.junk
  | .osl _ _=>.junk
  | .agg cs=>.agg (cs.map (frz b q y z d))
  | .tup cs=>.tup (cs.map (frz b q y z d))
  | .fn f cs=>.fn f (cs.map (frz b q y z d))
  | x=>x
def frzB (b:Nat) (q:Option (List A)) (y z:A) (d:Nat):Blk → Blk
 | .box ty cs=>.box ty (cs.map (frz b q y z d))
 | .ghost cs=>.ghost (cs.map (frz b q y z d))
 | x=>x
theorem frz_rel {b:Nat} {q:Option (List A)} {y z:A} (hq:∀ cs o v,q = some cs → Rel ids im w (.ref b o) v → RelI im' w (.bref cs o) v) (hi:∀ b,im b → im' b) (hd:∀ (b':Nat) p,b' ≠ b → ids[b']? = some p → ids'[b']? = some p)
  (hy:∀ v,Rel ids im w (.own b) v → RelI im' w y v) (hy2:∀ v,Rel ids im w (.omap b) v → RelI im' w z v) :
  ∀ (d:Nat) (x:A) (v:Value),Rel ids im w x v → Rel ids' im' w (frz b q y z d x) v
 | 0,x,v,_=>.imm (.junk _)
 | d + 1,x,v,h=>by
  have keep:∀ y,RelI im w y v → Rel ids' im' w y v:=fun y hy=>.imm (hy.mono hi (fun _ _=>rfl))
  cases x with
  | ref b' o =>
   simp only [frz]
   split
   ·rename_i hb
    have:=Nat.eq_of_beq_eq_true hb
    subst this
    split
    ·exact .imm (hq _ _ _ rfl h)
    ·exact .imm (.junk _)
   ·rename_i hb
    rcases h.ref_inv with ⟨p,h1,rfl⟩ | ⟨h1,x,y,rfl⟩
    rotate_left
    ·exact .refS _ _ x y (hd b' _ (fun e=>by subst e; simp at hb) h1)
    exact .ref _ _ p (hd b' _ (fun e=>by subst e; simp at hb) h1)
  | oref b' i o =>
   simp only [frz]
   split
   ·exact .imm (.junk _)
   ·rename_i hb
    rcases h.oref_inv with ⟨p,h1,rfl⟩ | ⟨h1,x,y,rfl⟩
    rotate_left
    ·exact .orefS _ _ _ x y (hd b' _ (fun e=>by subst e; simp at hb) h1)
    exact .oref _ _ _ p (hd b' _ (fun e=>by subst e; simp at hb) h1)
  | own b' =>
   simp only [frz]
   split
   ·rename_i hb
    have:=Nat.eq_of_beq_eq_true hb
    subst this
    exact .imm (hy v h)
   ·rename_i hb
    have hne:b' ≠ b:=fun e=>by subst e; simp at hb
    rcases h.own_inv with ⟨h1,rfl⟩ | ⟨p,cap,h1,h2,h3,rfl⟩ | ⟨h1,x,n,cap,rfl⟩
    ·exact .own0 _ (hd b' _ hne h1)
    ·exact .own _ cap p (hd b' _ hne h1) h2 h3
    ·exact .ownS _ x n cap (hd b' _ hne h1)
  | omap b' =>
   simp only [frz]
   split
   ·rename_i hb
    have:=Nat.eq_of_beq_eq_true hb
    subst this
    exact .imm (hy2 v h)
   ·rename_i hb
    rcases h.omap_inv with ⟨p,h1,rfl⟩ | ⟨h1,x,rfl⟩
    rotate_left
    ·exact .omapS _ x (hd b' _ (fun e=>by subst e; simp at hb) h1)
    exact .omap _ p (hd b' _ (fun e=>by subst e; simp at hb) h1)
  | agg cs =>
   obtain ⟨vs,rfl,hl,ho,hr⟩:=h.agg_inv
   exact .agg _ vs (by simpa using hl) ho (fun j h h'=>by rw [List.getElem_map]; exact frz_rel hq hi hd hy hy2 d _ _ (hr j (by simpa using h) h'))
  | tup cs =>
   obtain ⟨vs,rfl,hl,hr⟩:=h.tup_inv
   exact .tup _ vs (by simpa using hl) (fun j h h'=>by rw [List.getElem_map]; exact frz_rel hq hi hd hy hy2 d _ _ (hr j (by simpa using h) h'))
  | fn f cs =>
   obtain ⟨vs,rfl,hl,hr⟩:=h.fn_inv
   exact .fn f _ vs (by simpa using hl) (fun j h h'=>by rw [List.getElem_map]; exact frz_rel hq hi hd hy hy2 d _ _ (hr j (by simpa using h) h'))
  | int k n=>cases h with | imm h=>exact keep _ h
  | bool k=>cases h with | imm h=>exact keep _ h
  | sb k=>cases h with | imm h=>exact keep _ h
  | str k=>cases h with | imm h=>exact keep _ h
  | nilp=>cases h with | imm h=>exact keep _ h
  | bref cs off=>cases h with | imm h=>exact keep _ h
  | nils=>cases h with | imm h=>exact keep _ h
  | sl n sz row=>cases h with | imm h=>exact keep _ h
  | nilfn=>cases h with | imm h=>exact keep _ h
  | nilm=>cases h with | imm h=>exact keep _ h
  | mv g n k v=>cases h with | imm h=>exact keep _ h
  | junk=>exact .imm (.junk _)
  | ent=>exact .imm (.junk _)
  | osl=>exact .imm (.junk _)

theorem Sim.freeze (hs:Sim c s m a w ids) (b:Nat) (q:Option (List A)) (y z:A) (d:Nat) (hq:q = none ∨ ∃ ty cs,q = some cs ∧ m.getD b .dead = .box ty cs ∧ cs.any (hasOwn 4) = false) (hy:y = wk m 1 (.own b) ∨ y = .junk) (hy2:z = wk m 1 (.omap b) ∨ z = .junk) :
  Sim c (s.map (frz b q y z d)) ((m.map (frzB b q y z d)).set b .dead) a w (ids.set b .dead):=by
 have mem:∀ (k:Nat) r,(ids.set b .dead)[k]? = some (IdE.lv r) → k ≠ b ∧ ids[k]? = some (.lv r):=by
  intro k r h
  rw [List.getElem?_set] at h
  split at h
  ·split at h <;> cases h
  ·rename_i hne; exact ⟨fun e=>hne e.symm,h⟩
 have hown:∀ r,IdE.lv r ∈ ids.set b .dead → ∀ x,r.has x → x < w.heap.size ∧ (w.heap.size ≤ x ∨ ∃ (b:Nat) (p:Id),ids[b]? = some (.lv p) ∧ p.has x):=by
  intro r hr x hx
  obtain ⟨k,hk⟩:=List.getElem?_of_mem hr
  obtain ⟨_,e⟩:=mem k r hk
  exact ⟨(hs.freshX r (List.mem_of_getElem? e) x hx).2,.inr ⟨k,r,e,hx⟩⟩
 obtain ⟨hi1,hi2⟩:=hs.im_stays (w':=w) (ids':=ids.set b .dead) (Nat.le_refl _) (fun _ _ _=>rfl) hown
 have hZ:∀ p,ids[b]? = some (.lv p) → ∀ x,p.has x → imOf c (ids.set b .dead) w x:=by
  intro p hp x hx
  have hf:=hs.freshX p (List.mem_of_getElem? hp) x hx
  refine .inr ⟨hf.1,hf.2,fun q hq hx'=>?_⟩
  obtain ⟨k,hk⟩:=List.getElem?_of_mem hq
  obtain ⟨e1,e2⟩:=mem k q hk
  exact e1 (hs.distinctX k b q p x e2 hp hx' hx)
 have hd:∀ (b':Nat) p,b' ≠ b → ids[b']? = some p → (ids.set b .dead)[b']? = some p:=by
  intro b' p hne h
  rw [List.getElem?_set_ne (fun e=>hne e.symm)]; exact h
 have hq':∀ cs o v,q = some cs → Rel ids (imOf c ids w) w (.ref b o) v → RelI (imOf c (ids.set b .dead) w) w (.bref cs o) v:=by
  intro cs o v he hv
  rcases hq with h | ⟨ty,cs',h,hbx,hown'⟩
  ·rw [h] at he; cases he
  ·rw [h] at he; cases he
   obtain ⟨p,hid,rfl⟩:=hs.ref_at hv (by rw [hbx]; simp)
   obtain ⟨vs,h1,h2,h3,h4⟩:=hs.run_box hid hbx
   have:=RelI.bref (im:=imOf c (ids.set b .dead) w) (w:=w) p.blk 0 o cs (fun j=>vs.getD j undef) (hZ p hid _ (.inl rfl))
    (fun j hj=>by have:=h2 j (by omega); simpa [List.getD_eq_getElem?_getD,show j < vs.length by omega] using this)
    (fun j hj=>by have:=h3 _ (List.getElem_mem (show j < vs.length by omega)); simpa [List.getD_eq_getElem?_getD,show j < vs.length by omega] using this)
    (fun j hj=>by
     have g1:hasOwn 4 cs[j] = false:=by
      have:=List.any_eq_false.1 hown' _ (List.getElem_mem hj)
      simpa using this
     have g2:=hasOwn_rel 4 _ _ g1 (h4 j hj (by omega))
     have g3:=g2.mono hi1 (fun _ _=>rfl)
     simpa [List.getD_eq_getElem?_getD,show j < vs.length by omega] using g3)
   simpa using this
 have hy':∀ v,Rel ids (imOf c ids w) w (.own b) v → RelI (imOf c (ids.set b .dead) w) w y v:=by
  intro v hv
  rcases hy with h | h
  ·rw [h]; exact own_imm hs hi1 hZ hv
  ·rw [h]; exact .junk _
 have hy2':∀ v,Rel ids (imOf c ids w) w (.omap b) v → RelI (imOf c (ids.set b .dead) w) w z v:=by
  intro v hv
  rcases hy2 with h | h
  ·rw [h]; exact omap_imm hs hi1 hZ hv
  ·rw [h]; exact .junk _
 refine hs.goOn rfl rfl rfl (Nat.le_refl _) (fun _ _ _=>rfl) hown (fun vs h=>by
  rcases List.mem_or_eq_of_mem_set h with h | h
  ·exact h
  ·cases h) ?_ (by simp) (by simp [hs.mlen]) ?_ ?_
 ·intro k k' r r' x e1 e2 x1 x2
  exact hs.distinctX k k' r r' x (mem k r e1).2 (mem k' r' e2).2 x1 x2
 ·intro k h h'
  rw [List.getElem_map]
  exact frz_rel hq' hi1 hd hy' hy2' d _ _ (hs.slots k (by simpa using h) h')
 ·intro k hk hk'
  simp only [List.length_set,List.length_map] at hk hk'
  rw [List.getElem_set,List.getElem_set]
  split
  ·exact rfl
  ·rename_i he
   rw [List.getElem_map]
   have hB:=hs.blks k hk hk'
   cases hm:m[k] with
   | box ty cs =>
    rw [hm] at hB
    cases hp:ids[k] with
    | dead=>rw [hp] at hB; exact hB.elim
    | stale=>rw [hp] at hB; exact hB.elim
    | virt=>rw [hp] at hB; exact hB.elim
    | gho vs=>rw [hp] at hB; exact hB.elim
    | lv p =>
     rw [hp] at hB
     obtain ⟨vs,g1,g2,g3,g4⟩:=hB
     refine ⟨vs,g1,g2,by simpa using g3,?_⟩
     intro j hj hj'
     have:=g4 j (by simpa using hj) hj'
     rw [List.getElem_map]
     exact ⟨frz_rel hq' hi1 hd hy' hy2' d _ _ this.1,this.2⟩
   | dead=>rw [hm] at hB; exact hB
   | gone=>rw [hm] at hB; exact hB
   | ghost cs =>
    rw [hm] at hB
    cases hp:ids[k] with
    | dead=>rw [hp] at hB; exact hB.elim
    | stale=>rw [hp] at hB; exact hB.elim
    | virt=>rw [hp] at hB; exact hB.elim
    | lv p=>rw [hp] at hB; exact hB.elim
    | gho vs =>
     rw [hp] at hB
     refine ⟨by simpa using hB.1,fun j hj hj'=>?_⟩
     rw [List.getElem_map]
     exact frz_rel hq' hi1 hd hy' hy2' d _ _ (hB.2 j (by simpa using hj) hj')
   | row ty sz n row=>rw [hm] at hB; exact BRel.reid (ids:=[]) (ids':=_) hi1 hi2 (fun _ _ h=>by simp at h) (fun _ _ _ _=>rfl) (by cases h:ids[k] <;> rw [h] at hB <;> exact hB)
   | nest ty ety sz n ho le row=>rw [hm] at hB; exact BRel.reid (ids:=[]) (ids':=_) hi1 hi2 (fun _ _ h=>by simp at h) (fun _ _ _ _=>rfl) (by cases h:ids[k] <;> rw [h] at hB <;> exact hB)
   | mapb g n key val=>rw [hm] at hB; exact BRel.reid (ids:=[]) (ids':=_) hi1 hi2 (fun _ _ h=>by simp at h) (fun _ _ _ _=>rfl) (by cases h:ids[k] <;> rw [h] at hB <;> exact hB)
   | mapx g n key val=>rw [hm] at hB; exact BRel.reid (ids:=[]) (ids':=_) hi1 hi2 (fun _ _ h=>by simp at h) (fun _ _ _ _=>rfl) (by cases h:ids[k] <;> rw [h] at hB <;> exact hB)

def frzF (b:Nat) (s:List A) (m:List Blk) (K:List A → List Blk → Prop):Prop :=
 match m.getD b .dead with
 | .row _ sz n row=>fd.fdl 4 (s.map (frz b none (.sl n sz row) .junk 4)) fun s'=>fbs ((m.map (frzB b none (.sl n sz row) .junk 4)).set b .dead) fun m'=>K s' m'
 | .nest _ _ sz n hole len row=>match hole with
  | none=>fd.fdl 4 (s.map (frz b none (.sl n 1 fun i=>[.sl (len i) sz (row i)]) .junk 4)) fun s'=>fbs ((m.map (frzB b none (.sl n 1 fun i=>[.sl (len i) sz (row i)]) .junk 4)).set b .dead) fun m'=>K s' m'
  | some _=>False
 | .mapb g n key val=>fd.fdl 4 (s.map (frz b none .junk (.mv g n key val) 4)) fun s'=>fbs ((m.map (frzB b none .junk (.mv g n key val) 4)).set b .dead) fun m'=>K s' m'
 | .box _ cs=>match cs.any (hasOwn 4) with
  | false=>fd.fdl 4 (s.map (frz b (some cs) .junk .junk 4)) fun s'=>fbs ((m.map (frzB b (some cs) .junk .junk 4)).set b .dead) fun m'=>K s' m'
  | true=>False
 | _=>False
theorem frzF_sound (hs:Sim c s m a w ids) {b:Nat} {K:List A → List Blk → Prop} (h:frzF b s m K):∃ s' m' ids',K s' m' ∧ Sim c s' m' a w ids':=by
 unfold frzF at h
 split at h
 ·rename_i ty sz n row hb
  rw [fdl_eq,fbs_eq] at h
  exact ⟨_,_,_,h,hs.freeze b none _ _ 4 (.inl rfl) (.inl (by simp only [wk,hb])) (.inr rfl)⟩
 ·rename_i ty ety sz n hole len row hb
  split at h
  ·rw [fdl_eq,fbs_eq] at h
   exact ⟨_,_,_,h,hs.freeze b none _ _ 4 (.inl rfl) (.inl (by simp only [wk,hb])) (.inr rfl)⟩
  ·exact h.elim
 ·rename_i g n key val hb
  rw [fdl_eq,fbs_eq] at h
  exact ⟨_,_,_,h,hs.freeze b none _ _ 4 (.inl rfl) (.inr rfl) (.inl (by simp only [wk,hb]))⟩
 ·rename_i ty cs hb
  split at h
  ·rename_i hown
   rw [fdl_eq,fbs_eq] at h
   exact ⟨_,_,_,h,hs.freeze b (some cs) _ _ 4 (.inr ⟨ty,cs,rfl,hb,hown⟩) (.inr rfl) (.inr rfl)⟩
  ·exact h.elim
 ·exact h.elim
def frzMany:List Nat → List A → List Blk → (List A → List Blk → Prop) → Prop
 | [],s,m,K=>K s m
 | b :: bs,s,m,K=>frzF b s m fun s' m'=>frzMany bs s' m' K
theorem frzMany_sound:∀ (bs:List Nat) {s:List A} {m:List Blk} {ids:Ids} {K:List A → List Blk → Prop},Sim c s m a w ids → frzMany bs s m K → ∃ s' m' ids',K s' m' ∧ Sim c s' m' a w ids'
 | [],s,m,ids,K,hs,h=>⟨s,m,ids,h,hs⟩
 | b :: bs,s,m,ids,K,hs,h=>by
  obtain ⟨s',m',ids',h',hs'⟩:=frzF_sound hs h
  exact frzMany_sound bs hs' h'
end
end Go.Proofs.YtmeohhbdkoeadaaGreat.Am
namespace Go.Proofs.YtmeohhbdkoeadaaGreat.Am
variable [Inhabited DRT]
open Go.RowKit (Below)

/-! ### Changes of a state at places that are kept for them; names that are stale -/
section
variable {c:Ctx} {s:List A} {m:List Blk} {a:Act} {w w':World} {ids ids':Ids} {P:Program} {im im':Nat → Prop} {tt:TT} {G:GInv}
variable {next:Act → World → Prop} {Q:Exit → Act → World → Prop} {o:Oper}

theorem Rel.restale {b:Nat} (hi:∀ b,im b → im' b) (hw:∀ b,im b → w'.heap[b]? = w.heap[b]?) (hd:∀ (b':Nat) p,b' ≠ b → ids[b']? = some p → p ≠ .dead → ∃ q,ids'[b']? = some q ∧ likeE p q)
  (hb:ids'[b]? = some .stale) {x:A} {v:Value} (h:Rel ids im w x v):Rel ids' im' w' x v:=by
 have st:∀ b1,b1 ≠ b → ids[b1]? = some .stale → ids'[b1]? = some .stale:=fun b1 e h=>by
  obtain ⟨q,h1,h2⟩:=hd _ _ e h (by simp)
  have h2:q = .stale:=h2
  rw [h1,h2]
 induction h with
 | imm h=>exact .imm (h.mono hi hw)
 | ref b1 off p h =>
  by_cases e:b1 = b
  ·subst e; exact .refS _ _ _ _ hb
  ·obtain ⟨q,h1,p',rfl,h2⟩:=hd _ _ e h (by simp)
   rw [← h2.1]; exact .ref _ off p' h1
 | oref b1 i off p h =>
  by_cases e:b1 = b
  ·subst e; exact .orefS _ _ _ _ _ hb
  ·obtain ⟨q,h1,p',rfl,h2⟩:=hd _ _ e h (by simp)
   rw [← h2.1,← h2.2.2.2.1]; exact .oref _ i off p' h1
 | own0 b1 h =>
  by_cases e:b1 = b
  ·subst e; exact .ownS _ _ _ _ hb
  ·obtain ⟨q,h1,h2⟩:=hd _ _ e h (by simp)
   have h2:q = .virt:=h2
   subst h2
   exact .own0 _ h1
 | own b1 cap p h hn hm =>
  by_cases e:b1 = b
  ·subst e; exact .ownS _ _ _ _ hb
  ·obtain ⟨q,h1,p',rfl,h2⟩:=hd _ _ e h (by simp)
   rw [← h2.1,← h2.2.2.1]
   exact .own _ cap p' h1 (by rw [h2.2.2.1]; exact hn) (by rw [h2.2.1,h2.2.2.2.1]; exact hm)
 | ownS b1 x n cap h =>
  by_cases e:b1 = b
  ·subst e; exact .ownS _ _ _ _ hb
  ·exact .ownS _ _ _ _ (st _ e h)
 | refS b1 off x y h =>
  by_cases e:b1 = b
  ·subst e; exact .refS _ _ _ _ hb
  ·exact .refS _ _ _ _ (st _ e h)
 | orefS b1 i off x y h =>
  by_cases e:b1 = b
  ·subst e; exact .orefS _ _ _ _ _ hb
  ·exact .orefS _ _ _ _ _ (st _ e h)
 | omapS b1 x h =>
  by_cases e:b1 = b
  ·subst e; exact .omapS _ _ hb
  ·exact .omapS _ _ (st _ e h)
 | omap b1 p h =>
  by_cases e:b1 = b
  ·subst e; exact .omapS _ _ hb
  ·obtain ⟨q,h1,p',rfl,h2⟩:=hd _ _ e h (by simp)
   rw [← h2.1]; exact .omap _ p' h1
 | ent b1 k p n h hn =>
  by_cases e:b1 = b
  ·subst e; exact .entS _ _ _ hb
  ·obtain ⟨q,h1,p',rfl,h2⟩:=hd _ _ e h (by simp)
   exact .ent _ _ p' n h1 (h2.2.2.2.2 _ _ hn)
 | entS b1 k n h =>
  by_cases e:b1 = b
  ·subst e; exact .entS _ _ _ hb
  ·exact .entS _ _ _ (st _ e h)
 | osl b1 k cap x p h hx =>
  by_cases e:b1 = b
  ·subst e; exact .oslS _ _ _ _ _ hb
  ·obtain ⟨q,h1,p',rfl,h2⟩:=hd _ _ e h (by simp)
   rw [← h2.1,← h2.2.2.1]; exact .osl _ k cap x p' h1 (by rw [h2.2.2.1,h2.2.2.2.1]; exact hx)
 | osl0 b1 k h =>
  by_cases e:b1 = b
  ·subst e; exact .oslS _ _ _ _ _ hb
  ·obtain ⟨q,h1,h2⟩:=hd _ _ e h (by simp)
   have h2:q = .virt:=h2
   subst h2
   exact .osl0 _ _ h1
 | oslS b1 k x n cap h =>
  by_cases e:b1 = b
  ·subst e; exact .oslS _ _ _ _ _ hb
  ·exact .oslS _ _ _ _ _ (st _ e h)
 | agg cs vs hl ho hr ih=>exact .agg cs vs hl ho ih
 | tup cs vs hl hr ih=>exact .tup cs vs hl ih
 | fn f cs vs hl hr ih=>exact .fn f cs vs hl ih

theorem BRel.restale {b:Nat} (hi:∀ b,im b → im' b) (hw:∀ b,im b → w'.heap[b]? = w.heap[b]?) (hd:∀ (b':Nat) p,b' ≠ b → ids[b']? = some p → p ≠ .dead → ∃ q,ids'[b']? = some q ∧ likeE p q)
  (hb:ids'[b]? = some .stale) {x:Blk} {p:IdE} (hp:∀ q,p = .lv q → ∀ k,q.has k → w'.heap[k]? = w.heap[k]?) (h:BRel ids im w x p):BRel ids' im' w' x p:=by
 cases x with
 | box ty cs =>
  cases p with
  | dead=>exact h
  | stale=>exact h
  | virt=>exact h
  | gho vs=>exact h
  | lv q =>
   obtain ⟨vs,h1,h2,h3,h4⟩:=h
   exact ⟨vs,by rw [hp _ rfl _ (.inl rfl)]; exact h1,h2,h3,fun j h h'=>⟨(h4 j h h').1.restale hi hw hd hb,(h4 j h h').2⟩⟩
 | dead=>exact h
 | gone=>exact h
 | row ty sz n row=>have h:=BRel.mono (ids:=ids) (ids':=ids) hi hw (fun _ _ h _=>h) hp h; cases p <;> exact h
 | nest ty ety sz n ho le row=>have h:=BRel.mono (ids:=ids) (ids':=ids) hi hw (fun _ _ h _=>h) hp h; cases p <;> exact h
 | mapb g n k v=>have h:=BRel.mono (ids:=ids) (ids':=ids) hi hw (fun _ _ h _=>h) hp h; cases p <;> exact h
 | mapx g n k v=>have h:=BRel.mono (ids:=ids) (ids':=ids) hi hw (fun _ _ h _=>h) hp h; cases p <;> exact h
 | ghost cs =>
  cases p with
  | dead=>exact h
  | stale=>exact h
  | virt=>exact h
  | lv q=>exact h
  | gho vs=>exact ⟨h.1,fun j h1 h2=>(h.2 j h1 h2).restale hi hw hd hb⟩

/-- Block b is gone; what it was, changed, lies at a place that was kept. -/
theorem Sim.regrow (hs:Sim c s m a w ids) (b aid:Nat) (hb:b < m.length) (hbm:m[b]? ≠ some .dead) (hdead:m[aid]? = some .dead) (q:IdE) (x:Blk)
  (hos:w'.os = w.os) (htp:w'.tape = w.tape) (hou:w'.output = w.output) (hsz:w.heap.size ≤ w'.heap.size)
  (hbl:∀ k,k < w.heap.size → (∀ p,ids[b]? = some (.lv p) → ¬ p.has k) → w'.heap[k]? = w.heap[k]?)
  (hqg:∀ vs,q ≠ .gho vs)
  (hq:∀ p',q = .lv p' → ∀ x,p'.has x → x < w'.heap.size ∧ (w.heap.size ≤ x ∨ ∃ p,ids[b]? = some (.lv p) ∧ p.has x))
  (hx:(∀ u v,RelI (imOf c ids w) w u v → RelI (imOf c ((ids.set b .stale).set aid q) w') w' u v) → BRel ((ids.set b .stale).set aid q) (imOf c ((ids.set b .stale).set aid q) w') w' x q)
  (hdr:drLe w.drawn w'.drawn:=by exact drLe.refl _) :
  Sim c s ((m.set b .gone).set aid x) a w' ((ids.set b .stale).set aid q):=by
 have hbi:b < ids.length:=by rw [hs.mlen]; exact hb
 obtain ⟨ham,hmd⟩:=List.getElem?_eq_some_iff.1 hdead
 have hai:aid < ids.length:=by rw [hs.mlen]; exact ham
 have hda:ids[aid]? = some .dead:=by
  have:=hs.blks aid ham hai
  rw [hmd] at this
  rw [List.getElem?_eq_getElem hai,show ids[aid] = .dead from this]
 have hab:aid ≠ b:=fun e=>by subst e; exact hbm hdead
 have get_old:∀ k,k ≠ aid → k ≠ b → ((ids.set b .stale).set aid q)[k]? = ids[k]?:=by
  intro k hk hne
  rw [List.getElem?_set_ne (fun e=>hk e.symm),List.getElem?_set_ne (fun e=>hne e.symm)]
 have get_b:((ids.set b .stale).set aid q)[b]? = some .stale:=by rw [List.getElem?_set_ne hab,List.getElem?_set_self hbi]
 have get_q:((ids.set b .stale).set aid q)[aid]? = some q:=by rw [List.getElem?_set_self (by simpa using hai)]
 have cases_id:∀ (k:Nat) (r:Id),((ids.set b .stale).set aid q)[k]? = some (.lv r) → (k = aid ∧ q = .lv r) ∨ (k ≠ b ∧ k ≠ aid ∧ ids[k]? = some (.lv r)):=by
  intro k r h
  by_cases hka:k = aid
  ·subst hka; rw [get_q] at h; exact .inl ⟨rfl,Option.some.inj h⟩
  ·by_cases hkb:k = b
   ·subst hkb; rw [get_b] at h; cases h
   ·rw [get_old k hka hkb] at h; exact .inr ⟨hkb,hka,h⟩
 have hown:∀ r,IdE.lv r ∈ ((ids.set b .stale).set aid q) → ∀ y,r.has y → y < w'.heap.size ∧ (w.heap.size ≤ y ∨ ∃ (b:Nat) (p:Id),ids[b]? = some (.lv p) ∧ p.has y):=by
  intro r hr y hy
  obtain ⟨k,hk⟩:=List.getElem?_of_mem hr
  rcases cases_id k r hk with ⟨_,e⟩ | ⟨_,_,e⟩
  ·obtain ⟨h1,h2⟩:=hq r e y hy
   exact ⟨h1,h2.imp id fun ⟨p,h3,h4⟩=>⟨b,p,h3,h4⟩⟩
  ·exact ⟨Nat.lt_of_lt_of_le (hs.freshX r (List.mem_of_getElem? e) y hy).2 hsz,.inr ⟨k,r,e,hy⟩⟩
 have hbl':∀ k,k < w.heap.size → (∀ (b:Nat) (p:Id),ids[b]? = some (.lv p) → ¬ p.has k) → w'.heap[k]? = w.heap[k]?:=fun k hk h=>hbl k hk (fun p hp=>h b p hp)
 obtain ⟨hi1,hi2⟩:=hs.im_stays (w':=w') (ids':=(ids.set b .stale).set aid q) hsz hbl' hown
 have hd:∀ (b':Nat) r,b' ≠ b → ids[b']? = some r → r ≠ .dead → ∃ q',((ids.set b .stale).set aid q)[b']? = some q' ∧ likeE r q':=by
  intro b' r hbb hr hrd
  exact ⟨r,by rw [get_old b' (fun e=>by subst e; rw [hda] at hr; exact hrd (Option.some.inj hr).symm) hbb]; exact hr,likeE_rfl r⟩
 refine hs.goOn (hdr:=hdr) hos htp hou hsz hbl' hown (fun vs h=>?_) ?_ rfl (by simp [hs.mlen]) (fun i h h'=>(hs.slots i h h').restale hi1 hi2 hd get_b) ?_
 ·rcases List.mem_or_eq_of_mem_set h with h | h
  ·rcases List.mem_or_eq_of_mem_set h with h | h
   ·exact h
   ·cases h
  ·exact absurd h.symm (hqg vs)
 ·intro k k' r r' y e1 e2 x1 x2
  rcases cases_id k r e1 with ⟨rfl,e⟩ | ⟨ne,_,e⟩ <;> rcases cases_id k' r' e2 with ⟨rfl,e'⟩ | ⟨ne',_,e'⟩
  ·rfl
  ·rcases (hq r e y x1).2 with h | ⟨p,h1,h2⟩
   ·have:=(hs.freshX r' (List.mem_of_getElem? e') y x2).2; omega
   ·exact absurd (hs.distinctX _ _ p r' y h1 e' h2 x2).symm ne'
  ·rcases (hq r' e' y x2).2 with h | ⟨p,h1,h2⟩
   ·have:=(hs.freshX r (List.mem_of_getElem? e) y x1).2; omega
   ·exact absurd (hs.distinctX _ _ r p y e h1 x1 h2) ne
  ·exact hs.distinctX k k' r r' y e e' x1 x2
 ·intro k hk hk'
  simp only [List.length_set] at hk
  have hat:((ids.set b .stale).set aid q)[k]? = some ((ids.set b .stale).set aid q)[k]:=List.getElem?_eq_getElem hk'
  rw [List.getElem_set]
  split
  ·rename_i he; subst he
   rw [get_q] at hat
   rw [← Option.some.inj hat]
   exact hx (fun u v h=>h.mono hi1 hi2)
  ·rename_i hea
   rw [List.getElem_set]
   split
   ·rename_i he; subst he
    rw [get_b] at hat
    rw [← Option.some.inj hat]; exact rfl
   ·rename_i he
    have hki:k < ids.length:=by rw [hs.mlen]; exact hk
    rw [get_old k (fun e=>hea e.symm) (fun e=>he e.symm),List.getElem?_eq_getElem hki] at hat
    rw [← Option.some.inj hat]
    refine (hs.blks k hk hki).restale hi1 hi2 hd get_b ?_
    intro q' hq' y hy
    have hpi:ids[k]? = some (.lv q'):=by rw [List.getElem?_eq_getElem hki,hq']
    refine hbl y (hs.freshX q' (List.mem_of_getElem? hpi) y hy).2 (fun p0 hp0 e=>?_)
    exact he (hs.distinctX b k p0 q' y hp0 hpi e hy)
/-- A nest from which an inner row is taken. -/
theorem Sim.takeAt (hs:Sim c s m a w ids) {b i:Nat} {aid:Nat} (hdead:m[aid]? = some .dead) {ty ety:TypeId} {sz n:Nat} {len:Nat → Nat} {row:Nat → Nat → List A} (hb:m.getD b .dead = .nest ty ety sz n none len row) (hi:i < n) :
  ∃ p vs ids' v,ids[b]? = some (.lv p) ∧ w.heap[p.blk]? = some (.cells vs ty (0,0)) ∧ vs[i]? = some v ∧ p.sz = 1 ∧
   Sim c s ((m.set b (.nest ty ety sz n (some i) len row)).set aid (.row ety sz (len i) (row i))) a w ids' ∧ Rel ids' (imOf c ids' w) w (.own aid) v:=by
 obtain ⟨p,hid,hB,hbm,hbi⟩:=nest_at hs hb (by omega)
 obtain ⟨g1,g2,g3,vs,h1,h2,h3,kb,h4⟩:=hB
 have hivs:i < vs.size:=by omega
 obtain ⟨k1,k2,k3⟩:=h4 i hi (by simp) hivs
 -- the new names
 let p':Id:=⟨p.blk,p.k,p.n,p.sz,fun x=>p.kid x ∧ kb i ≠ some x,p.hist⟩
 have hsub:∀ x,p'.has x → p.has x:=by
  rintro x (h | h)
  ·exact .inl h
  ·exact .inr h.1
 have hq:∃ q:IdE,(∀ q',q = .lv q' → ∀ x,q'.has x → kb i = some x) ∧ (∀ im w',(∀ x,kb i = some x → w'.heap[x]? = w.heap[x]?) → (∀ u v,RelI (imOf c ids w) w u v → RelI im w' u v) → ∀ ids',BRel ids' im w' (.row ety sz (len i) (row i)) q) ∧
   (∀ ids' im w' k,ids'[k]? = some q → Rel ids' im w' (.own k) vs[i]):=by
  rcases k1 with ⟨e1,e2,e3⟩ | ⟨q,cap,us,e1,e2,e3,e4,e5,e6,e7,e8⟩
  ·exact ⟨.virt,(fun q' h=>by cases h),(fun _ _ _ _ _=>e2),(fun ids' im w' k h=>by rw [e1]; exact .own0 k h)⟩
  ·refine ⟨.lv (mkId q us.size (len i) sz),(fun q' h x hx=>by cases h; rw [mkId_has hx]; exact e2),?_,?_⟩
   ·intro im w' hk hm ids'
    refine ⟨rfl,rfl,us,by show w'.heap[q]? = _; rw [hk q e2]; exact e3,rfl,?_,e7,fun i' j hi' h h'=>⟨hm _ _ (e8 i' j hi' h h').1,(e8 i' j hi' h h').2⟩⟩
    show len i * sz ≤ us.size
    rw [e4]; exact Nat.mul_le_mul_right _ e5
   ·intro ids' im w' k h
    rw [e1]
    exact .own k cap (mkId q us.size (len i) sz) h ⟨e5,e6⟩ e4.symm
 obtain ⟨q,hq1,hq2,hq3⟩:=hq
 obtain ⟨ham,hmd⟩:=List.getElem?_eq_some_iff.1 hdead
 have hai:aid < ids.length:=by rw [hs.mlen]; exact ham
 have hda:ids[aid]? = some .dead:=by
  have:=hs.blks aid ham hai
  rw [hmd] at this
  rw [List.getElem?_eq_getElem hai,show ids[aid] = .dead from this]
 have hab:aid ≠ b:=fun e=>by subst e; rw [hda] at hid; cases hid
 let ids':=(ids.set b (.lv p')).set aid q
 have hl':ids'.length = ids.length:=by simp [ids']
 have get_old:∀ k,k ≠ aid → k ≠ b → ids'[k]? = ids[k]?:=by
  intro k hk hne
  simp only [ids']
  rw [List.getElem?_set_ne (fun e=>hk e.symm),List.getElem?_set_ne (fun e=>hne e.symm)]
 have get_b:ids'[b]? = some (.lv p'):=by
  simp only [ids']
  rw [List.getElem?_set_ne hab,List.getElem?_set_self hbi]
 have get_q:ids'[aid]? = some q:=by
  simp only [ids']
  rw [List.getElem?_set_self (by simpa using hai)]
 have cases_id:∀ (k:Nat) (r:Id),ids'[k]? = some (.lv r) → (k = b ∧ r = p') ∨ (k = aid ∧ q = .lv r) ∨ (k ≠ b ∧ k ≠ aid ∧ ids[k]? = some (.lv r)):=by
  intro k r h
  by_cases hka:k = aid
  ·subst hka; rw [get_q] at h; exact .inr (.inl ⟨rfl,Option.some.inj h⟩)
  ·by_cases hkb:k = b
   ·subst hkb; rw [get_b] at h; cases h; exact .inl ⟨rfl,rfl⟩
   ·rw [get_old k hka hkb] at h; exact .inr (.inr ⟨hkb,hka,h⟩)
 have hown:∀ r,IdE.lv r ∈ ids' → ∀ x,r.has x → x < w.heap.size ∧ (w.heap.size ≤ x ∨ ∃ (b:Nat) (p:Id),ids[b]? = some (.lv p) ∧ p.has x):=by
  intro r hr x hx
  obtain ⟨k,hk⟩:=List.getElem?_of_mem hr
  rcases cases_id k r hk with ⟨_,rfl⟩ | ⟨_,e⟩ | ⟨_,_,e⟩
  ·exact ⟨(hs.freshX p (List.mem_of_getElem? hid) x (hsub x hx)).2,.inr ⟨b,p,hid,hsub x hx⟩⟩
  ·have hx':p.has x:=.inr (k2 x (hq1 r e x hx))
   exact ⟨(hs.freshX p (List.mem_of_getElem? hid) x hx').2,.inr ⟨b,p,hid,hx'⟩⟩
  ·exact ⟨(hs.freshX r (List.mem_of_getElem? e) x hx).2,.inr ⟨k,r,e,hx⟩⟩
 obtain ⟨hi1,hi2⟩:=hs.im_stays (w':=w) (ids':=ids') (Nat.le_refl _) (fun _ _ _=>rfl) hown
 have hd:∀ (b':Nat) r,ids[b']? = some r → r ≠ .dead → ∃ q,ids'[b']? = some q ∧ likeE r q:=by
  intro b' r hr hrd
  by_cases hbb:b' = b
  ·subst hbb; rw [hid] at hr; cases hr
   exact ⟨_,get_b,p',rfl,rfl,rfl,rfl,rfl,fun _ _ h=>h⟩
  ·exact ⟨r,by rw [get_old b' (fun e=>by subst e; rw [hda] at hr; exact hrd (Option.some.inj hr).symm) hbb]; exact hr,likeE_rfl r⟩
 have hmono:∀ u v,RelI (imOf c ids w) w u v → RelI (imOf c ids' w) w u v:=fun u v h=>h.mono hi1 hi2
 refine ⟨p,vs,ids',vs[i],hid,h1,Array.getElem?_eq_getElem hivs,g1,?_,hq3 _ _ _ _ get_q⟩
 have hgq:∀ vs,q ≠ .gho vs:=fun vs e=>by
  have:=hq2 (imOf c ids w) w (fun _ _=>rfl) (fun _ _ h=>h) []
  rw [e] at this; exact this
 refine hs.goOn rfl rfl rfl (Nat.le_refl _) (fun _ _ _=>rfl) hown (fun vs h=>by
  simp only [ids'] at h
  rcases List.mem_or_eq_of_mem_set h with h | h
  ·rcases List.mem_or_eq_of_mem_set h with h | h
   ·exact h
   ·cases h
  ·exact absurd h.symm (hgq vs)) ?_ rfl (by simp [ids',hs.mlen]) (fun i h h'=>(hs.slots i h h').reid hi1 hi2 hd) ?_
 ·intro k k' r r' x e1 e2 x1 x2
  have inb:∀ y,q = .lv r → r.has y → p.kid y:=fun y e hy=>k2 y (hq1 r e y hy)
  rcases cases_id k r e1 with ⟨rfl,rfl⟩ | ⟨rfl,e⟩ | ⟨ne,_,e⟩ <;> rcases cases_id k' r' e2 with ⟨rfl,rfl⟩ | ⟨rfl,e'⟩ | ⟨ne',_,e'⟩
  ·rfl
  ·exfalso
   have hx:=hq1 r' e' x x2
   rcases x1 with h | h
   ·exact g3 (by rw [← h]; exact k2 x hx)
   ·exact h.2 hx
  ·exact absurd (hs.distinctX _ _ p r' x hid e' (hsub x x1) x2).symm ne'
  ·exfalso
   have hx:=hq1 r e x x1
   rcases x2 with h | h
   ·exact g3 (by rw [← h]; exact k2 x hx)
   ·exact h.2 hx
  ·rfl
  ·exact absurd (hs.distinctX _ _ p r' x hid e' (.inr (k2 x (hq1 r e x x1))) x2).symm ne'
  ·exact absurd (hs.distinctX _ _ r p x e hid x1 (hsub x x2)) ne
  ·exact absurd (hs.distinctX _ _ r p x e hid x1 (.inr (k2 x (hq1 r' e' x x2)))) ne
  ·exact hs.distinctX k k' r r' x e e' x1 x2
 ·intro k hk hk'
  simp only [List.length_set] at hk
  have hat:ids'[k]? = some ids'[k]:=List.getElem?_eq_getElem hk'
  rw [List.getElem_set]
  split
  ·rename_i he; subst he
   rw [get_q] at hat
   rw [← Option.some.inj hat]
   exact hq2 _ _ (fun _ _=>rfl) hmono _
  ·rename_i hea
   rw [List.getElem_set]
   split
   ·rename_i he; subst he
    rw [get_b] at hat
    rw [← Option.some.inj hat]
    refine ⟨g1,g2,(fun h=>g3 h.1),vs,h1,h2,h3,kb,?_⟩
    intro j hj hhole hjv
    obtain ⟨j1,j2,j3⟩:=h4 j hj (by simp) hjv
    have hji:j ≠ i:=fun e=>hhole (by rw [e])
    refine ⟨j1.mono hi1 hi2 (fun _ _=>rfl),fun x hx=>⟨j2 x hx,fun e=>?_⟩,fun j' hj' _ e1 e2=>j3 j' hj' (by simp) e1 e2⟩
    exact hji (k3 j hj (by simp) (by rw [hx,e]) (by rw [e]; simp))
   ·rename_i he
    have hki:k < ids.length:=by rw [hs.mlen]; exact hk
    rw [get_old k (fun e=>hea e.symm) (fun e=>he e.symm),List.getElem?_eq_getElem hki] at hat
    rw [← Option.some.inj hat]
    exact (hs.blks k hk hki).reid hi1 hi2 hd (fun _ _ _ _=>rfl)
/-- An inner row is put back. -/
theorem Sim.putStale (hs:Sim c s m a w ids) {b b' i:Nat} {ty ety:TypeId} {sz n n':Nat} {len:Nat → Nat} {row:Nat → Nat → List A} {row':Nat → List A} (hb:m.getD b .dead = .nest ty ety sz n (some i) len row)
  (hb':m.getD b' .dead = .row ety sz n' row') (hne:b ≠ b') (hi:i < n) {v:Value} (hv:Rel ids (imOf c ids w) w (.own b') v) :
  ∃ p vs ids',ids[b]? = some (.lv p) ∧ w.heap[p.blk]? = some (.cells vs ty (0,0)) ∧ i < vs.size ∧ p.sz = 1 ∧
   Sim c s ((m.set b (.nest ty ety sz n none (updN len i n') (updN row i row'))).set b' .gone) a (w.setRow p.blk (vs.setIfInBounds i v)) ids':=by
 obtain ⟨p,hid,hB,hbm,hbi⟩:=nest_at hs hb (by omega)
 obtain ⟨g1,g2,g3,vs,h1,h2,h3,kb,h4⟩:=hB
 have hivs:i < vs.size:=by omega
 obtain ⟨hbm',hm'⟩:=getD_some (by simp) hb'
 have hbi':b' < ids.length:=by rw [hs.mlen]; exact hbm'
 let w':=w.setRow p.blk (vs.setIfInBounds i v)
 have hsz:w'.heap.size = w.heap.size:=by simp [w',World.setRow]
 -- the inner block's name
 have hx:∃ x:Option Nat,(∀ y,x = some y → ∃ q,ids[b']? = some (.lv q) ∧ q.blk = y) ∧
   (∀ im w',(∀ y,x = some y → w'.heap[y]? = w.heap[y]?) → (∀ u v,RelI (imOf c ids w) w u v → RelI im w' u v) → Inner im w' ety sz n' row' v x):=by
  rcases own_len hs hv hb' with ⟨e1,e2,e3⟩ | ⟨q,cap,e1,e2,e3,e4,e5,e6⟩
  ·exact ⟨none,(fun y h=>by cases h),fun _ _ _ _=>.inl ⟨e2,e1,rfl⟩⟩
  ·have hB':=hs.blks b' hbm' hbi'
   rw [List.getElem?_eq_getElem hbi'] at e1
   rw [hm',Option.some.inj e1] at hB'
   obtain ⟨q1,q2,us,q3,q4,q5,q6,q7⟩:=hB'
   refine ⟨some q.blk,(fun y h=>by cases h; exact ⟨q,by rw [List.getElem?_eq_getElem hbi']; exact e1,rfl⟩),fun im w' hk hm=>.inr ⟨q.blk,cap,us,e6,rfl,by rw [hk _ rfl]; exact q3,by rw [q4,e3],e2.1,e2.2,q6,fun i' j hi' h h'=>⟨hm _ _ (q7 i' j hi' h h').1,(q7 i' j hi' h h').2⟩⟩⟩
 obtain ⟨x,hx1,hx2⟩:=hx
 let p':Id:=⟨p.blk,p.k,p.n,p.sz,fun y=>p.kid y ∨ x = some y,p.hist⟩
 have hsub:∀ y,p'.has y → p.has y ∨ x = some y:=by
  rintro y (h | h | h)
  ·exact .inl (.inl h)
  ·exact .inl (.inr h)
  ·exact .inr h
 let ids':=(ids.set b (.lv p')).set b' .stale
 have hl':ids'.length = ids.length:=by simp [ids']
 have get_old:∀ k,k ≠ b → k ≠ b' → ids'[k]? = ids[k]?:=by
  intro k h1 h2
  simp only [ids']
  rw [List.getElem?_set_ne (fun e=>h2 e.symm),List.getElem?_set_ne (fun e=>h1 e.symm)]
 have get_b:ids'[b]? = some (.lv p'):=by
  simp only [ids']
  rw [List.getElem?_set_ne (fun e=>hne e.symm),List.getElem?_set_self hbi]
 have get_b':ids'[b']? = some .stale:=by
  simp only [ids']
  rw [List.getElem?_set_self (by simpa using hbi')]
 have cases_id:∀ (k:Nat) (r:Id),ids'[k]? = some (.lv r) → (k = b ∧ r = p') ∨ (k ≠ b ∧ k ≠ b' ∧ ids[k]? = some (.lv r)):=by
  intro k r h
  by_cases hkb:k = b
  ·subst hkb; rw [get_b] at h; cases h; exact .inl ⟨rfl,rfl⟩
  ·by_cases hkb':k = b'
   ·subst hkb'; rw [get_b'] at h; cases h
   ·rw [get_old k hkb hkb'] at h; exact .inr ⟨hkb,hkb',h⟩
 have hown:∀ r,IdE.lv r ∈ ids' → ∀ y,r.has y → y < w'.heap.size ∧ (w.heap.size ≤ y ∨ ∃ (b:Nat) (p:Id),ids[b]? = some (.lv p) ∧ p.has y):=by
  intro r hr y hy
  rw [hsz]
  obtain ⟨k,hk⟩:=List.getElem?_of_mem hr
  rcases cases_id k r hk with ⟨_,rfl⟩ | ⟨_,_,e⟩
  ·rcases hsub y hy with h | h
   ·exact ⟨(hs.freshX p (List.mem_of_getElem? hid) y h).2,.inr ⟨b,p,hid,h⟩⟩
   ·obtain ⟨q,q1,q2⟩:=hx1 y h
    have:q.has y:=.inl q2.symm
    exact ⟨(hs.freshX q (List.mem_of_getElem? q1) y this).2,.inr ⟨b',q,q1,this⟩⟩
  ·exact ⟨(hs.freshX r (List.mem_of_getElem? e) y hy).2,.inr ⟨k,r,e,hy⟩⟩
 have hbl:∀ k,k < w.heap.size → (∀ (b:Nat) (p:Id),ids[b]? = some (.lv p) → ¬ p.has k) → w'.heap[k]? = w.heap[k]?:=by
  intro k _ hk
  exact setRow_other w p.blk k _ (fun e=>hk b p hid (.inl e))
 obtain ⟨hi1,hi2⟩:=hs.im_stays (w':=w') (ids':=ids') (by rw [hsz]; exact Nat.le_refl _) hbl hown
 have hd:∀ (k:Nat) r,k ≠ b' → ids[k]? = some r → r ≠ .dead → ∃ q,ids'[k]? = some q ∧ likeE r q:=by
  intro k r hk hr _
  by_cases hbb:k = b
  ·subst hbb; rw [hid] at hr; cases hr
   exact ⟨_,get_b,p',rfl,rfl,rfl,rfl,rfl,fun _ _ h=>h⟩
  ·exact ⟨r,by rw [get_old k hbb hk]; exact hr,likeE_rfl r⟩
 have hmono:∀ u v,RelI (imOf c ids w) w u v → RelI (imOf c ids' w') w' u v:=fun u v h=>h.mono hi1 hi2
 have hpb:∀ (k:Nat) (r:Id) y,ids[k]? = some (.lv r) → k ≠ b → r.has y → w'.heap[y]? = w.heap[y]?:=by
  intro k r y hr hk hy
  refine setRow_other w p.blk y _ (fun e=>hk ?_)
  exact hs.distinctX k b r p y hr hid hy (.inl e)
 refine ⟨p,vs,ids',hid,h1,hivs,g1,?_⟩
 refine hs.goOn rfl rfl rfl (by show w.heap.size ≤ w'.heap.size; rw [hsz]; exact Nat.le_refl _) hbl hown (fun vs h=>by
  simp only [ids'] at h
  rcases List.mem_or_eq_of_mem_set h with h | h
  ·rcases List.mem_or_eq_of_mem_set h with h | h
   ·exact h
   ·cases h
  ·cases h) ?_ (by simp) (by simp [ids',hs.mlen]) ?_ ?_
 ·intro k k' r r' y e1 e2 x1 x2
  rcases cases_id k r e1 with ⟨rfl,rfl⟩ | ⟨ne,ne2,e⟩ <;> rcases cases_id k' r' e2 with ⟨rfl,rfl⟩ | ⟨ne',ne2',e'⟩
  ·rfl
  ·rcases hsub y x1 with h | h
   ·exact absurd (hs.distinctX _ _ p r' y hid e' h x2).symm ne'
   ·obtain ⟨q,q1,q2⟩:=hx1 y h
    exact absurd (hs.distinctX _ _ q r' y q1 e' (.inl q2.symm) x2).symm ne2'
  ·rcases hsub y x2 with h | h
   ·exact absurd (hs.distinctX _ _ r p y e hid x1 h) ne
   ·obtain ⟨q,q1,q2⟩:=hx1 y h
    exact absurd (hs.distinctX _ _ r q y e q1 x1 (.inl q2.symm)) ne2
  ·exact hs.distinctX k k' r r' y e e' x1 x2
 ·intro k h h'
  exact (hs.slots k h h').restale hi1 hi2 hd get_b'
 ·intro k hk hk'
  have hat:ids'[k]? = some ids'[k]:=List.getElem?_eq_getElem hk'
  simp only [List.length_set] at hk
  rw [List.getElem_set]
  split
  ·rename_i he; subst he
   rw [get_b'] at hat
   rw [← Option.some.inj hat]; exact rfl
  ·rename_i he
   rw [List.getElem_set]
   split
   ·rename_i he2; subst he2
    rw [get_b] at hat
    rw [← Option.some.inj hat]
    have hv2:∀ j (h:j < (vs.setIfInBounds i v).size) (h':j < vs.size),(vs.setIfInBounds i v)[j] = if i = j then v else vs[j]:=by
     intro j h h'; rw [Array.getElem_setIfInBounds]
    have hkey:∀ y,x = some y → w'.heap[y]? = w.heap[y]?:=by
     intro y hy
     obtain ⟨q,q1,q2⟩:=hx1 y hy
     exact hpb b' q y q1 (fun e=>hne e.symm) (.inl q2.symm)
    have hpk:∀ y,p.kid y → w'.heap[y]? = w.heap[y]?:=by
     intro y hy
     exact setRow_other w p.blk y _ (fun e=>g3 (by rw [← e]; exact hy))
    refine ⟨g1,g2,?_,vs.setIfInBounds i v,setRow_heap w p.blk vs _ ty _ h1,by simp [h2]; rfl,h3,updN kb i x,?_⟩
    ·rintro (h | h)
     ·exact g3 h
     ·obtain ⟨q,q1,q2⟩:=hx1 _ h
      exact hne (hs.distinctX b b' p q p.blk hid q1 (.inl rfl) (.inl q2.symm))
    ·intro j hj _ hjv
     have hjv':j < vs.size:=by simpa using hjv
     rw [hv2 j hjv hjv']
     by_cases hji:j = i
     ·subst hji
      rw [if_pos rfl]
      simp only [updN,if_pos]
      refine ⟨hx2 _ _ hkey hmono,(fun y hy=>.inr hy),?_⟩
      intro j' hj' _ e1 e2
      by_cases hjj:j' = j
      ·exact hjj
      ·exfalso
       rw [if_neg hjj] at e1
       cases hxx:x with
       | none=>exact e2 hxx
       | some y =>
        have hj'v:j' < vs.size:=by omega
        obtain ⟨_,k2,_⟩:=h4 j' hj' (by simp; exact fun e=>hjj e.symm) hj'v
        obtain ⟨q,q1,q2⟩:=hx1 y hxx
        exact hne (hs.distinctX b b' p q y hid q1 (.inr (k2 y (by rw [e1,hxx]))) (.inl q2.symm))
     ·rw [if_neg (fun e=>hji e.symm)]
      simp only [updN,if_neg hji]
      obtain ⟨k1,k2,k3⟩:=h4 j hj (by simp; exact fun e=>hji e.symm) hjv'
      refine ⟨k1.mono hi1 hi2 (fun y hy=>hpk y (k2 y hy)),(fun y hy=>.inl (k2 y hy)),?_⟩
      intro j' hj' _ e1 e2
      by_cases hjj:j' = i
      ·exfalso
       subst hjj
       rw [if_pos rfl] at e1
       cases hxx:x with
       | none=>rw [hxx] at e1; exact e2 e1.symm
       | some y =>
        obtain ⟨q,q1,q2⟩:=hx1 y hxx
        exact hne (hs.distinctX b b' p q y hid q1 (.inr (k2 y (by rw [← e1,hxx]))) (.inl q2.symm))
      ·rw [if_neg hjj] at e1
       exact k3 j' hj' (by simp; exact fun e=>hjj e.symm) e1 e2
   ·rename_i he2
    have hkm:k < m.length:=hk
    have hki:k < ids.length:=by rw [hs.mlen]; exact hkm
    rw [get_old k (fun e=>he2 e.symm) (fun e=>he e.symm),List.getElem?_eq_getElem hki] at hat
    rw [← Option.some.inj hat]
    refine (hs.blks k hkm hki).restale hi1 hi2 hd get_b' ?_
    intro q hq y hy
    exact hpb k q y (by rw [List.getElem?_eq_getElem hki,hq]) (fun e=>he2 e.symm) hy

def setAt {α : Type} (l:List α):Nat → List α → List α
 | _,[]=>l
 | k,x :: xs=>(setAt l (k + 1) xs).set k x
theorem setAt_len {α : Type} (l:List α):∀ (k:Nat) (xs:List α),(setAt l k xs).length = l.length
 | _,[]=>rfl
 | k,x :: xs=>by rw [setAt,List.length_set,setAt_len l (k + 1) xs]
theorem setAt_get {α : Type} (l:List α):∀ (k:Nat) (xs:List α) (i:Nat),(xs.length = 0 ∨ k + xs.length ≤ l.length) → (setAt l k xs)[i]? = if k ≤ i ∧ i < k + xs.length then xs[i - k]? else l[i]?
 | k,[],i,_=>by rw [setAt,if_neg (by simp)]
 | k,x :: xs,i,h=>by
  have h:k + (xs.length + 1) ≤ l.length:=by simpa using h
  rw [setAt,List.getElem?_set,setAt_get l (k + 1) xs i (by omega),setAt_len]
  by_cases hk:k = i
  ·subst hk
   rw [if_pos rfl,if_pos (by omega),if_pos (by simp)]; simp
  ·rw [if_neg hk]
   by_cases h2:k + 1 ≤ i ∧ i < k + 1 + xs.length
   ·rw [if_pos h2,if_pos (by simp; omega),show i - k = (i - (k + 1)) + 1 by omega]; rfl
   ·rw [if_neg h2,if_neg (by simp; omega)]
abbrev shN (aid:Nat):Ren:=renAll fun i=>some (aid + i)
theorem no_mu (x:Nat):¬ muOf [] x:=by rintro ⟨p,h,_⟩; cases h
/-- A function that makes blocks of its own: they lie at places that are kept. -/
theorem callN_run (hs:Sim c s m a w ids) (hG:G.ok c) {g:FuncId} {as : List A} {vs:List Value} (hlen:vs.length = as.length) (hrel:∀ j (h:j < as.length) (h':j < vs.length),RelI (imOf c ids w) w as[j] vs[j])
  {r:A} {mo:List Blk} (hc:MCalls P G g as [] r mo) (hng:noGhost mo = true) {aid:Nat} (hdd:∀ j,j < mo.length → m[aid + j]? = some .dead) :
  Calls P g vs.toArray w fun e w'=>∃ v ids',e = .returned v ∧ ∀ d,Sim c (_root_.Go.Proofs.YtmeohhbdkoeadaaGreat.Am.putD s d (renA (shN aid) 4 r)) (setAt m aid (mo.map (renB (shN aid) 4))) (a.put d v) w' ids':=by
 have hGw:G.G w:=hG.now hs.frame
 have hlt:mo.length = 0 ∨ aid + mo.length ≤ m.length:=by
  rcases Nat.eq_zero_or_pos mo.length with h | h
  ·exact .inl h
  ·have:=(List.getElem?_eq_some_iff.1 (hdd (mo.length - 1) (by omega))).1
   omega
 have h0:Sim ⟨w,imOf c ids w,muOf [],[]⟩ as [] ⟨vs.toArray,[]⟩ w []:=by
  refine ⟨rfl,by simp [hlen],fun i h h'=>.imm ((hrel i h (by simpa using h')).mono (fun b hb=>.inl hb) (fun _ _=>rfl)),rfl,fun b h=>absurd h (Nat.not_lt_zero _),(fun b b' p q x h=>by simp at h),(fun p h=>by cases h),Fr.refl _ _ _ _,fun b hb=>⟨imOf_lt hs hb,no_mu b⟩,fun vs h=>by cases h⟩
 refine Calls_mono (hc.2 (imOf c ids w) w vs [] [] ⟨hGw,fun b hb=>(no_mu b hb).elim⟩ h0) ?_
 rintro e w' ⟨v,idr,rfl,hr⟩
 have hml:idr.length = mo.length:=hr.mlen
 have hfr:=hr.frame
 have hbl0:∀ k,k < w.heap.size → w'.heap[k]? = w.heap[k]?:=fun k hk=>hfr.block k hk (no_mu k)
 have hnewr:∀ (j:Nat) p,idr[j]? = some (.lv p) → ∀ x,p.has x → w.heap.size ≤ x ∧ x < w'.heap.size:=by
  intro j p hj x hx
  have:=hr.freshX p (List.mem_of_getElem? hj) x hx
  rcases this.1 with h | h
  ·exact ⟨h,this.2⟩
  ·exact (no_mu x h).elim
 have hnst:∀ (j:Nat) p,idr[j]? = some p → (∀ vs,p ≠ .gho vs) ∧ p ≠ .stale:=by
  intro j p hj
  have hjl:=lt_of_get hj
  have hB:=hr.blks j (by omega) hjl
  rw [List.getElem?_eq_getElem hjl] at hj
  rw [Option.some.inj hj] at hB
  have h1:=noGhost_sound hng _ (List.getElem_mem (show j < mo.length by omega))
  have h2:=noGhost_gone hng _ (List.getElem_mem (show j < mo.length by omega))
  generalize mo[j]'(by omega) = x at hB h1 h2
  constructor
  ·rintro vs rfl
   cases x <;> first|exact hB.elim|exact absurd rfl (h1 _)|cases hB
  ·rintro rfl
   cases x <;> first|exact hB.elim|exact absurd rfl h2|cases hB
 have idA:∀ i,(setAt ids aid idr)[i]? = if aid ≤ i ∧ i < aid + idr.length then idr[i - aid]? else ids[i]?:=fun i=>setAt_get ids aid idr i (by rw [hs.mlen]; omega)
 have idOld:∀ (i:Nat) p,ids[i]? = some p → p ≠ .dead → (setAt ids aid idr)[i]? = some p:=by
  intro i p hi hp
  rw [idA,if_neg]
  ·exact hi
  ·rintro ⟨h1,h2⟩
   have h3:=hdd (i - aid) (by omega)
   rw [show aid + (i - aid) = i by omega] at h3
   obtain ⟨h4,h5⟩:=List.getElem?_eq_some_iff.1 h3
   have:=hs.blks i h4 (by rw [hs.mlen]; exact h4)
   rw [h5] at this
   rw [List.getElem?_eq_getElem (by rw [hs.mlen]; exact h4)] at hi
   exact hp ((Option.some.inj hi).symm.trans this)
 have idNew:∀ (j:Nat) p,idr[j]? = some p → (setAt ids aid idr)[aid + j]? = some p:=by
  intro j p hj
  have:=lt_of_get hj
  rw [idA,if_pos (by omega),show aid + j - aid = j by omega]; exact hj
 have idCases:∀ (i:Nat) p,(setAt ids aid idr)[i]? = some p → (∃ j,i = aid + j ∧ idr[j]? = some p) ∨ (¬ (aid ≤ i ∧ i < aid + idr.length) ∧ ids[i]? = some p):=by
  intro i p h
  rw [idA] at h
  split at h
  ·rename_i hh; exact .inl ⟨i - aid,by omega,h⟩
  ·rename_i hh; exact .inr ⟨hh,h⟩
 have hown:∀ p',IdE.lv p' ∈ setAt ids aid idr → ∀ x,p'.has x → x < w'.heap.size ∧ (w.heap.size ≤ x ∨ ∃ (b:Nat) (p:Id),ids[b]? = some (.lv p) ∧ p.has x):=by
  intro p' hp x hx
  obtain ⟨i,hi⟩:=List.getElem?_of_mem hp
  rcases idCases i _ hi with ⟨j,_,hj⟩ | ⟨_,hi⟩
  ·have:=hnewr j p' hj x hx; exact ⟨this.2,.inl this.1⟩
  ·exact ⟨Nat.lt_of_lt_of_le (hs.freshX p' (List.mem_of_getElem? hi) x hx).2 hfr.size,.inr ⟨i,p',hi,hx⟩⟩
 obtain ⟨hi1,hi2⟩:=hs.im_stays (w':=w') (ids':=setAt ids aid idr) hfr.size (fun k hk _=>hbl0 k hk) hown
 have hiN:∀ b,imOf ⟨w,imOf c ids w,muOf [],[]⟩ idr w' b → imOf c (setAt ids aid idr) w' b:=by
  rintro b (h | ⟨h1,h2,h3⟩)
  ·exact hi1 b h
  ·have hge:w.heap.size ≤ b:=by
    rcases h1 with h | h
    ·exact h
    ·exact (no_mu b h).elim
   refine .inr ⟨.inl (Nat.le_trans hs.frame.size hge),h2,fun p hp hx=>?_⟩
   obtain ⟨i,hi⟩:=List.getElem?_of_mem hp
   rcases idCases i _ hi with ⟨j,_,hj⟩ | ⟨_,hi⟩
   ·exact h3 p (List.mem_of_getElem? hj) hx
   ·have:=(hs.freshX p (List.mem_of_getElem? hi) b hx).2; omega
 have hτ : RenOk (shN aid) idr (setAt ids aid idr):=by
  refine ⟨fun b b' p h1 h2=>?_,fun b b' p h1 h2 _=>?_,fun b b' p h1 h2=>?_,fun b b' h1 h2=>?_,fun b b' h1 h2=>?_⟩
  all_goals cases h1
  ·exact ⟨p,idNew _ _ h2,rfl⟩
  ·exact ⟨p,idNew _ _ h2,likeE0_rfl p⟩
  ·exact ⟨p,idNew _ _ h2,rfl⟩
  ·exact idNew _ _ h2
  ·exact idNew _ _ h2
 have hsim:Sim c s (setAt m aid (mo.map (renB (shN aid) 4))) a w' (setAt ids aid idr):=by
  refine hs.goOn (hdr:=hfr.drawn) hfr.os hfr.tape hfr.output hfr.size (fun k hk _=>hbl0 k hk) hown (fun vs h=>?_) ?_ rfl (by rw [setAt_len,setAt_len,hs.mlen]) (fun i h h'=>(hs.slots i h h').mono hi1 hi2 (fun b p h1 h2=>idOld b p h1 h2)) ?_
  ·obtain ⟨i,hi⟩:=List.getElem?_of_mem h
   rcases idCases i _ hi with ⟨j,_,hj⟩ | ⟨_,hi⟩
   ·exact absurd rfl ((hnst j _ hj).1 vs)
   ·exact List.mem_of_getElem? hi
  ·intro k k' p q x e1 e2 x1 x2
   rcases idCases k _ e1 with ⟨j,rfl,hj⟩ | ⟨_,hj⟩ <;> rcases idCases k' _ e2 with ⟨j',rfl,hj'⟩ | ⟨_,hj'⟩
   ·rw [hr.distinctX j j' p q x hj hj' x1 x2]
   ·have:=(hnewr j p hj x x1).1
    have:=(hs.freshX q (List.mem_of_getElem? hj') x x2).2; omega
   ·have:=(hnewr j' q hj' x x2).1
    have:=(hs.freshX p (List.mem_of_getElem? hj) x x1).2; omega
   ·exact hs.distinctX k k' p q x hj hj' x1 x2
  ·intro k hk hk'
   have e1:(setAt ids aid idr)[k]? = some (setAt ids aid idr)[k]:=List.getElem?_eq_getElem hk'
   have e2:(setAt m aid (mo.map (renB (shN aid) 4)))[k]? = some (setAt m aid (mo.map (renB (shN aid) 4)))[k]:=List.getElem?_eq_getElem hk
   rw [setAt_get _ _ _ _ (by simpa using hlt)] at e2
   simp only [List.length_map] at e2
   rw [idA] at e1
   rw [hml] at e1
   by_cases hkk:aid ≤ k ∧ k < aid + mo.length
   ·rw [if_pos hkk] at e1 e2
    rw [List.getElem?_map] at e2
    have hj:k - aid < mo.length:=by omega
    rw [List.getElem?_eq_getElem hj] at e2
    rw [List.getElem?_eq_getElem (by omega)] at e1
    simp only [Option.map_some] at e2
    rw [← Option.some.inj e1,← Option.some.inj e2]
    exact renB_rel hiN (fun _ _=>rfl) hτ 4 (fun _ _ _ _=>rfl) (hr.blks (k - aid) hj (by omega))
   ·rw [if_neg hkk] at e1 e2
    have hkm:k < m.length:=lt_of_get e2
    have hki:k < ids.length:=lt_of_get e1
    rw [List.getElem?_eq_getElem hkm] at e2
    rw [List.getElem?_eq_getElem hki] at e1
    rw [← Option.some.inj e1,← Option.some.inj e2]
    refine (hs.blks k hkm hki).mono hi1 hi2 (fun b p h1 h2=>idOld b p h1 h2) (fun q hq y hy=>hbl0 y ?_)
    exact (hs.freshX q (by rw [← hq]; exact List.getElem_mem _) y hy).2
 refine ⟨v,_,rfl,fun d=>hsim.putD d ?_⟩
 have:=hr.slots 0 (by simp) (by simp)
 exact renA_rel hiN (fun _ _=>rfl) hτ 4 _ _ (by simpa using this)

def callN (P:Program) (G:GInv) (f:A) (args:List A) (aid:Nat) (K:A → List Blk → Prop):Prop :=
 match f with
 | .fn g cap=>fd.fdl 4 (args ++ cap) fun as=>match as.any (hasOwn 4) with
  | false=>∃ r mo,MCalls P G g as [] r mo ∧ match noGhost mo with
   | true=>fd 4 (renA (shN aid) 4 r) fun r'=>fbs (mo.map (renB (shN aid) 4)) fun mo'=>K r' mo'
   | false=>False
  | true=>False
 | _=>False
def catB:List Blk → List Blk → (List Blk → Prop) → Prop
 | m,[],K=>K m
 | m,x :: xs,K=>appB m x fun m'=>catB m' xs K
theorem catB_eq:∀ (xs m:List Blk) (K:List Blk → Prop),catB m xs K = K (m ++ xs)
 | [],m,K=>by simp [catB]
 | x :: xs,m,K=>by rw [catB,appB_eq,catB_eq xs]; simp
theorem setAt_end (m:List Blk):∀ (xs:List Blk) (pre:List Blk),setAt (m ++ pre ++ List.replicate xs.length .dead) (m ++ pre).length xs = m ++ pre ++ xs
 | [],pre=>by simp [setAt]
 | x :: xs,pre=>by
  have h:=setAt_end m xs (pre ++ [.dead])
  rw [setAt]
  have e1:m ++ pre ++ List.replicate (x :: xs).length Blk.dead = m ++ (pre ++ [.dead]) ++ List.replicate xs.length .dead:=by
   simp [List.replicate_succ]
  have e2:(m ++ pre).length + 1 = (m ++ (pre ++ [Blk.dead])).length:=by simp; omega
  rw [e1,e2,h]
  simp
theorem callN_sound (hs:Sim c s m a w ids) (hG:G.ok c) {F:Operand} {xs:Array Operand} {ts:Array TypeId} (ho:o.op = .call { callee:=.value F,args:=xs,argTypes:=ts }) {aid:Nat} {K:A → List Blk → Prop}
  (h:callN P G (ev s F) (xs.toList.map (ev s)) aid K)
  (hn:∀ r' mo',K r' mo' → (∃ (m':List Blk) (ids1:Ids),Sim c s m' a w ids1 ∧ (∀ j,j < mo'.length → m'[aid + j]? = some .dead) ∧ ∀ a' w' ids',Sim c (_root_.Go.Proofs.YtmeohhbdkoeadaaGreat.Am.putD s o.dst r') (setAt m' aid mo') a' w' ids' → next a' w')):o.wp P a w next Q:=by
 have hf:=hs.ev F
 unfold callN at h
 split at h
 ·rename_i g cap hv; rw [hv] at hf
  obtain ⟨us,hu1,hu2,hu3⟩:=hf.fn_inv
  rw [fdl_eq] at h
  have hrel:∀ j (h:j < (xs.toList.map (ev s) ++ cap).length) (h':j < (xs.toList.map a.eval ++ us).length),Rel ids (imOf c ids w) w (xs.toList.map (ev s) ++ cap)[j] (xs.toList.map a.eval ++ us)[j]:=by
   intro j h h'
   by_cases hj:j < xs.toList.length
   ·rw [List.getElem_append_left (by simpa using hj),List.getElem_append_left (by simpa using hj)]
    exact evL_rel hs xs.toList j (by simpa using hj) (by simpa using hj)
   ·rw [List.getElem_append_right (by simpa using hj),List.getElem_append_right (by simpa using hj)]
    simp at h h' hj
    have:=hu3 (j - xs.size) (by omega) (by omega)
    simpa using this
  have hlen:(xs.toList.map a.eval ++ us).length = (xs.toList.map (ev s) ++ cap).length:=by simp [hu2]
  have run : ∀ fn cd, P.funcs[g]? = some fn → fn.body = some cd → (fn.name == "runtime.NumGoroutine") = false → (execOp a.eval o).run P w = .ok (.enter g (xs.toList.map a.eval ++ us).toArray) w := by
   intro fn cd h1 h2 h3
   have e:execOp a.eval o = (do let d ← resolve a.eval { callee:=.value F,args:=xs,argTypes:=ts } o.type; invoke d.target d.args):=by unfold execOp; rw [ho]
   have e2:(xs.map a.eval ++ us.toArray) = (xs.toList.map a.eval ++ us).toArray:=by apply Array.ext'; simp
   have h4 : ¬ fn.name = "runtime.NumGoroutine" := by simpa using h3
   rw [e]
   simp [resolve,hu1,Deferred.ofValue,invoke,callFunc,h1,h2,h4,e2]
  split at h
  ·rename_i hown
   obtain ⟨r,mo,hc,hk⟩:=h
   split at hk
   ·rename_i hng
    rw [fd_eq,fbs_eq] at hk
    obtain ⟨m',ids1,hs1,hdd,hn⟩:=hn _ _ hk
    obtain ⟨fn,cd,h1,h2,h3⟩:=hc.1
    unfold Oper.wp
    rw [run fn cd h1 h2 h3]
    show Calls P g _ w _
    have hrel1:∀ j (h:j < (xs.toList.map (ev s) ++ cap).length) (h':j < (xs.toList.map a.eval ++ us).length),RelI (imOf c ids1 w) w (xs.toList.map (ev s) ++ cap)[j] (xs.toList.map a.eval ++ us)[j]:=by
     intro j h h'
     have hw:hasOwn 4 (xs.toList.map (ev s) ++ cap)[j] = false:=by
      have:=List.any_eq_false.1 hown _ (List.getElem_mem h)
      simpa using this
     have hF1:=hs1.ev F; rw [hv] at hF1
     obtain ⟨us1,hw1,hw2,hw3⟩:=hF1.fn_inv
     have hus:us1 = us:=by rw [hu1] at hw1; simpa using hw1.symm
     subst hus
     refine hasOwn_rel (ids:=ids1) 4 _ _ hw ?_
     by_cases hj:j < xs.toList.length
     ·rw [List.getElem_append_left (by simpa using hj),List.getElem_append_left (by simpa using hj)]
      exact evL_rel hs1 xs.toList j (by simpa using hj) (by simpa using hj)
     ·rw [List.getElem_append_right (by simpa using hj),List.getElem_append_right (by simpa using hj)]
      simp at h h' hj
      have:=hw3 (j - xs.size) (by omega) (by omega)
      simpa using this
    refine Calls_mono (callN_run hs1 hG hlen hrel1 hc hng (fun j hj=>hdd j (by simpa using hj))) ?_
    rintro e w' ⟨v,ids',rfl,hs'⟩
    exact hn _ _ _ (hs' o.dst)
   ·exact hk.elim
  ·exact h.elim
 ·exact h.elim
def sCallN (P:Program) (G:GInv) (f:A) (args:List A) (m:List Blk) (K:KT):Prop:=fnat m.length fun n=>callN P G f args n fun r' mo'=>catB m mo' fun m'=>K r' m'
theorem sCallN_sound (hs:Sim c s m a w ids) (hG:G.ok c) {F:Operand} {xs:Array Operand} {ts:Array TypeId} (ho:o.op = .call { callee:=.value F,args:=xs,argTypes:=ts }) {K:KT}
  (h:sCallN P G (ev s F) (xs.toList.map (ev s)) m K) (hn:NextOk c s o K next):o.wp P a w next Q:=by
 unfold sCallN at h
 rw [fnat_eq] at h
 refine callN_sound hs hG ho h ?_
 intro r' mo' hk
 rw [catB_eq] at hk
 refine ⟨m ++ List.replicate mo'.length .dead,ids ++ List.replicate mo'.length .dead,?_,fun j hj=>?_,?_⟩
 ·refine hs.grow (Bw.refl _ w) _ _ (by simp) ?_ ?_ ?_ ?_
  ·intro i g1 g2; simp only [List.getElem_replicate]; rfl
  ·intro p hp; rw [List.mem_replicate] at hp; cases hp.2
  ·intro p hp; rw [List.mem_replicate] at hp; cases hp.2
  ·intro i j p q x g1 g2 _ _; rw [List.getElem?_replicate] at g1; split at g1 <;> cases g1
 ·rw [List.getElem?_append_right (by omega),List.getElem?_replicate,if_pos (by omega)]
 ·intro a' w' ids' hs'
  have e:=setAt_end m mo' []
  simp only [List.append_nil] at e
  rw [e] at hs'
  exact hn _ _ _ _ _ hk hs'
end
end Go.Proofs.YtmeohhbdkoeadaaGreat.Am
namespace Go.Proofs.YtmeohhbdkoeadaaGreat.Am
variable [Inhabited DRT]
open Go.RowKit (Below)

/-! ### Maps -/
def ks1:A → Option KS
 | .int k _=>some (.int k)
 | .bool _=>some .bool
 | .str _=>some .str
 | _=>none
def shOf:List A → Option (List KS)
 | []=>some []
 | x :: xs=>match ks1 x,shOf xs with
  | some s,some ss=>some (s :: ss)
  | _,_=>none
def shOk:List Nat → List KS → Bool
 | [],[]=>true
 | n :: ns,s :: ss=>match s with
  | .int _=>match Nat.beq n 5 with
   | true=>shOk ns ss
   | false=>false
  | .bool=>match Nat.beq n 6 with
   | true=>shOk ns ss
   | false=>false
  | .str=>match Nat.beq n 4 with
   | true=>shOk ns ss
   | false=>false
 | _,_=>false
def ksEq:List KS → List KS → Bool
 | [],[]=>true
 | s :: ss,u :: us=>match s,u with
  | .int k,.int k'=>match kindEq k k' with
   | true=>ksEq ss us
   | false=>false
  | .bool,.bool=>ksEq ss us
  | .str,.str=>ksEq ss us
  | _,_=>false
 | _,_=>false
theorem ksEq_iff:∀ {a b:List KS},ksEq a b = true → a = b
 | [],[],_=>rfl
 | s :: ss,u :: us,h=>by
  unfold ksEq at h
  split at h
  ·split at h
   ·rename_i hk; rw [kindEq_iff.1 hk,ksEq_iff h]
   ·cases h
  ·rw [ksEq_iff h]
  ·rw [ksEq_iff h]
  ·cases h
 | [],_ :: _,h=>by simp [ksEq] at h
 | _ :: _,[],h=>by simp [ksEq] at h
def kc1:KS → A → Option KC
 | .int k,.int k' n=>match kindEq k' k with
  | true=>some (.int n)
  | false=>none
 | .bool,.bool b=>some (.bool b)
 | .bool,.sb b=>some (.bool b)
 | .str,.str s=>some (.str s)
 | _,_=>none
def kcs:List KS → List A → Option (List KC)
 | [],[]=>some []
 | s :: ss,x :: xs=>match kc1 s x,kcs ss xs with
  | some k,some ks=>some (k :: ks)
  | _,_=>none
 | _,_=>none
/-- A key, as cells. -/
def keyA (agg:Bool) (sh:List KS) (x:A):Option (List KC) :=
 match agg,x with
 | true,.agg cs=>kcs sh cs
 | true,_=>none
 | false,.agg _=>none
 | false,x=>kcs sh [x]
def boolEq:Bool → Bool → Bool
 | true,true=>true
 | false,false=>true
 | _,_=>false
def fB (b:Bool) (K:Bool → Prop):Prop :=
 match b with
 | true=>K true
 | false=>K false
theorem fB_eq (b:Bool) (K:Bool → Prop):fB b K = K b:=by cases b <;> rfl
/-- What is known of a map's type: the keys' kinds, the element's zero. -/
def mapTy (tt:TT) (t:TypeId) (K:Bool → List KS → A → Prop):Prop :=
 match tt.lookup t with
 | none=>False
 | some ti=>match ti.kind,tt.lookup ti.alen,tt.lookup ti.ety with
  | 7,some tk,some te=>match tk.eqs,shOf tk.zero with
   | some ns,some sh=>match shOk ns sh,Nat.beq ns.length tk.size with
    | true,true=>fB tk.agg fun ag=>match te.agg with
     | true=>fl te.zero fun z=>K ag sh (.agg z)
     | false=>match te.zero with
      | [z]=>fv z fun z'=>K ag sh z'
      | _=>False
    | _,_=>False
   | _,_=>False
  | _,_,_=>False
def lookR (z:A) (k:List KC) (ok:Bool) (has:List KC → Bool) (val:List KC → A) (K:A → Prop):Prop :=
 match ok with
 | true=>(has k = true → fd 3 (val k) fun v=>K (.tup [v,.bool true])) ∧ (has k = false → K (.tup [z,.bool false]))
 | false=>(has k = true → fd 3 (val k) fun v=>K v) ∧ (has k = false → K z)
def lookG (agg:Bool) (sh:List KS) (z:A) (k:List KC) (ok:Bool) (agg':Bool) (sh':List KS) (has:List KC → Bool) (val:List KC → A) (K:A → Prop):Prop :=
 match boolEq agg agg',ksEq sh sh' with
 | true,true=>lookR z k ok has val K
 | _,_=>False
def sLook (tt:TT) (t:TypeId) (x key:A) (ok:Bool) (m:List Blk) (K:A → Prop):Prop :=
 mapTy tt t fun agg sh z=>match keyA agg sh key with
  | none=>False
  | some k=>match x with
   | .mv agg' sh' has val=>lookG agg sh z k ok agg' sh' has val K
   | .omap b=>match m.getD b .dead with
    | .mapb agg' sh' has val=>lookG agg sh z k ok agg' sh' has val K
    | _=>False
   | .nilm=>match ok with
    | true=>K (.tup [z,.bool false])
    | false=>K z
   | _=>False
def putH (has:List KC → Bool) (k:List KC) (b:Bool):List KC → Bool:=fun j=>if j = k then b else has j
def putV (val:List KC → A) (k:List KC) (v:A):List KC → A:=fun j=>if j = k then v else val j
def sUpd (tt:TT) (t:TypeId) (x key v:A) (m:List Blk) (K:KT):Prop :=
 mapTy tt t fun agg sh _=>match keyA agg sh key,x,hasOwn 4 v with
  | some k,.omap b,false=>match m.getD b .dead with
   | .mapb agg' sh' has val=>match boolEq agg agg',ksEq sh sh' with
    | true,true=>fd 4 v fun v'=>setB m b (.mapb agg' sh' (putH has k true) (putV val k v')) fun m'=>K .junk m'
    | _,_=>False
   | _=>False
  | _,_,_=>False
def sDel (tt:TT) (t:TypeId) (x key:A) (m:List Blk) (K:KT):Prop :=
 mapTy tt t fun agg sh _=>match keyA agg sh key,x with
  | some k,.omap b=>match m.getD b .dead with
   | .mapb agg' sh' has val=>match boolEq agg agg',ksEq sh sh' with
    | true,true=>setB m b (.mapb agg' sh' (putH has k false) val) fun m'=>K (.tup []) m'
    | _,_=>False
   | _=>False
  | _,_=>False
def sMkMap (tt:TT) (t:TypeId) (m:List Blk) (K:KT):Prop :=
 mapTy tt t fun agg sh _=>pushB m (.mapb agg sh (fun _=>false) (fun _=>.junk)) fun b m'=>K (.omap b) m'

section
variable {c:Ctx} {s:List A} {m:List Blk} {a:Act} {w w':World} {ids ids':Ids} {P:Program} {im im':Nat → Prop} {tt:TT} {G:GInv}
variable {next:Act → World → Prop} {Q:Exit → Act → World → Prop} {o:Oper}

theorem boolEq_iff {a b:Bool} (h:boolEq a b = true):a = b:=by cases a <;> cases b <;> simp [boolEq] at h <;> rfl
theorem okL_keys:∀ {ns:List Nat} {sh:List KS} {k k':List KC},shOk ns sh = true → kOk sh k → kOk sh k' → okL ns (kVs sh k) (kVs sh k') (decide (k = k'))
 | [],[],[],[],_,_,_=>by simp [kVs,okL]
 | n :: ns,s :: ss,x :: k,y :: k',h,h1,h2=>by
  cases s with
  | int kd =>
   cases x <;> first|exact h1.elim|skip
   cases y <;> first|exact h2.elim|skip
   rename_i a b
   simp only [shOk] at h
   split at h
   ·rename_i hn
    have hn:=Nat.eq_of_beq_eq_true hn
    subst hn
    refine ⟨decide (a = b),decide (k = k'),.inl ⟨rfl,kd,a,b,rfl,rfl,by rw [Bool.eq_iff_iff]; simp⟩,okL_keys h h1 h2,?_⟩
    rw [← Bool.decide_and]; apply decide_eq_decide.2; simp
   ·cases h
  | bool =>
   cases x <;> first|exact h1.elim|skip
   cases y <;> first|exact h2.elim|skip
   rename_i a b
   simp only [shOk] at h
   split at h
   ·rename_i hn
    have hn:=Nat.eq_of_beq_eq_true hn
    subst hn
    refine ⟨decide (a = b),decide (k = k'),.inr (.inl ⟨rfl,a,b,rfl,rfl,by rw [Bool.eq_iff_iff]; simp⟩),okL_keys h h1 h2,?_⟩
    rw [← Bool.decide_and]; apply decide_eq_decide.2; simp
   ·cases h
  | str =>
   cases x <;> first|exact h1.elim|skip
   cases y <;> first|exact h2.elim|skip
   rename_i a b
   simp only [shOk] at h
   split at h
   ·rename_i hn
    have hn:=Nat.eq_of_beq_eq_true hn
    subst hn
    refine ⟨decide (a = b),decide (k = k'),.inr (.inr ⟨rfl,_,_,rfl,rfl,by rw [ba_toList,ba_toList,Bool.eq_iff_iff]; simp⟩),okL_keys h h1 h2,?_⟩
    rw [← Bool.decide_and]; apply decide_eq_decide.2; simp
   ·cases h
 | [],_ :: _,_,_,h,_,_=>by simp [shOk] at h
 | _ :: _,[],_,_,h,_,_=>by simp [shOk] at h
 | _,s :: _,[],_,_,h,_=>by cases s <;> exact h.elim
 | _,s :: _,_,[],_,_,h=>by cases s <;> exact h.elim
 | _,[],_ :: _,_,_,h,_=>h.elim
 | _,[],_,_ :: _,_,_,h=>h.elim
theorem kc1_rel {s:KS} {x:A} {k:KC} {v:Value} (h:kc1 s x = some k) (hx:Rel ids im w x v):v = kV1 s k:=by
 cases s <;> cases x <;> simp only [kc1] at h <;> first|(cases h;done)|skip
 ·split at h
  ·rename_i hk; cases h; rw [hx.int_inv,kindEq_iff.1 hk]; rfl
  ·cases h
 ·cases h; exact hx.bool_inv
 ·cases h; exact hx.sb_inv
 ·cases h; exact hx.str_inv
theorem kcs_rel:∀ {sh:List KS} {cs:List A} {k:List KC} {vs:List Value},kcs sh cs = some k → vs.length = cs.length → (∀ j (h:j < cs.length) (h':j < vs.length),Rel ids im w cs[j] vs[j]) → kOk sh k ∧ vs = kVs sh k
 | [],[],k,vs,h,hl,_=>by
  simp only [kcs,Option.some.injEq] at h; subst h
  have:vs = []:=by simpa using hl
  subst this; exact ⟨trivial,rfl⟩
 | s :: ss,x :: xs,k,vs,h,hl,hr=>by
  simp only [kcs] at h
  split at h
  ·rename_i k0 ks h1 h2
   cases h
   match vs,hl with
   | v :: vs,hl =>
    have e1:=kc1_rel h1 (hr 0 (by simp) (by simp))
    obtain ⟨e2,e3⟩:=kcs_rel (vs:=vs) h2 (by simpa using hl) (fun j g g'=>hr (j + 1) (by simpa using g) (by simpa using g'))
    simp only [List.getElem_cons_zero] at e1
    refine ⟨?_,by simp only [kVs]; rw [← e1,← e3]⟩
    cases s <;> cases x <;> simp only [kc1] at h1 <;> first|(cases h1;done)|skip
    ·split at h1
     ·cases h1; exact e2
     ·cases h1
    ·cases h1; exact e2
    ·cases h1; exact e2
    ·cases h1; exact e2
  ·cases h
 | [],_ :: _,_,_,h,_,_=>by simp [kcs] at h
 | _ :: _,[],_,_,h,_,_=>by simp [kcs] at h
theorem keyA_rel {agg:Bool} {sh:List KS} {x:A} {k:List KC} {v:Value} (h:keyA agg sh x = some k) (hx:Rel ids im w x v):kOk sh k ∧ v = kV agg sh k:=by
 unfold keyA at h
 split at h
 ·rename_i cs
  obtain ⟨vs,rfl,hl,_,hr⟩:=hx.agg_inv
  obtain ⟨e1,e2⟩:=kcs_rel h hl hr
  exact ⟨e1,by rw [e2]; rfl⟩
 ·cases h
 ·cases h
 ·obtain ⟨e1,e2⟩:=kcs_rel (vs:=[v]) h rfl (fun j g g'=>by
   have:j = 0:=by simp at g; omega
   subst this; exact hx)
  exact ⟨e1,by unfold kV; rw [← e2]; rfl⟩

theorem chk_run (em:Bool):∀ (d:Nat) (t:TypeId) (sh:List Nat) (xs:List Value) (r:Bool) (dd:Nat),eqShape P d t = some sh → okL sh xs xs r → (Instr.checkKey em (d + dd) t (mkV P t xs)).run P w = .ok () w
 | 0,_,_,_,_,_,h,_=>by simp [eqShape] at h
 | d + 1,t,sh,xs,r,dd,h,hk=>by
  have e:d + 1 + dd = (d + dd) + 1:=by omega
  rw [e]
  unfold eqShape at h
  unfold mkV
  split at h
  ·rename_i k hd
   cases h
   obtain ⟨x,y,rfl,_,_⟩:=okL_one hk
   rw [hd]; unfold Instr.checkKey
   simp only [Sem.run_bind,run_underlying hd,Result.andThen_ok]
   rfl
  ·rename_i hd
   cases h
   obtain ⟨x,y,rfl,_,_⟩:=okL_one hk
   rw [hd]; unfold Instr.checkKey
   simp only [Sem.run_bind,run_underlying hd,Result.andThen_ok]
   rfl
  ·rename_i hd
   cases h
   obtain ⟨x,y,rfl,_,_⟩:=okL_one hk
   rw [hd]; unfold Instr.checkKey
   simp only [Sem.run_bind,run_underlying hd,Result.andThen_ok]
   rfl
  ·rename_i fs hd
   split at h
   ·cases h
   ·rw [hd,Instr.checkKey]
    simp only [Sem.run_bind,run_underlying hd,Result.andThen_ok]
    rw [← Array.forIn_toList]
    have key:∀ (fl:List Field) (acc:Nat) (sh:List Nat) (r:Bool),eqFs P (eqShape P d) acc fl = some sh → okL sh (xs.drop acc) (xs.drop acc) r →
      ((forIn fl PUnit.unit fun f _=>do
       if f.name ≠ "_" then Instr.checkKey em (d + dd) f.type (← part f.type xs.toArray f.offset)
       pure (ForInStep.yield PUnit.unit):Sem PUnit)).run P w = .ok PUnit.unit w:=by
     intro fl
     induction fl with
     | nil=>intro acc sh r _ _; simp
     | cons f fl ih =>
      intro acc sh r h1 h2
      unfold eqFs at h1
      split at h1
      ·rename_i s1 i hs hi
       split at h1
       ·rename_i hc
        obtain ⟨hc1,hc2,hc3,hz⟩:=hc
        split at h1
        ·rename_i r0 hr0
         cases h1
         obtain ⟨r1,r2,g1,g2,rfl⟩:=okL_append h2
         obtain ⟨fd,hfd⟩:=eqShape_pos d f.type s1 hs
         have hl:=okL_len h2
         simp at hl
         have p1:=run_part (w:=w) hi hfd xs acc (by omega) (by omega)
         rw [hc3] at p1
         have q:=chk_run em d f.type s1 _ r1 dd hs g1
         rw [List.drop_drop] at g2
         have ih':=ih (acc + s1.length) r0 r2 hr0 g2
         subst hc2
         rw [List.forIn_cons]
         simp only [Sem.run_bind,hc1,ne_eq,not_false_eq_true,if_true,p1,q,Result.andThen_ok,Sem.run_pure]
         exact ih'
        ·cases h1
       ·cases h1
      ·cases h1
    have:=key fs.toList 0 sh r h (by simpa using hk)
    simp at this ⊢
    rw [this]; rfl
  ·rename_i n e hd
   split at h
   ·rename_i s1 i hs hi
    split at h
    ·rename_i hc
     cases h
     rw [hd,Instr.checkKey]
     obtain ⟨ed,hed⟩:=eqShape_pos d e s1 hs
     simp only [Sem.run_bind,run_underlying hd,Result.andThen_ok]
     simp only [Std.Legacy.Range.forIn_eq_forIn_range',Std.Legacy.Range.size,Nat.sub_zero,Nat.add_one_sub_one,Nat.div_one]
     have hcells:P.cellsOf e = s1.length:=by unfold Program.cellsOf; rw [hi]; simp [hc.1]
     have key:∀ (k b:Nat) (r:Bool),okL (List.replicate k s1).flatten (xs.drop (b * s1.length)) (xs.drop (b * s1.length)) r →
       ((forIn (List.range' b k) PUnit.unit fun i _=>do
        Instr.checkKey em (d + dd) e (← part e xs.toArray (i * (← sizeOf e)))
        pure (ForInStep.yield PUnit.unit):Sem PUnit)).run P w = .ok PUnit.unit w:=by
      intro k
      induction k with
      | zero=>intro b r _; simp
      | succ k ih =>
       intro b r h2
       rw [List.replicate_succ,List.flatten_cons] at h2
       have hl:=okL_len h2
       simp only [List.length_drop,List.length_append] at hl
       obtain ⟨r1,r2,g1,g2,rfl⟩:=okL_append h2
       have p1:=run_part (w:=w) hi hed xs (b * s1.length) (by omega) (by omega)
       rw [hc.1] at p1
       have q:=chk_run em d e s1 _ r1 dd hs g1
       rw [List.drop_drop,← Nat.succ_mul] at g2
       have ih':=ih (b + 1) r2 g2
       rw [List.range'_succ,List.forIn_cons]
       simp only [Sem.run_bind,run_sizeOf w hi,hcells,p1,q,Result.andThen_ok,Sem.run_pure]
       exact ih'
     have:=key n 0 r (by simpa using hk)
     simp at this ⊢
     rw [this]; rfl
    ·cases h
   ·cases h
  ·cases h
end
end Go.Proofs.YtmeohhbdkoeadaaGreat.Am

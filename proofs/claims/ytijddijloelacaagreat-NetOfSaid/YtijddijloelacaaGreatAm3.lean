/-
  THE ENGINE, part 3: an abstract machine of symbolic values, each step proved sound.
-/
import Derived.Test.YtijddijloelacaaGreatAm2
import Derived.ProofKit
import Derived.LaidMore
import Derived.OpenShut
import Derived.Stop.Joined
import Derived.Orders
set_option linter.unusedSimpArgs false
set_option linter.unusedSectionVars false
set_option linter.unusedVariables false
namespace Go.Proofs.YtijddijloelacaaGreat.Am
variable [Inhabited cF]
open Go.RowKit (Below)
def PS(tt:TT)(rv:ResultVar)(s:List A)(m:List ar)(K:A->Prop):Prop :=
 match rv with
 | .tmp t=>fd 3 (wk m 5 (s.getD t .aj)) K
 | .cell p t=>nd tt t (s.getD p .aj) m fun v _=>fd 3 (wk m 5 v) K
def K3(tt:TT):List ResultVar->List A->List ar->(List A->Prop)->Prop
 | [],_,_,K=>K []
 | r::rs,s,m,K=>PS tt r s m fun v=>K3 tt rs s m fun vs=>K (v::vs)
def PT(vs:List A)(r:A):Prop :=
 match vs with
 | [v]=>eI (iI 6 0 v r)
 | vs=>eI (iI 6 0 (.tup vs) r)
def retQ(tt:TT)(fn:Func)(r:A):Exit->List A->List ar->Prop
 | .ret,s,m=>K3 tt fn.results.toList s m fun vs=>PT vs r
 | .normal,s,m=>K3 tt fn.results.toList s m fun vs=>PT vs r
 | _,_,_=>False

def vK(tmps:Array Value):ResultVar->Sem Value
 | .tmp t=>pure (tmps.getD t undef)
 | .cell p t=>do loadVar t (<-asAddr (tmps.getD p undef))

section
variable {c:Ctx} {s:List A} {m:List ar} {a:Act} {w w':World} {ids ab:dV} {P:Program} {im bL:Nat->Prop} {tt:TT} {G:aK}

theorem yc(aN:bM P tt)(hs:aJ c s m a w ids){t:TypeId}{x:A}{v:Value}(hx:Rel ids (av c ids w) w x v){K:KT}(h:nd tt t x m K):
  ∃ad r u,v=.pointer (some ad)/\(loadVar t ad).run P w=.ok u w/\K r m/\Rel ids (av c ids w) w r u:=by
 unfold nd at h;split at h
 ·exact h.elim
 ·rename_i ti ht;split at h
  ·rename_i b off;split at h
   ·rename_i ty cs hb;obtain⟨p,cD,hv⟩:=hs.yT hx (by rw[hb];simp);obtain⟨r,v,h1,h2,h3⟩:=jR (P:=P) aN ht (base:=0) (hs.uC cD hb) h;rw[Nat.zero_add] at h1;exact⟨_,r,v,hv,h1,h2,h3⟩
   ·exact h.elim
  ·rename_i b i off;split at h
   ·rename_i ty sz n row hb;obtain⟨p,cD,hv⟩:=hs.my hx (by rw[hb];simp);obtain⟨hi,h⟩:=h;rw[cI] at h;obtain⟨r,v,h1,h2,h3⟩:=jR (P:=P) aN ht (hs.Gh cD hb hi) h;exact⟨_,r,v,hv,h1,h2,h3⟩
   ·exact h.elim
  ·rename_i cs off;cases hx with
   | aL hx =>
    cases hx with
    | bref aq base _ _ vs hb hc WX hr =>
     have cz:WW ids (av c ids w) w cs aq base:=by
      refine⟨(List.range cs.length).map vs,by simp,?_,?_,?_⟩
      ·intro j hj;simp at hj;simpa using hc j hj
      ·intro v hv;simp at hv;obtain⟨j,hj,rfl⟩:=hv;exact WX j hj
      ·intro j hj cH;simpa using Rel.aL (hr j hj)
     obtain⟨r,v,h1,h2,h3⟩:=jR (P:=P) aN ht cz h;exact⟨_,r,v,rfl,h1,h2,h3⟩
  ·exact h.elim

theorem K4(aN:bM P tt)(hs:aJ c s m a w ids)(rv:ResultVar){K:A->Prop}(h:PS tt rv s m K):
  ∃r v,(vK a.tmps rv).run P w=.ok v w/\K r/\aA (tp c ids w) w r v:=by
 cases rv with
 | tmp t =>
  simp only[PS,fA] at h;exact⟨_,a.tmps.getD t undef,rfl,h,lf hs 5 _ _ (hs.ev (.tmp t))⟩
 | cell p t =>
  simp only[PS,fA] at h;obtain⟨ad,r,u,h1,h2,h3,h4⟩:=yc (P:=P) aN hs (hs.ev (.tmp p)) h;refine⟨_,u,?_,h3,lf hs 5 _ _ h4⟩;have h1:a.tmps.getD p undef=.pointer (some ad):=h1;show(do loadVar t (<-asAddr (a.tmps.getD p undef)):Sem Value).run P w=_;rw[h1];simp[asAddr,h2]

theorem BU(aN:bM P tt)(hs:aJ c s m a w ids):∀(rs:List ResultVar) {K:List A->Prop},K3 tt rs s m K ->
  ∃(xs:List A) (vs:List Value),(rs.mapM (vK a.tmps)).run P w=.ok vs w/\K xs /\
   vs.length=xs.length/\∀j (h:j<xs.length) (h':j<vs.length),aA (tp c ids w) w xs[j] vs[j]
 | [],K,h=>⟨[],[],by simp,h,rfl,fun j h=>absurd h (Nat.not_lt_zero _)⟩
 | rv::rs,K,h=>by
  obtain⟨r,v,h1,h2,h3⟩:=K4 (P:=P) aN hs rv h;obtain⟨xs,vs,g1,g2,g3,g4⟩:=BU aN hs rs h2;refine⟨r::xs,v::vs,?_,g2,by simp[g3],?_⟩
  ·rw[List.mapM_cons];simp only[Sem.run_bind,h1,Result.andThen_ok,g1];rfl
  ·intro j hj cH;cases j with
   | zero=>exact h3
   | succ j=>exact g4 j (by simpa using hj) (by simpa using cH)

theorem EC(fn:Func)(tmps:Array Value):results fn tmps=(do let vs <-fn.results.mapM (vK tmps);pure (if h:vs.size=1 then vs[0] else .tuple vs)):=by
 unfold results
 have:∀f g:ResultVar->Sem Value,f=g->(do let vs <-fn.results.mapM f;pure (if h:vs.size=1 then vs[0] else .tuple vs))=(do let vs <-fn.results.mapM g;pure (if h:vs.size=1 then vs[0] else .tuple vs)):=by
  rintro f _ rfl;rfl
 apply this
 funext x;cases x<;>rfl
theorem tB{fn:Func}{vs:List Value}(h:(fn.results.toList.mapM (vK a.tmps)).run P w=.ok vs w):
  (results fn a.tmps).run P w=.ok (if h:vs.toArray.size=1 then vs.toArray[0] else .tuple vs.toArray) w:=by
 rw[EC]
 have e:(fn.results.mapM (vK a.tmps)).run P w=.ok vs.toArray w:=by
  rw[Array.mapM_eq_mapM_toList,map_eq_pure_bind];simp only[Sem.run_bind,h,Result.andThen_ok];rfl
 simp only[Sem.run_bind,e,Result.andThen_ok];rfl

theorem yd(aN:bM P tt)(hs:aJ c s m a w ids){fn:Func}{r:A}(h:K3 tt fn.results.toList s m fun vs=>PT vs r):
  ∃v,(results fn a.tmps).run P w=.ok v w/\aA (fun b=>c.Wl b\/(c.new b/\b<w.heap.size)) w r v:=by
 obtain⟨xs,vs,h1,h2,h3,h4⟩:=BU (P:=P) aN hs _ h;refine⟨_,tB h1,?_⟩
 have hi:∀b,tp c ids w b->c.Wl b\/(c.new b/\b<w.heap.size):=by
  rintro b ((h|⟨q1,q2,_⟩)|⟨p,hp,hx⟩)
  ·exact .inl h
  ·exact .inr ⟨q1,q2⟩
  ·exact .inr (hs.au p hp b hx)
 have fin:∀x v,eI (iI 6 0 x r)->aA (tp c ids w) w x v->aA (fun b=>c.Wl b\/(c.new b/\b<w.heap.size)) w r v:=by
  intro x v hf hr;have:=je (ids:=[]) (n:=0) hi 6 x r v hf (.aL hr);exact this.uF
 unfold PT at h2;split at h2
 ·rename_i x;have:vs.length=1:=by simpa using h3
  match vs,this with
  | [v],_=>exact fin x v h2 (h4 0 (by simp) (by simp))
 ·rename_i hne
  have hne:¬vs.length=1:=by
   intro e;rw[e] at h3
   match xs,h3 with
   | [x],_=>exact hne x rfl
  rw[dif_neg (by simpa using hne)];exact fin _ _ h2 (.tup xs vs h3 h4)

theorem aa.af(aN:bM P tt){f:FuncId}{fn:Func}{cd:Code}{args:List A}{r:A}(hf:P.funcs[f]?=some fn)(hb:fn.body=some cd)
  (hn : (fn.name == "runtime.NumGoroutine") = false) (k : Nat) (hk : fn.ntmps - args.length = k)
  (h:fl (args++List.replicate k .aj) fun s=>WA P G cd (retQ tt fn r) s []):aa P G f args r:=by
 rw[cI] at h;refine⟨⟨fn,cd,hf,hb,hn⟩,?_⟩;intro im w vs pk hG hl hr;refine calls_of_wp hf hb ?_;unfold WA at h
 have pQ:aJ ⟨w,im,fun _=>False,[]⟩ (args++List.replicate k .aj) [] ⟨vs.toArray++Array.replicate (fn.ntmps-vs.toArray.size) undef,[]⟩ w []:=by
  refine⟨rfl,by simp[hl,hk],?_,rfl,fun b h=>absurd h (Nat.not_lt_zero _),(fun b b' p q x h=>by simp at h),(fun p h=>by cases h),Fr.refl _ _ _ _,fun b hb=>⟨pk b hb,fun h=>h⟩,(fun vs h=>by cases h)⟩;intro i h1 h2;by_cases hi:i<args.length
  ·rw[List.getElem_append_left hi,Array.getElem_append_left (by simp;omega)];have:=hr i hi (by omega);exact .aL (by simpa using this.up (fun b hb=>.inl hb))
  ·rw[List.getElem_append_right (by omega)];simp only[List.getElem_replicate];exact .aL (.aj _)
 have nk:∀(w':World) (b:Nat),im b\/(Ctx.new ⟨w,im,fun _=>False,[]⟩ b/\b<w'.heap.size)->im b\/(w.heap.size<=b/\b<w'.heap.size):=by
  rintro w' b (h|⟨h|h,h2⟩)
  ·exact .inl h
  ·exact .inr ⟨h,h2⟩
  ·exact h.elim
 refine wp_mono (h ⟨w,im,fun _=>False,[]⟩ _ w [] ⟨hG,fun _ h=>h.elim⟩ pQ) ?_;rintro e a' w' ⟨s',m',ab,hq,bY⟩;cases e with
 | ret =>
  obtain⟨v,h1,h2⟩:=yd (P:=P) aN bY hq;exact⟨bY.defers,v,h1,v,rfl,h2.up (nk w'),bY.frame.below fun _ h=>h⟩
 | normal =>
  obtain⟨v,h1,h2⟩:=yd (P:=P) aN bY hq;exact⟨bY.defers,v,h1,v,rfl,h2.up (nk w'),bY.frame.below fun _ h=>h⟩
 | _=>exact hq.elim

def writes:Code->List Nat
 | .region _ ops _=>ops.toList.filterMap (·.dst)
 | .seq x y=>writes x++writes y
 | .cond _ x y=>writes x++writes y
 | .block _ x=>writes x
 | .loop x=>writes x
 | _=>[]
def ED(i:Nat):List Nat->Bool
 | []=>false
 | j::js=>match Nat.beq i j with
  | true=>true
  | false=>ED i js
def jk(ws:List Nat):Nat->List A->List A
 | _,[]=>[]
 | i,x::xs=>(match ED i ws with|true=>.aj|false=>x)::jk ws (i+1) xs
def Ww:List (Nat×A)->List A->List A
 | [],s=>s
 | (i,v)::l,s=>Ww l (s.set i v)
def vL(body:Code)(s:List A)(ov:List (Nat×A)):List A:=Ww ov (jk (writes body) 0 s)
def TU{ι:Type}(body:Code)(s0:List A)(ov:ι->List (Nat×A))(M:ι->List ar)(μ:ι->Nat)(i:ι)(Q:Exit->List A->List ar->Prop):Exit->List A->List ar->Prop
 | .normal,s,m=>∃j,μ j<μ i/\fl (vL body s0 (ov j)) fun s'=>uh s m s' (M j)
 | e,s,m=>Q e s m
theorem K5{Q:Exit->List A->List ar->Prop}{ι:Type}{body:Code}(ov:ι->List (Nat×A))(M:ι->List ar)(μ:ι->Nat)(i0:ι)
  (h0:fl (vL body s (ov i0)) fun s'=>uh s m s' (M i0))
  (hr:∀i,fl (vL body s (ov i)) fun s'=>WA P G body (TU body s ov M μ i Q) s' (M i)):WA P G (.loop body) Q s m:=by
 rw[cI] at h0;refine PO (fun i=>vL body s (ov i)) M μ i0 (kg h0) ?_;intro i;have:=hr i;rw[cI] at this;refine GC this ?_;intro e s' m' hq;cases e with
 | normal =>
  obtain⟨j,h1,h2⟩:=hq;rw[cI] at h2;exact⟨j,h1,kg h2⟩
 | _=>exact hq

def TV{ι:Type}(body:Code)(s0:List A)(I:ι->Prop)(ov:ι->List (Nat×A))(M:ι->List ar)(μ:ι->Nat)(i:ι)(Q:Exit->List A->List ar->Prop):Exit->List A->List ar->Prop
 | .normal,s,m=>∃j,I j/\μ j<μ i/\fl (vL body s0 (ov j)) fun s'=>uh s m s' (M j)
 | e,s,m=>Q e s m
/-- A loop whose rounds are told by an index that keeps a law. -/
theorem ah{Q:Exit->List A->List ar->Prop}{ι:Type}{body:Code}(I:ι->Prop)(ov:ι->List (Nat×A))(M:ι->List ar)(μ:ι->Nat)(i0:ι)(hI:I i0)
  (h0:fl (vL body s (ov i0)) fun s'=>uh s m s' (M i0))
  (hr:∀i,I i->fl (vL body s (ov i)) fun s'=>WA P G body (TV body s I ov M μ i Q) s' (M i)):WA P G (.loop body) Q s m:=by
 refine K5 (ι:={i:ι//I i}) (fun i=>ov i.1) (fun i=>M i.1) (fun i=>μ i.1) ⟨i0,hI⟩ h0 ?_;rintro⟨i,hi⟩;have:=hr i hi;rw[cI] at this ⊢;refine GC this ?_;intro e s' m' hq;cases e with
 | normal =>
  obtain⟨j,h1,h2,h3⟩:=hq;exact⟨⟨j,h1⟩,h2,h3⟩
 | _=>exact hq

/-- A slot that holds a nil slice holds a row of ours that has no place yet. -/
theorem jB{Q:Exit->List A->List ar->Prop}{code:Code}(k:Nat)(ty:TypeId)(sz:Nat)(hk:s[k]?=some .aC)
  (h:dP m.length fun n=>yV s k (.own n) fun s'=>nc m (.row ty sz 0 fun _=>[]) fun _ m'=>WA P G code Q s' m'):WA P G code Q s m:=by
 rw[aX,ij,gj] at h;unfold WA at h ⊢;intro c a w ids hG hs
 have Ev:=hs.grow (Bw.refl _ w) [.row ty sz 0 fun _=>[]] [.bg] rfl (fun i h1 h2=>by
   have:i=0:=by simp at h1;omega
   subst this;exact rfl) (fun p h=>by simp at h) (fun vs h=>by simp at h) (fun i j p q x h1=>by
   cases i with
   | zero=>simp at h1
   | succ i=>simp at h1)
 have aH:k<s.length:=by
  rcases Nat.lt_or_ge k s.length with h'|h'
  ·exact h'
  ·rw[List.getElem?_eq_none h'] at hk;cases hk
 have hv:=hs.cc k aH (by rw[hs.len];exact aH);have TW:s[k]=.aC:=by rw[List.getElem?_eq_getElem aH] at hk;exact Option.some.inj hk
 rw[TW] at hv
 have ll:=Ev.zF k (x:=.own m.length) (by
  rw[Array.getD_eq_getD_getElem?,Array.getElem?_eq_getElem (by rw[hs.len];exact aH)];simp only[Option.getD_some];rw[hv.dO];exact .gQ _ (by rw[<-hs.aU];simp))
 exact h c a w _ hG ll
end
end Go.Proofs.YtijddijloelacaaGreat.Am
namespace Go.Proofs.YtijddijloelacaaGreat.Am
variable [Inhabited cF]
open Go.RowKit Go.ChangeShapes
section
variable {H:Type} {enc:TypeId × Value->H} {P:Program}
/-- Each argument reads behind the call as it read before. -/
theorem pr(hl:laidOutB P=true){W W':World}(hb:Below W.heap.size W W'):∀(ts:List TypeId) (vs:List Value) (ds:List (DataW H)) (ps:List MemPlace),
  ts.all (fun t=>P.readableRec t&&decide (t<P.types.size))=true->DataW.TrodAll enc P W 0 (fun _=>true) true ts vs ds ps->(∀x∈ps,x.block<W.heap.size) ->
  DataW.TrodAll enc P W' 0 (fun b=>decide (b<W.heap.size)) true ts vs ds ps
 | [],vs,ds,ps,_,h,_=>by
  obtain⟨rfl,rfl,rfl⟩:=trodAll_nil h;rfl
 | t::ts,vs,ds,ps,J8,h,aH=>by
  obtain⟨v,eD,d,ds',p,q,rfl,rfl,rfl,h1,h2⟩:=trodAll_cons h;simp only[List.all_cons,Bool.and_eq_true,decide_eq_true_eq] at J8;exact⟨p,q,Below.trod hl J8.1.1 J8.1.2 h1 hb (fun x hx=>aH x (List.mem_append_left _ hx)),pr hl hb ts eD ds' q J8.2 h2 (fun x hx=>aH x (List.mem_append_right _ hx)),rfl⟩

/-- A law that returned true, in a world that is as it was below the heap's old size. -/
theorem IE{f:Func}{s:ChangeSpec}{apart fresh handsOn:Bool}{W W':World}{args:Array Value}{ds gs:List (DataW H)}{before:List MemPlace}{tb:TypeId}
  (hl:laidOutB P=true) (hv:s.vars=[]) (hr:f.resultTypes = #[tb]) (htb:P.underlying tb=some .bool)
  (J8:f.params.toList.all (fun t=>P.readableRec t&&decide (t<P.types.size))=true)
  (hfn:s.fn H (ds++gs)={ results:=[.lit (.bool true)],args:=ds })
  (hW:DataW.Whole enc P f.params.toList s.vars apart W args.toList ds gs before) (hb:Below W.heap.size W W') :
  s.post enc P f apart fresh handsOn false W args (.bool true) W':=by
 have XC:=hW;obtain⟨p,q,hA,hV,rfl,hz,hn⟩:=hW;rw[hv] at hV;obtain⟨rfl,rfl⟩:=trodVars_none hV;refine⟨ds,[],p++[],[],p,[],XC,?_,?_,?_,hb.frame _,fun h=>by cases h⟩
 ·rw[hfn,hr];exact trodAll_mk1 (shut_bool htb _)
 ·rw[hfn];exact pr hl hb _ _ _ _ J8 hA (fun x hx=>XC.lt x (by simpa using hx))
 ·rw[hfn,hv];rfl
end

/-- From a contract to a call. -/
theorem EE{P:Program}{G:aK}{f:FuncId}{as:List A}(h:aa P G f as (.sb true)){W:World}{vs:List Value}{im:Nat->Prop}(pk:∀b,im b->b<W.heap.size)(hG:G.G W)(hl:vs.length=as.length)
  (hr:∀j (h:j<as.length) (h':j<vs.length),aA im W as[j] vs[j]):Calls P f vs.toArray W fun e W'=>e=.returned (.bool true)/\Below W.heap.size W W':=by
 refine bD (h.2 im W vs pk hG hl hr) ?_;rintro e W' ⟨v,rfl,hv,hb⟩;cases hv;exact⟨rfl,hb.below⟩
end Go.Proofs.YtijddijloelacaaGreat.Am
namespace Go.Proofs.YtijddijloelacaaGreat.Am
variable [Inhabited cF]
open Go.RowKit (Below)
/-- A continuation's argument is one value, whatever is asked of it. -/
def DM(F:(A->Prop)->Prop):Prop:=∀K,F K↔∃v,K v/\F (fun v'=>v'=v)
theorem DM.val(e:A):DM (fun K=>K e):=fun K=>by simp
theorem DM.dc:DM (fun _=>False):=fun K=>by simp
theorem DM.and{c:Prop}{F:(A->Prop)->Prop}(h:DM F):DM (fun K=>c/\F K):=fun K=>by
 constructor
 ·rintro⟨hc,hF⟩;obtain⟨v,h1,h2⟩:=(h K).1 hF;exact⟨v,h1,hc,h2⟩
 ·rintro⟨v,h1,hc,h2⟩;exact⟨hc,(h K).2 ⟨v,h1,h2⟩⟩
theorem DM.two{b:Bool}{F F':(A->Prop)->Prop}(h:DM F)(h':DM F'):DM (fun K=>(b=true->F K)/\(b=false->F' K)):=fun K=>by
 cases b
 ·simpa using h' K
 ·simpa using h K
theorem DM.ex{α:Type}{p:α->Prop}{F:α->(A->Prop)->Prop}(h:∀r,DM (F r)):DM (fun K=>∃r,p r/\F r K):=fun K=>by
 constructor
 ·rintro⟨r,hp,hF⟩;obtain⟨v,h1,h2⟩:=(h r K).1 hF;exact⟨v,h1,r,hp,h2⟩
 ·rintro⟨v,h1,r,hp,h2⟩;exact⟨r,hp,(h r K).2 ⟨v,h1,h2⟩⟩
theorem DM.map{F:(A->Prop)->Prop}(h:DM F)(g:A->A):DM (fun K=>F fun v=>K (g v)):=fun K=>by
 constructor
 ·intro hF;obtain⟨v,h1,h2⟩:=(h _).1 hF;exact⟨g v,h1,(h _).2 ⟨v,rfl,h2⟩⟩
 ·rintro⟨v,h1,h2⟩;obtain⟨u,h3,h4⟩:=(h _).1 h2;subst h3;exact(h _).2 ⟨u,h1,h4⟩

theorem vM(agg:Bool)(size:Nat)(cs:List A)(off:Nat):DM (Kf agg size cs off):=by
 unfold Kf;cases agg
 ·cases Nat.blt off cs.length
  ·exact DM.dc
  ·simp only[dL];exact DM.val _
 ·cases Nat.ble (off+size) cs.length
  ·exact DM.dc
  ·simp only[cI];exact DM.val _
theorem K6(tt:TT)(t:TypeId)(p:A)(m:List ar):DM (fun K=>nd tt t p m fun v _=>K v):=by
 unfold nd;cases tt.lookup t with
 | none=>exact DM.dc
 | some ti =>
  cases p<;>simp only<;>first|exact DM.dc|skip
  case ref b off=>cases m.getD b .dead<;>simp only<;>first|exact DM.dc|exact vM _ _ _ _
  case oref b i off =>
   cases m.getD b .dead<;>simp only<;>first|exact DM.dc|skip
   simp only[cI];exact DM.and (vM _ _ _ _)
  case bref cs off=>exact vM _ _ _ _
theorem K7(x y z:A):DM (Bk x y z):=by
 unfold Bk;split
 ·simp only[dL];exact DM.val _
 ·simp only[dL];exact DM.val _
 ·simp only[dL];exact DM.two (DM.val _) (DM.val _)
 ·exact DM.dc
theorem BV(k:IntKind)(n:Int):DM (WR k n):=by
 intro K;constructor
 ·intro h;exact⟨_,nz h,by unfold WR;exact .inr rfl⟩
 ·rintro⟨v,h1,h2⟩;unfold WR at h2 ⊢;rcases h2 with⟨h2,h3⟩|h3
  ·subst h3;exact .inl ⟨h2,h1⟩
  ·subst h3;exact .inr h1
theorem EF(op:BinOp)(k:IntKind)(a b:Int):DM (qo op k a b):=by
 unfold qo;cases op<;>simp only<;>first|exact DM.dc|exact DM.val _|exact BV _ _|exact DM.and (BV _ _)|exact DM.and (DM.val _)
theorem EG(op:BinOp)(a b:List UInt8):DM (qp op a b):=by
 unfold qp;cases op<;>simp only<;>first|exact DM.dc|exact DM.val _|exact DM.and (DM.val _)
theorem IF(op:BinOp)(k:IntKind)(a b:Int):DM (vk op k a b):=by
 unfold vk;cases op<;>simp only<;>first|exact DM.dc|exact DM.val _|exact DM.and (BV _ _)|exact DM.and (DM.val _)
theorem EH:∀(sh:List Nat) (cs dz:List A) (g:Bool->A),DM (fun K=>Ba sh cs dz fun r=>K (g r))
 | [],[],[],g=>by unfold Ba;exact DM.val _
 | k::ks,x::xs,y::ys,g=>by
  have ih:=fun g=>EH ks xs ys g;unfold Ba;split
  ·cases x<;>cases y<;>simp only<;>first|exact DM.dc|skip
   rename_i p a q b;cases nA p q<;>simp only
   ·exact DM.dc
   ·exact ih fun r=>g (a==b&&r)
  ·cases Sb x<;>cases Sb y<;>simp only<;>first|exact DM.dc|skip
   rename_i a b;exact ih fun r=>g (a==b&&r)
  ·cases x<;>cases y<;>simp only<;>first|exact DM.dc|skip
   rename_i a b;exact ih fun r=>g (a==b&&r)
  ·exact DM.dc
 | [],[],_::_,_=>by unfold Ba;exact DM.dc
 | [],_::_,_,_=>by unfold Ba;exact DM.dc
 | _::_,[],_,_=>by unfold Ba;exact DM.dc
 | _::_,_::_,[],_=>by unfold Ba;exact DM.dc
theorem TX(op:UnOp)(x:A):DM (WV op x):=by
 unfold WV;cases op<;>cases x<;>simp only<;>first|exact DM.dc|exact DM.val _|exact BV _ _
theorem PU(tt:TT)(t:TypeId)(x:A)(m:List ar):DM (Bj tt t x m):=by
 unfold Bj;cases tt.lookup t with
 | none=>exact DM.dc
 | some ti =>
  simp only;split<;>first|exact DM.dc|exact DM.val _|skip
  split<;>first|exact DM.dc|exact DM.val _
theorem BW(x:A)(ix:Nat):DM (nB x ix):=by
 unfold nB;cases x<;>simp only<;>first|exact DM.dc|skip
 rename_i vs;cases Nat.blt ix vs.length<;>simp only[dL]<;>first|exact DM.dc|exact DM.val _
theorem PV(x:A):DM (Kh x):=by
 unfold Kh;cases x<;>simp only<;>first|exact DM.dc|exact DM.val _
theorem K8(tt:TT)(src dst:TypeId)(x:A):DM (xM tt src dst x):=by
 unfold xM;split<;>first|exact DM.dc|skip
 split<;>first|exact DM.dc|exact DM.val _|(simp only[Ki];exact BV _ _)
theorem IG(tt:TT)(t:TypeId)(x ix:A):DM (vl tt t x ix):=by
 unfold vl;split<;>first|exact DM.dc|skip
 split<;>first|exact DM.dc|exact DM.and (DM.val _)|skip
 split<;>first|exact DM.dc|exact DM.and (vM _ _ _ _)
theorem IH(tt:TT)(t:TypeId)(x:A)(f:Nat):DM (vm tt t x f):=by
 unfold vm;split<;>first|exact DM.dc|skip
 split<;>first|exact DM.dc|skip
 split<;>first|exact DM.dc|exact vM _ _ _ _
theorem zH{x:Option A}{d y:Nat}{F:Nat->(A->Prop)->Prop}(h:∀n,DM (F n)):DM (fun K=>y9 x d y fun n=>F n K):=by
 unfold y9;split
 ·exact h _
 ·split<;>first|exact DM.dc|exact DM.and (h _)
theorem ye(tt:TT)(t:TypeId)(x:A)(lo hi:Option A):DM (vr tt t x lo hi):=by
 unfold vr;split<;>first|exact DM.dc|skip
 split<;>first|exact DM.dc|exact zH fun _=>zH fun _=>DM.val _|skip
 split<;>first|exact DM.dc|exact zH fun _=>zH fun _=>DM.val _
theorem PW(tt:TT)(t:TypeId)(op:BinOp)(x y:A):DM (Kg tt t op x y):=by
 unfold Kg;split
 ·split
  ·exact IF _ _ _ _
  ·split
   ·exact EF _ _ _ _
   ·exact DM.dc
 ·exact EG _ _ _
 ·split
  ·split
   ·exact EH _ _ _ _
   ·exact EH _ _ _ (fun r=>.sb !r)
   ·exact DM.dc
  ·exact DM.dc
 ·split
  ·split
   ·split<;>first|exact DM.dc|exact DM.val _
   ·exact DM.dc
  ·split
   ·split<;>first|exact DM.dc|exact DM.val _
   ·exact DM.dc
theorem K9:∀(ys:List A) (x:A),DM (Ku x ys)
 | [],x=>by
  have:Ku x []=fun K=>K x:=by funext K;simp only[Ku,dL]
  rw[this];exact DM.val _
 | y::ys,x=>by
  have:Ku x (y::ys)=fun K=>Zz x y fun v=>Ku v ys K:=by funext K;simp only[Ku]
  rw[this];unfold Zz;cases x<;>cases y<;>simp only<;>first|exact DM.dc|exact K9 ys _
theorem La:∀(ys:List A) (x:A),DM (Kv x ys)
 | [],x=>by
  have:Kv x []=fun K=>K x:=by funext K;simp only[Kv,dL]
  rw[this];exact DM.val _
 | y::ys,x=>by
  have:Kv x (y::ys)=fun K=>ZA x y fun v=>Kv v ys K:=by funext K;simp only[Kv]
  rw[this];unfold ZA;cases x<;>cases y<;>simp only<;>first|exact DM.dc|exact La ys _
theorem GD(ti:TI):∀(ps:List (Nat×A)) (cs:List A),DM (fun K=>pF ti ps cs fun cs=>K (.agg cs))
 | [],cs=>by unfold pF;exact DM.val _
 | (i,v)::ps,cs=>by
  unfold pF;split<;>first|exact DM.dc|skip
  split<;>first|exact DM.dc|skip
  simp only[cI];exact GD ti ps _
theorem II(tt:TT)(t:TypeId)(ps:List (Nat×A))(m:List ar):DM (fun K=>r9 tt t ps m fun v _=>K v):=by
 unfold r9;cases tt.lookup t with
 | none=>exact DM.dc
 | some ti =>
  simp only;split<;>first|exact DM.dc|exact GD ti _ _
theorem xx(tt:TT)(t:TypeId)(p:A)(f:Nat)(m:List ar):DM (fun K=>iM tt t p f m fun v _=>K v):=by
 unfold iM;cases tt.lookup t with
 | none=>exact DM.dc
 | some ti =>
  simp only;split<;>first|exact DM.dc|skip
  split<;>first|exact DM.dc|skip
  split<;>first|exact DM.dc|(simp only[aX];exact DM.val _)
theorem xy(tt:TT)(t:TypeId)(p ix:A)(m:List ar):DM (fun K=>fz tt t p ix m fun v _=>K v):=by
 unfold fz;cases tt.lookup t with
 | none=>exact DM.dc
 | some ti =>
  simp only;split
  ·split
   ·split
    ·simp only[cI];exact DM.and (DM.val _)
    ·exact DM.dc
   ·split
    ·split
     ·exact DM.and (DM.val _)
     ·exact DM.dc
    ·exact DM.dc
   ·exact DM.dc
  ·split
   ·simp only[aX];exact DM.and (DM.val _)
   ·simp only[aX];exact DM.and (DM.val _)
   ·exact DM.dc
  ·exact DM.dc
structure Oc where
 v:A
 u:List (Nat×ar)
 rd:List Nat
abbrev KV:=A->List (Nat×ar)->List Nat->Prop
def iJ(m:List ar):List (Nat×ar)->List ar
 | []=>m
 | (b,x)::l=>(iJ m l).set b x
def IJ(m:List ar):List (Nat×ar)->(List ar->Prop)->Prop
 | [],K=>K m
 | (b,x)::l,K=>IJ m l fun m'=>r8 m' b x K
theorem GF(m:List ar):∀(u:List (Nat×ar)) (K:List ar->Prop),IJ m u K=K (iJ m u)
 | [],K=>rfl
 | (b,x)::l,K=>by rw[IJ,GF m l,fM];rfl

/-- The blocks that are read through a value; none: it may not be said. -/
def vN(g:A->Option (List Nat)):List A->Option (List Nat)
 | []=>some []
 | x::xs=>match g x,vN g xs with
  | some l,some r=>some (l++r)
  | _,_=>none
def xz(m:List ar):Nat->A->Option (List Nat)
 | 0,_=>none
 | d+1,x=>match x with
  | .ref b _=>match m.getD b .dead with
   | .box _ cs=>match vN (xz m d) cs with
    | some l=>some (b::l)
    | none=>none
   | _=>none
  | .oref _ _ _=>none
  | .own b=>match m.getD b .dead with
   | .row _ _ _ _=>some [b]
   | _=>none
  | .omap b=>match m.getD b .dead with
   | .fK _ _ _ _=>some [b]
   | _=>none
  | .agg cs=>vN (xz m d) cs
  | .tup cs=>vN (xz m d) cs
  | .fn _ cs=>vN (xz m d) cs
  | _=>some []
def GG:A->List Nat
 | .ref b _=>[b]
 | .oref b _ _=>[b]
 | .own b=>[b]
 | .pe b _=>[b]
 | _=>[]
def quiet:Op->Bool
 | .move _=>true
 | .assign _=>true
 | .pick _ _ _=>true
 | .build _ _=>true
 | .load _ _=>true
 | .nilCheck _=>true
 | .binOp _ _ _ _ _=>true
 | .unOp _ _ _=>true
 | .convert _ _ _=>true
 | .makeFunc _ _ _=>true
 | .fieldAddr _ _ _=>true
 | .indexAddr _ _ _=>true
 | .index _ _ _=>true
 | .field _ _ _=>true
 | .extract _ _=>true
 | .slice _ _ _ _ none=>true
 | .call { callee:=.builtin .len,.. }=>true
 | .call { callee:=.builtin .min,.. }=>true
 | .call { callee:=.builtin .max,.. }=>true
 | .call { callee:=.value _,.. }=>true
 | _=>false
def zI(m:List ar)(f:A)(as:List A):Option (List Nat) :=
 match f with
 | .fn _ cap=>vN (xz m 5) (as++cap)
 | _=>none
def vO(o:Op)(s:List A)(m:List ar):Option (List Nat) :=
 match o with
 | .load _ x=>some (GG (ev s x))
 | .indexAddr _ x _=>some (GG (ev s x))
 | .call { callee:=.builtin .len,args,.. }=>match args.toList with
  | [x]=>some (GG (ev s x))
  | _=>none
 | .call { callee:=.value f,args,.. }=>zI m (ev s f) (args.toList.map (ev s))
 | _=>some []
/-- A place that is kept for a new block. -/
def fE(m:List ar)(aD:Nat)(X:Prop):Prop :=
 match m.getD aD .dead,Nat.blt aD m.length with
 | .dead,true=>X
 | _,_=>False
def eN(P:Program)(G:aK)(tt:TT)(o:Oper)(s:List A)(m:List ar)(K:KV):Prop :=
 match quiet o.op,vO o.op s m with
 | true,some rd=>step P G tt o s m fun v _=>K v [] rd
 | _,_=>False
def zJ(tt:TT)(t:TypeId)(aD:Nat)(m:List ar)(K:KV):Prop :=
 match tt.lookup t with
 | some ti=>fE m aD (K (.ref aD 0) [(aD,.box t ti.zero)] [aD])
 | none=>False
def PX(t:TypeId)(x:A)(aD:Nat)(m:List ar)(K:KV):Prop :=
 match mA x with
 | some cs=>fE m aD (K (.ref aD 0) [(aD,.box t cs)] [aD])
 | none=>False
/-- Of slices: a row of them is a value from the start. -/
def Sy:List A->Bool
 | []=>false
 | .sl _ _ _::_=>true
 | _::cs=>Sy cs
def qI(tt:TT)(t:TypeId)(len:Nat)(ps:List (Nat×A))(aD:Nat)(m:List ar)(K:KV):Prop :=
 match tt.lookup t with
 | some ti=>match ti.kind,tt.lookup ti.aW,Nat.ble (len*ti.bN) 1000000 with
  | 3,some te,true=>pF ti ps (Iv te.zero len) fun cs=>match cs.any (cY 4),Nat.beq cs.length (len*ti.bN) with
   | false,true=>match Sy cs with
    | false=>fE m aD (dP ti.aW fun aW=>dP ti.bN fun bN=>K (.own aD) [(aD,.row aW bN len fun i=>il bN (cs.drop (i*bN)))] [aD])
    | true=>dP ti.bN fun bN=>K (.sl len bN fun i=>il bN (cs.drop (i*bN))) [] []
   | _,_=>False
  | _,_,_=>False
 | none=>False
def GH(tt:TT)(t:TypeId)(l k:A)(aD:Nat)(m:List ar)(K:KV):Prop :=
 match tt.lookup t,l,k with
 | some ti,.int _ l,.int _ k=>match ti.kind,tt.lookup ti.aW with
  | 3,some te=>dP ti.fk fun eb=>dP ti.aW fun aW=>dP ti.bN fun bN=>fl te.zero fun z=>(0<=l/\l<=k/\k<=140737488355328/\k*(eb:Int)<=140737488355328)/\fE m aD (K (.own aD) [(aD,.row aW bN l.toNat fun _=>z)] [aD])
  | _,_=>False
 | _,_,_=>False
def EI(tt:TT)(t:TypeId)(x y:A)(aD:Nat)(m:List ar)(K:KV):Prop :=
 match tt.lookup t with
 | none=>False
 | some ti=>match ti.kind,Bz m ti.bN y with
  | 3,some (n2,jK)=>match x with
   | .own b=>match m.getD b .dead with
    | .row ty sz n row=>match Nat.beq sz ti.bN,Nat.beq ty ti.aW with
     | true,true=>dP ti.fk fun eb=>(n+n2<=140737488355328/\(n+n2)*eb<=140737488355328)/\fE m aD (K (.own aD) [(aD,.row ty sz (n+n2) (aO n row jK)),(b,.gone)] (aD::b::GG y))
     | _,_=>False
    | _=>False
   | _=>False
  | _,_=>False
def yf(tt:TT)(t:TypeId)(b i off:Nat)(ty aW:TypeId)(sz n:Nat)(hole:Option Nat)(len:Nat->Nat)(row:Nat->Nat->List A)(aD:Nat)(m:List ar)(K:KV):Prop :=
 match tt.lookup t with
 | none=>False
 | some ti=>match ti.kind,Nat.beq ti.aW aW,Nat.beq ti.bN sz,hole,off with
  | 3,true,true,none,0=>i<n/\fE m aD (K (.own aD) [(aD,.row aW sz (len i) (row i)),(b,.nest ty aW sz n (some i) len row)] [aD,b])
  | _,_,_,_,_=>False
def yg(P:Program)(G:aK)(tt:TT)(o:Oper)(t:TypeId)(x:A)(aD:Nat)(s:List A)(m:List ar)(K:KV):Prop :=
 match x with
 | .oref b i off=>match m.getD b .dead with
  | .nest ty aW sz n hole len row=>yf tt t b i off ty aW sz n hole len row aD m K
  | _=>eN P G tt o s m K
 | _=>eN P G tt o s m K
def IK(P:Program)(G:aK)(tt:TT)(o:Oper)(t:TypeId)(x i:A)(s:List A)(m:List ar)(K:KV):Prop :=
 match x with
 | .own b=>match m.getD b .dead with
  | .nest _ _ _ n _ _ _=>match tt.lookup t,i with
   | some ti,.int _ ix=>match ti.kind,Nat.beq ti.bN 1 with
    | 3,true=>(0<=ix/\ix<(n:Int))/\K (.oref b ix.toNat 0) [] [b]
    | _,_=>False
   | _,_=>False
  | _=>eN P G tt o s m K
 | _=>eN P G tt o s m K
def IL(tt:TT)(t:TypeId)(b i off:Nat)(y:A)(ty aW:TypeId)(sz n:Nat)(hole:Option Nat)(len:Nat->Nat)(row:Nat->Nat->List A)(m:List ar)(K:KV):Prop :=
 match off,y,tt.lookup t,hole with
 | 0,.own b',some ti,some j=>match Nat.beq ti.size 1,m.getD b' .dead,Nat.beq b b' with
  | true,.row xu ue n' dZ,false=>match Nat.beq xu aW,Nat.beq ue sz with
   | true,true=>(i=j/\i<n)/\K .aj [(b',.gone),(b,.nest ty aW sz n none (iO len j n') (iO row j dZ))] [b',b]
   | _,_=>False
  | _,_,_=>False
 | _,_,_,_=>False
def sH(tt:TT)(t:TypeId)(x y:A)(m:List ar)(K:KV):Prop :=
 match tt.lookup t,x with
 | some ti,.ref b off=>match m.getD b .dead with
  | .box ty cs=>O1 ti.size cs off y fun dz=>K .aj [(b,.box ty dz)] [b]
  | _=>False
 | some ti,.oref b i off=>match m.getD b .dead with
  | .row ty sz n row=>match cY 4 y with
   | false=>i<n/\fl (row i) fun cs=>O1 ti.size cs off y fun dz=>K .aj [(b,.row ty sz n (bZ row i dz))] [b]
   | true=>False
  | .nest ty aW sz n hole len row=>IL tt t b i off y ty aW sz n hole len row m K
  | _=>False
 | _,_=>False
def pV:Nat->Nat->List Nat
 | 0,_=>[]
 | n+1,k=>k::pV n (k+1)
def PY:Nat->List ar->List (Nat×ar)
 | _,[]=>[]
 | k,x::xs=>(k,x)::PY (k+1) xs
def tC(m:List ar):Nat->List ar->Prop->Prop
 | _,[],X=>X
 | k,_::xs,X=>fE m k (tC m (k+1) xs X)
def vP(P:Program)(G:aK)(f:A)(args:List A)(aD:Nat)(m:List ar)(K:KV):Prop :=
 vG P G f args aD fun r' jS=>tC m aD jS (K r' (PY aD jS) (pV jS.length aD))
def rdM:A->List Nat
 | .omap b=>[b]
 | _=>[]
def yh(tt:TT)(t:TypeId)(x key:A)(ok:Bool)(m:List ar)(K:KV):Prop:=kS tt t x key ok m fun v=>K v [] (rdM x)
def xA(tt:TT)(t:TypeId)(x key v:A)(m:List ar)(K:KV):Prop :=
 lN tt t fun agg sh _=>match IC agg sh key,x,cY 4 v with
  | some k,.omap b,false=>match m.getD b .dead with
   | .fK kC vI has val=>match sC agg kC,vH sh vI with
    | true,true=>fd 4 v fun v'=>K .aj [(b,.fK kC vI (pR has k true) (sD val k v'))] [b]
    | _,_=>False
   | _=>False
  | _,_,_=>False
def mP(tt:TT)(t:TypeId)(aD:Nat)(m:List ar)(K:KV):Prop :=
 lN tt t fun agg sh _=>fE m aD (K (.omap aD) [(aD,.fK agg sh (fun _=>false) (fun _=>.aj))] [aD])
def nN(tt:TT)(t:TypeId)(b:Nat)(hi:Option A)(aD:Nat)(m:List ar)(K:KV):Prop :=
 match tt.lookup t with
 | some ti=>match ti.kind,m.getD b .dead with
  | 3,.row ty sz n row=>y9 hi n n fun h=>fE m aD (K (.own aD) [(aD,.row ty sz h row),(b,.gone)] [aD,b])
  | _,_=>False
 | none=>False
def XD(P:Program)(G:aK)(tt:TT)(o:Oper)(t:TypeId)(x:A)(lo hi:Option A)(aD:Nat)(s:List A)(m:List ar)(K:KV):Prop :=
 match x,lo with
 | .own b,none=>nN tt t b hi aD m K
 | _,_=>eN P G tt o s m K
/-- How many entries a map has that is a value: it must be known. -/
def GI(tt:TT)(t:TypeId)(x:A)(K:KV):Prop :=
 match x with
 | .mv _ sh has _=>lN tt t fun _ _ _=>∃n:Nat,(∀keys:List (List KC),keys.Nodup->(∀k∈keys,jv sh k/\has k=true)->(∀k,jv sh k->has k=true->k∈keys)->keys.length=n)/\K (.int .i64 (n:Int)) [] []
 | _=>False
def Lb(P:Program)(G:aK)(tt:TT)(o:Oper)(t:TypeId)(x:A)(s:List A)(m:List ar)(K:KV):Prop :=
 match x with
 | .mv g sh has val=>GI tt t (.mv g sh has val) K
 | _=>eN P G tt o s m K
def tD(P:Program)(G:aK)(tt:TT)(o:Oper)(aD:Nat)(s:List A)(m:List ar)(K:KV):Prop :=
 match o.op with
 | .slice t x lo hi none=>XD P G tt o t (ev s x) (qt s lo) (qt s hi) aD s m K
 | .lookup t x k ok=>yh tt t (ev s x) (ev s k) ok m K
 | .mapUpdate t x k v=>xA tt t (ev s x) (ev s k) (ev s v) m K
 | .insert t x k v=>xA tt t (ev s x) (ev s k) (ev s v) m K
 | .makeMap t none=>mP tt t aD m K
 | .alloc t=>zJ tt t aD m K
 | .box t x=>PX t (ev s x) aD m K
 | .buildSlice t len ps=>qI tt t len (ps.toList.map fun p=>(p.1,ev s p.2)) aD m K
 | .makeSlice t l k=>GH tt t (ev s l) (ev s k) aD m K
 | .call { callee:=.builtin .append,args,argTypes }=>match args.toList,argTypes.toList with
  | [x,y],[t,t']=>match Nat.beq t' t with
   | true=>EI tt t (ev s x) (ev s y) aD m K
   | false=>False
  | _,_=>False
 | .call { callee:=.value f,args,.. }=>eN P G tt o s m K\/vP P G (ev s f) (args.toList.map (ev s)) aD m K
 | .call { callee:=.builtin .len,args,argTypes }=>match args.toList,argTypes.toList with
  | [x],[t]=>Lb P G tt o t (ev s x) s m K
  | _,_=>eN P G tt o s m K
 | .load t x=>yg P G tt o t (ev s x) aD s m K
 | .indexAddr t x i=>IK P G tt o t (ev s x) (ev s i) s m K
 | .store t x y=>sH tt t (ev s x) (ev s y) m K
 | _=>eN P G tt o s m K

section
variable {c:Ctx} {s s2:List A} {m m2:List ar} {a:Act} {w w':World} {ids ab:dV} {P:Program} {im bL:Nat->Prop} {tt:TT} {G:aK}
variable {next:Act->World->Prop} {Q:Exit->Act->World->Prop} {o:Oper}

theorem TY(hq:quiet o.op=true){K:KT}:step P G tt o s m K=step P G tt o s m fun v _=>K v m:=by
 unfold step;split<;>first|rfl|exact ZS|exact XE|exact PZ|exact P0|exact ZT|skip
 all_goals (rename_i ho;rw[ho] at hq;cases hq)

theorem Lc(f:A)(as:List A):DM (fun K=>pn P G f as m fun v _=>K v):=by
 unfold pn;split<;>first|exact DM.dc|skip
 simp only[cX,fA];split
 ·exact DM.ex fun r=>DM.val _
 ·exact DM.ex fun r=>DM.and (DM.val _)
theorem uG(hq:quiet o.op=true):DM (fun K=>step P G tt o s m fun v _=>K v):=by
 unfold step;split<;>first|(split<;>first|exact ye _ _ _ _ _|exact DM.dc;done)|exact K6 _ _ _ _|exact II _ _ _ _|exact xx _ _ _ _ _|exact xy _ _ _ _ _|exact Lc _ _|exact K7 _ _ _|exact PW _ _ _ _ _|exact TX _ _|exact K8 _ _ _ _|exact IG _ _ _ _|exact IH _ _ _ _|exact BW _ _|exact PV _|exact ye _ _ _ _ _|exact DM.dc|skip
 ·simp only[dL];exact DM.val _
 ·simp only[dL];exact DM.val _
 ·rename_i ho;rw[ho] at hq;cases hq
 ·rename_i ho;rw[ho] at hq;cases hq
 ·rename_i ho;rw[ho] at hq;cases hq
 ·split<;>first|exact DM.dc|exact DM.val _
 ·split<;>first|exact DM.dc|exact PU _ _ _ _
 ·split<;>first|exact DM.dc|exact K9 _ _
 ·split<;>first|exact DM.dc|exact La _ _

/-- What is asked of a continuation is asked of one outcome. -/
def DK(F:KV->Prop):Prop:=∀K,F K->∃r:Oc,K r.v r.u r.rd/\F (fun v u rd=>v=r.v/\u=r.u/\rd=r.rd)
theorem DK.val(v:A)(u:List (Nat×ar))(rd:List Nat):DK (fun K=>K v u rd):=fun _ h=>⟨⟨v,u,rd⟩,h,rfl,rfl,rfl⟩
theorem DK.dc:DK (fun _=>False):=fun _ h=>h.elim
theorem DK.and{p:Prop}{F:KV->Prop}(h:DK F):DK (fun K=>p/\F K):=fun K hk=>by
 obtain⟨r,h1,h2⟩:=h K hk.2;exact⟨r,h1,hk.1,h2⟩
theorem DK.or{F F':KV->Prop}(h:DK F)(h':DK F'):DK (fun K=>F K\/F' K):=fun K hk=>by
 rcases hk with hk|hk
 ·obtain⟨r,h1,h2⟩:=h K hk;exact⟨r,h1,.inl h2⟩
 ·obtain⟨r,h1,h2⟩:=h' K hk;exact⟨r,h1,.inr h2⟩
theorem DK.free{F:KV->Prop}{aD:Nat}(h:DK F):DK (fun K=>fE m aD (F K)):=fun K hk=>by
 unfold fE at hk ⊢;split at hk
 ·exact h K hk
 ·exact hk.elim
theorem DK.tC{F:KV->Prop}(h:DK F):∀(xs:List ar) (aD:Nat),DK (fun K=>tC m aD xs (F K))
 | [],_=>h
 | _::xs,aD=>DK.free (DK.tC h xs (aD+1))
theorem DK.XF{F:(A->Prop)->Prop}{rd:List Nat}(h:DM F):DK (fun K=>F fun v=>K v [] rd):=fun K hk=>by
 obtain⟨v,h1,h2⟩:=(h _).1 hk;exact⟨⟨v,[],rd⟩,h1,(h _).2 ⟨v,by simp,h2⟩⟩
theorem zK{ti:TI}:∀(ps:List (Nat×A)) (cs:List A) {K:List A->Prop},pF ti ps cs K->∃dz,K dz/\∀K':List A->Prop,K' dz->pF ti ps cs K'
 | [],cs,K,h=>⟨cs,h,fun _ h'=>h'⟩
 | (i,v)::ps,cs,K,h=>by
  simp only[pF] at h ⊢;split at h
  ·rename_i off size vs hp hc;split at h
   ·rename_i e1 e2;rw[cI] at h;obtain⟨dz,h1,h2⟩:=zK ps _ h;refine⟨dz,h1,fun K' h'=>?_⟩;simp only[e1,e2,cI];exact h2 K' h'
   ·exact h.elim
  ·exact h.elim


theorem iz:DK (eN P G tt o s m):=by
 unfold eN;split
 ·rename_i rd hq hr;exact DK.XF (uG (P:=P) (G:=G) (tt:=tt) (s:=s) (m:=m) hq)
 ·exact DK.dc
theorem Ld{size:Nat}{cs:List A}{off:Nat}{y:A}{F:List A->KV->Prop}(h:∀dz,DK (F dz)):DK (fun K=>O1 size cs off y fun dz=>F dz K):=fun K hk=>by
 obtain⟨vs,g1,g2,g3,g4⟩:=mB hk;obtain⟨r,h1,h2⟩:=h _ K g4;refine⟨r,h1,?_⟩;simp only;unfold O1;simp only[g1,g2,cI];have e2:Nat.ble (off+size) cs.length=true:=Nat.ble_eq_true_of_le g3;simp only[e2,Nat.beq_refl];exact h2
theorem Le{f:A}{as:List A}{aD:Nat}{F:A->List ar->KV->Prop}(h:∀r mo,DK (F r mo)):DK (fun K=>vG P G f as aD fun r mo=>F r mo K):=fun K hk=>by
 unfold vG at hk ⊢;split at hk
 ·rw[cX] at hk;simp only[cX];split at hk
  ·rename_i bm;obtain⟨r,mo,hc,hk⟩:=hk;split at hk
   ·rename_i BF;rw[fA,eK] at hk;obtain⟨x,h1,h2⟩:=h _ _ K hk;refine⟨x,h1,?_⟩;refine⟨r,mo,hc,?_⟩;simp only[BF,fA,eK];exact h2
   ·exact hk.elim
  ·exact hk.elim
 ·exact hk.elim
theorem iA{t:TypeId}{F:Bool->List KS->A->Prop}(h:lN tt t F):∃agg sh z,F agg sh z/\∀F':Bool->List KS->A->Prop,F' agg sh z->lN tt t F':=by
 unfold lN at h ⊢;split at h
 ·exact h.elim
 ·rename_i ti j7;split at h
  ·rename_i tk te hk ZO Bc;split at h
   ·rename_i ns sh dS Ge;split at h
    ·rename_i zj hlen;simp only[Sw] at h ⊢;split at h
     ·rename_i ha;rw[cI] at h;refine⟨_,_,_,h,fun F' h'=>?_⟩;simp only[hk,ZO,Bc,dS,Ge,zj,hlen,ha,cI];exact h'
     ·rename_i ha;split at h
      ·rename_i z hz;rw[dL] at h;refine⟨_,_,_,h,fun F' h'=>?_⟩;simp only[hk,ZO,Bc,dS,Ge,zj,hlen,ha,hz,dL];exact h'
      ·exact h.elim
    ·exact h.elim
   ·exact h.elim
  ·exact h.elim
theorem vQ(t:TypeId)(x key:A)(ok:Bool):DM (kS tt t x key ok m):=by
 have hl:∀z k has val,DM (BL z k ok has val):=by
  intro z k has val;unfold BL;cases ok<;>simp only[fA]<;>exact DM.two (DM.val _) (DM.val _)
 have hg:∀agg sh z k kC vI has val,DM (xZ agg sh z k ok kC vI has val):=by
  intro agg sh z k kC vI has val;unfold xZ;split<;>first|exact hl _ _ _ _|exact DM.dc
 intro K;constructor
 ·intro h;unfold kS at h;obtain⟨agg,sh,z,h1,h2⟩:=iA h;split at h1
  ·exact h1.elim
  ·rename_i k hk;split at h1
   ·obtain⟨v,g1,g2⟩:=(hg _ _ _ _ _ _ _ _ K).1 h1;exact⟨v,g1,by unfold kS;refine h2 _ ?_;rw[hk];exact g2⟩
   ·rename_i b;split at h1
    ·rename_i hb;obtain⟨v,g1,g2⟩:=(hg _ _ _ _ _ _ _ _ K).1 h1;exact⟨v,g1,by unfold kS;refine h2 _ ?_;simp only[hk,hb];exact g2⟩
    ·exact h1.elim
   ·cases ok
    ·exact⟨_,h1,by unfold kS;refine h2 _ ?_;rw[hk]⟩
    ·exact⟨_,h1,by unfold kS;refine h2 _ ?_;rw[hk]⟩
   ·exact h1.elim
 ·rintro⟨v,g1,h⟩;unfold kS at h ⊢;obtain⟨agg,sh,z,h1,h2⟩:=iA h;refine h2 _ ?_;split at h1
  ·exact h1.elim
  ·rename_i k hk;split at h1
   ·exact(hg _ _ _ _ _ _ _ _ K).2 ⟨v,g1,h1⟩
   ·rename_i b;split at h1
    ·rename_i hb;exact(hg _ _ _ _ _ _ _ _ K).2 ⟨v,g1,h1⟩
    ·exact h1.elim
   ·cases ok
    ·simp only at h1 ⊢;rw[h1];exact g1
    ·simp only at h1 ⊢;rw[h1];exact g1
   ·exact h1.elim
theorem GJ{t:TypeId}{x key v:A}:DK (xA tt t x key v m):=fun K h=>by
 unfold xA at h;obtain⟨agg,sh,z,h1,h2⟩:=iA h;split at h1
 ·rename_i k b hk bm;split at h1
  ·rename_i hb;split at h1
   ·rename_i g1 g2;rw[fA] at h1;refine⟨⟨_,_,_⟩,h1,?_⟩;unfold xA;refine h2 _ ?_;simp only[hk,bm,hb,g1,g2,fA];exact⟨trivial,trivial,trivial⟩
   ·exact h1.elim
  ·exact h1.elim
 ·exact h1.elim
theorem IM{t:TypeId}{aD:Nat}:DK (mP tt t aD m):=fun K h=>by
 unfold mP at h;obtain⟨agg,sh,z,h1,h2⟩:=iA h;obtain⟨r,h3,h4⟩:=DK.free (DK.val _ _ _) _ h1;exact⟨r,h3,by unfold mP;exact h2 _ h4⟩
theorem Lf{x:Option A}{d y:Nat}{F:Nat->Prop}(h:y9 x d y F):∃n,F n/\∀F':Nat->Prop,F' n->y9 x d y F':=by
 unfold y9 at h ⊢;split at h
 ·exact⟨_,h,fun _ h'=>h'⟩
 ·split at h
  ·exact⟨_,h.2,fun _ h'=>⟨h.1,h'⟩⟩
  ·exact h.elim
theorem IP{t:TypeId}{b:Nat}{hi:Option A}{aD:Nat}:DK (nN tt t b hi aD m):=fun K h=>by
 unfold nN at h ⊢;split at h
 ·split at h
  ·rename_i hk hb;obtain⟨n,h1,h2⟩:=Lf h;obtain⟨r,h3,h4⟩:=DK.free (DK.val _ _ _) _ h1;refine⟨r,h3,?_⟩;simp only[hk,hb];exact h2 _ h4
  ·exact h.elim
 ·exact h.elim
theorem TZ{t:TypeId}{x:A}{lo hi:Option A}{aD:Nat}:DK (XD P G tt o t x lo hi aD s m):=by
 unfold XD;split
 ·exact IP
 ·exact iz
theorem P1{t:TypeId}{x:A}:DK (Lb P G tt o t x s m):=by
 unfold Lb;split
 ·intro K h;unfold GI at h;obtain⟨agg,sh,z,⟨n,h1,h2⟩,h3⟩:=iA h;refine⟨⟨.int .i64 (n:Int),[],[]⟩,h2,?_⟩;unfold GI;exact h3 _ ⟨n,h1,rfl,rfl,rfl⟩
 ·exact iz
theorem Lg{aD:Nat}:DK (tD P G tt o aD s m):=by
 unfold tD;split
 ·exact TZ
 ·exact DK.XF (vQ _ _ _ _)
 ·exact GJ
 ·exact GJ
 ·exact IM
 ·unfold zJ;split
  ·exact DK.free (DK.val _ _ _)
  ·exact DK.dc
 ·unfold PX;split
  ·exact DK.free (DK.val _ _ _)
  ·exact DK.dc
 ·unfold qI;split
  ·split
   ·intro K hk;obtain⟨cs,h1,h2⟩:=zK _ _ hk;split at h1
    ·rename_i bm hlen;split at h1
     ·rename_i D7;simp only[aX] at h1;obtain⟨r,h3,h4⟩:=DK.free (DK.val _ _ _) _ h1;refine⟨r,h3,h2 _ ?_⟩;simp only[bm,hlen,D7,aX];exact h4
     ·rename_i D7;simp only[aX] at h1;obtain⟨r,h3,h4⟩:=DK.val _ _ _ _ h1;refine⟨r,h3,h2 _ ?_⟩;simp only[bm,hlen,D7,aX];exact h4
    ·exact h1.elim
   ·exact DK.dc
  ·exact DK.dc
 ·unfold GH;split
  ·split
   ·simp only[aX,cI];exact DK.and (DK.free (DK.val _ _ _))
   ·exact DK.dc
  ·exact DK.dc
 ·split
  ·split
   ·unfold EI;split
    ·exact DK.dc
    ·split
     ·split
      ·split
       ·split
        ·simp only[aX];exact DK.and (DK.free (DK.val _ _ _))
        ·exact DK.dc
       ·exact DK.dc
      ·exact DK.dc
     ·exact DK.dc
   ·exact DK.dc
  ·exact DK.dc
 ·exact DK.or iz (Le fun r mo=>DK.tC (DK.val _ _ _) _ _)
 ·split
  ·exact P1
  ·exact iz
 ·unfold yg;split
  ·split
   ·unfold yf;split
    ·exact DK.dc
    ·split
     ·exact DK.and (DK.free (DK.val _ _ _))
     ·exact DK.dc
   ·exact iz
  ·exact iz
 ·unfold IK;split
  ·split
   ·split
    ·split
     ·exact DK.and (DK.val _ _ _)
     ·exact DK.dc
    ·exact DK.dc
   ·exact iz
  ·exact iz
 ·unfold sH;split
  ·split
   ·exact Ld fun _=>DK.val _ _ _
   ·exact DK.dc
  ·split
   ·split
    ·simp only[cI];exact DK.and (Ld fun _=>DK.val _ _ _)
    ·exact DK.dc
   ·unfold IL;split
    ·split
     ·split
      ·exact DK.and (DK.val _ _ _)
      ·exact DK.dc
     ·exact DK.dc
    ·exact DK.dc
   ·exact DK.dc
  ·exact DK.dc
 ·exact iz

/-- What an operation comes to. -/
def Out(P:Program)(G:aK)(tt:TT)(o:Oper)(aD:Nat)(s:List A)(m:List ar)(r:Oc):Prop :=
 tD P G tt o aD s m fun v u rd=>v=r.v/\u=r.u/\rd=r.rd

theorem IQ{aD:Nat}{K:KV}(h:tD P G tt o aD s m K):∃r:Oc,Out P G tt o aD s m r/\K r.v r.u r.rd:=by
 obtain⟨r,h1,h2⟩:=Lg K h;exact⟨r,h2,h1⟩
end
section
variable {c:Ctx} {s s2:List A} {m m2:List ar} {a:Act} {w w':World} {ids ab:dV} {P:Program} {im bL:Nat->Prop} {tt:TT} {G:aK}
variable {next:Act->World->Prop} {Q:Exit->Act->World->Prop} {o:Oper} {K:A->Prop}

def Agree(m m2:List ar)(rs:List Nat):Prop:=∀b∈rs,m.getD b .dead=m2.getD b .dead

theorem mQ{g g2:A->Option (List Nat)}{h h2:A->A}:∀(xs:List A) (rs:List Nat),(∀x∈xs,∀l,g x=some l->(∀b∈l,b∈rs)->g2 x=some l/\h x=h2 x) ->
  ∀l,vN g xs=some l->(∀b∈l,b∈rs)->vN g2 xs=some l/\xs.map h=xs.map h2
 | [],_,_,l,hl,_=>⟨hl,rfl⟩
 | x::xs,rs,hx,l,hl,hb=>by
  unfold vN at hl ⊢;split at hl
  ·rename_i l1 l2 e1 e2;cases hl;obtain⟨a1,a2⟩:=hx x (by simp) l1 e1 (fun b h=>hb b (by simp[h]));obtain⟨b1,b2⟩:=mQ xs rs (fun y hy=>hx y (by simp[hy])) l2 e2 (fun b h=>hb b (by simp[h]));simp[a1,b1,a2,b2]
  ·cases hl
theorem yi{rs:List Nat}(hm:Agree m m2 rs):∀(d:Nat) (x:A) (l:List Nat),xz m d x=some l->(∀b∈l,b∈rs)->xz m2 d x=some l/\wk m d x=wk m2 d x
 | 0,_,_,h,_=>by cases h
 | d+1,x,l,h,hb=>by
  have ih:=fun x l h hb=>yi hm d x l h hb
  have lists:∀cs:List A,vN (xz m d) cs=some l->vN (xz m2 d) cs=some l/\cs.map (wk m d)=cs.map (wk m2 d) :=
   fun cs h=>mQ cs rs (fun x _ l h hb=>ih x l h hb) l h hb
  cases x
  case ref b off =>
   simp only[xz,wk] at h ⊢;split at h
   ·rename_i ty cs KO;split at h
    ·rename_i l' O2;cases h;have e:m2.getD b .dead=.box ty cs:=by rw[<-hm b (hb b (by simp))];exact KO
     obtain⟨g1,g2⟩:=mQ cs rs (fun x _ l h hb=>ih x l h hb) l' O2 (fun b h=>hb b (by simp[h]));rw[KO,e];simp[g1,g2]
    ·cases h
   ·cases h
  case agg cs=>obtain⟨g1,g2⟩:=lists cs h;exact⟨g1,by simp only[wk,g2]⟩
  case tup cs=>obtain⟨g1,g2⟩:=lists cs h;exact⟨g1,by simp only[wk,g2]⟩
  case fn f cs=>obtain⟨g1,g2⟩:=lists cs h;exact⟨g1,by simp only[wk,g2]⟩
  case oref=>cases h
  case own b =>
   simp only[xz,wk] at h ⊢;split at h
   ·rename_i ty sz n row KO;cases h;have e:m2.getD b .dead=.row ty sz n row:=by rw[<-hm b (hb b (by simp))];exact KO
    rw[KO,e];exact⟨rfl,rfl⟩
   ·cases h
  case omap b =>
   simp only[xz,wk] at h ⊢;split at h
   ·rename_i g n key val KO;cases h;have e:m2.getD b .dead=.fK g n key val:=by rw[<-hm b (hb b (by simp))];exact KO
    rw[KO,e];exact⟨rfl,rfl⟩
   ·cases h
  all_goals exact⟨h,rfl⟩

theorem BX{t:TypeId}{p:A}(hm:Agree m m2 (GG p)):(nd tt t p m fun v _=>K v)=(nd tt t p m2 fun v _=>K v):=by
 unfold nd;cases tt.lookup t with
 | none=>rfl
 | some ti=>cases p<;>simp only<;>first|rfl|(rw[hm _ (by simp[GG])])
theorem sI{t:TypeId}{p i:A}(hm:Agree m m2 (GG p)):(fz tt t p i m fun v _=>K v)=(fz tt t p i m2 fun v _=>K v):=by
 unfold fz;cases tt.lookup t with
 | none=>rfl
 | some ti =>
  simp only;split
  ·cases p<;>simp only<;>first|rfl|(rw[hm _ (by simp[GG])])
  ·rfl
  ·rfl
theorem EJ{t:TypeId}{p:A}(hm:Agree m m2 (GG p)):Bj tt t p m K=Bj tt t p m2 K:=by
 unfold Bj;cases tt.lookup t with
 | none=>rfl
 | some ti =>
  simp only;split
  ·rfl
  ·rw[hm _ (by simp[GG])]
  ·rfl
  ·rfl
  ·rfl
theorem BY{f:A}{as:List A}{rs:List Nat}(hr:zI m f as=some rs)(hm:Agree m m2 rs):
  (pn P G f as m fun v _=>K v)=(pn P G f as m2 fun v _=>K v)/\zI m2 f as=some rs:=by
 unfold zI at hr ⊢;cases f<;>simp only at hr<;>first|cases hr|skip
 rename_i g cap;obtain⟨g1,g2⟩:=mQ (h:=wk m 5) (h2:=wk m2 5) (as++cap) rs (fun x _ l h hb=>yi hm 5 x l h hb) rs hr (fun b h=>h);refine⟨?_,g1⟩;unfold pn;simp only[cX];rw[g2]

theorem EK(hq:quiet o.op=true)(he:∀x∈o.op.operands,ev s x=ev s2 x){rd:List Nat}(hr:vO o.op s m=some rd)(hm:Agree m m2 rd):
  (step P G tt o s m fun v _=>K v)=(step P G tt o s2 m2 fun v _=>K v)/\vO o.op s2 m2=some rd:=by
 unfold step
 have P2:∀xs:Array Operand,(∀x∈xs,ev s x=ev s2 x)->xs.toList.map (ev s)=xs.toList.map (ev s2):=by
  intro xs h;exact List.map_congr_left fun x hx=>h x (by simpa using hx)
 cases Zy:o.op<;>rw[Zy] at hq he hr<;>first|(exfalso;simp[quiet] at hq;done)|(dsimp only)|skip
 case move x=>simp only[Op.operands] at he;rw[he x (by simp)];exact⟨rfl,hr⟩
 case assign x=>simp only[Op.operands] at he;rw[he x (by simp)];exact⟨rfl,hr⟩
 case pick x y z=>simp only[Op.operands] at he;rw[he x (by simp),he y (by simp),he z (by simp)];exact⟨rfl,hr⟩
 case build t ps =>
  simp only[Op.operands] at he;have:(ps.toList.map fun p=>(p.1,ev s p.2))=ps.toList.map fun p=>(p.1,ev s2 p.2):=List.map_congr_left fun p hp=>by rw[he p.2 (by simp;exact⟨p.1,by simpa using hp⟩)]
  simp only[this];refine⟨?_,hr⟩;unfold r9;split<;>rfl
 case load t x =>
  simp only[Op.operands] at he;have e:=he x (by simp);simp only[vO,Option.some.injEq] at hr ⊢;subst hr;rw[<-e];exact⟨BX hm,rfl⟩
 case nilCheck x=>simp only[Op.operands] at he;rw[he x (by simp)];exact⟨rfl,hr⟩
 case binOp op t x y t'=>simp only[Op.operands] at he;rw[he x (by simp),he y (by simp)];exact⟨rfl,hr⟩
 case unOp op t x=>simp only[Op.operands] at he;rw[he x (by simp)];exact⟨rfl,hr⟩
 case convert t t' x=>simp only[Op.operands] at he;rw[he x (by simp)];exact⟨rfl,hr⟩
 case makeFunc fn first cap =>
  simp only[Op.operands] at he;have:=P2 cap (fun x hx=>he x (by simp[hx]));cases fn<;>simp only<;>first|exact⟨trivial,hr⟩|(rw[this];exact⟨rfl,hr⟩)
 case fieldAddr t x f =>
  simp only[Op.operands] at he;rw[he x (by simp)];refine⟨?_,hr⟩;unfold iM;split<;>rfl
 case indexAddr t x i =>
  simp only[Op.operands] at he;have e:=he x (by simp);simp only[vO,Option.some.injEq] at hr ⊢;subst hr;rw[<-e,<-he i (by simp)];exact⟨sI hm,rfl⟩
 case index t x i=>simp only[Op.operands] at he;rw[he x (by simp),he i (by simp)];exact⟨rfl,hr⟩
 case field t x f=>simp only[Op.operands] at he;rw[he x (by simp)];exact⟨rfl,hr⟩
 case extract x i=>simp only[Op.operands] at he;rw[he x (by simp)];exact⟨rfl,hr⟩
 case slice t x lo hi mx =>
  cases mx with
  | some _=>simp[quiet] at hq
  | none =>
   simp only[Op.operands] at he;have e0:=he x (by simp)
   have e1:qt s lo=qt s2 lo:=by
    cases lo with
    | none=>rfl
    | some y=>simp only[qt];rw[he y (by simp)]
   have e2:qt s hi=qt s2 hi:=by
    cases hi with
    | none=>rfl
    | some y=>simp only[qt];rw[he y (by simp)]
   rw[e0,e1,e2];exact⟨rfl,hr⟩
 case call cl =>
  obtain⟨callee,args,ts⟩:=cl;simp only[Op.operands,Call.operands] at he;cases callee with
  | invoke r n=>simp[quiet] at hq
  | value f =>
   have e1:=he f (by simp);have e2:=P2 args (fun x hx=>he x (by simp[hx]));simp only[vO] at hr ⊢;rw[<-e1,<-e2];exact BY hr hm
  | builtin b =>
   have e2:∀x∈args,ev s x=ev s2 x:=fun x hx=>he x (by simp[hx]);cases b<;>first|(exfalso;simp[quiet] at hq;done)|(dsimp only)|skip
   case len =>
    simp only[vO] at hr ⊢;split at hr
    ·rename_i x hx
     have e := e2 x (by have : x ∈ args.toList := by rw [hx]; simp
                        simpa using this)
     cases hr;rw[hx];cases J8:ts.toList with
     | nil=>exact⟨rfl,by rw[<-e]⟩
     | cons t1 tl =>
      cases tl with
      | nil=>dsimp only;rw[<-e];exact⟨EJ hm,rfl⟩
      | cons=>exact⟨rfl,by rw[<-e]⟩
    ·cases hr
   case min =>
    cases hx:args.toList with
    | nil=>exact⟨rfl,hr⟩
    | cons x xs =>
     have h1:=P2 args e2;rw[hx] at h1;simp only[List.map_cons,List.cons.injEq] at h1
     dsimp only;rw[h1.1,h1.2];exact⟨rfl,hr⟩
   case max =>
    cases hx:args.toList with
    | nil=>exact⟨rfl,hr⟩
    | cons x xs =>
     have h1:=P2 args e2;rw[hx] at h1;simp only[List.map_cons,List.cons.injEq] at h1
     dsimp only;rw[h1.1,h1.2];exact⟨rfl,hr⟩
end
section
variable {c:Ctx} {s s2:List A} {m m2:List ar} {a:Act} {w w':World} {ids ab:dV} {P:Program} {im bL:Nat->Prop} {tt:TT} {G:aK}
variable {next:Act->World->Prop} {Q:Exit->Act->World->Prop} {o:Oper}

theorem dA{aD:Nat}{X:Prop}(h:fE m aD X):X/\m.getD aD .dead=.dead/\Nat.blt aD m.length=true:=by
 unfold fE at h;split at h
 ·rename_i h1 h2;exact⟨h,h1,h2⟩
 ·exact h.elim
theorem kh{aD:Nat}{X:Prop}(h1:m.getD aD .dead=.dead)(h2:Nat.blt aD m.length=true)(h:X):fE m aD X:=by
 unfold fE;rw[h1,h2];exact h
theorem iX{aD:Nat}(h1:m.getD aD .dead=.dead)(h2:Nat.blt aD m.length=true):m[aD]?=some .dead:=by
 have hl:aD<m.length:=Nat.le_of_ble_eq_true h2;rw[List.getElem?_eq_getElem hl];simpa[List.getD_eq_getElem?_getD,hl] using h1
def LK(m m2:List ar)(F F2:KV->Prop):Prop:=∀r:Oc,(F fun v u rd=>v=r.v/\u=r.u/\rd=r.rd)->Agree m m2 r.rd->F2 fun v u rd=>v=r.v/\u=r.u/\rd=r.rd
theorem LK.BZ{aD:Nat}(hlen:m.length=m2.length)(v:A)(u:List (Nat×ar))(rd:List Nat)(pL:aD∈rd):LK m m2 (fun K=>fE m aD (K v u rd)) (fun K=>fE m2 aD (K v u rd)):=by
 intro r h hm;obtain⟨h1,h2,h3⟩:=dA h;exact kh (by rw[<-hm aD (by rw[<-h1.2.2];exact pL)];exact h2) (by rw[<-hlen];exact h3) h1
theorem EL{bN:Nat}{y:A}(hm:Agree m m2 (GG y)):Bz m bN y=Bz m2 bN y:=by
 unfold Bz;cases y<;>simp only<;>rw[hm _ (by simp[GG])]
theorem dB(he:∀x∈o.op.operands,ev s x=ev s2 x):LK m m2 (eN P G tt o s m) (eN P G tt o s2 m2):=by
 intro r h hm;unfold eN at h ⊢;split at h
 ·rename_i T0 hq hr;obtain⟨v,h1,h2⟩:=(uG (P:=P) (G:=G) (tt:=tt) (s:=s) (m:=m) hq _).1 h;have J7:_=r.rd:=h1.2.2;rw[<-J7] at hm;obtain⟨g1,g2⟩:=EK (P:=P) (G:=G) (tt:=tt) (K:=fun v=>v=r.v/\[]=r.u/\T0=r.rd) hq he hr hm;simp only[hq,g2];rw[<-g1];exact h
 ·exact h.elim
theorem EN{t:TypeId}{x y:A}{aD:Nat}(hlen:m.length=m2.length):LK m m2 (EI tt t x y aD m) (EI tt t x y aD m2):=by
 intro r h hm;unfold EI at h ⊢;split at h
 ·exact h.elim
 ·rename_i ti j7;split at h
  ·rename_i n2 jK hk hv;split at h
   ·rename_i b;split at h
    ·rename_i ty sz n row hb;split at h
     ·rename_i oI mr;simp only[aX] at h;obtain⟨hc,h⟩:=h;obtain⟨hX,h2,h3⟩:=dA h;have J7:=hX.2.2;have e1:m2.getD b .dead=.row ty sz n row:=by rw[<-hm b (by rw[<-J7];simp)];exact hb
      have e2:m2.getD aD .dead=.dead:=by rw[<-hm aD (by rw[<-J7];simp)];exact h2
      have e3:Bz m2 ti.bN y=some (n2,jK):=by rw[<-EL (fun b hb=>hm b (by rw[<-J7];simp[hb]))];exact hv
      simp only[hk,e3,e1,oI,mr,aX];exact⟨hc,kh e2 (by rw[<-hlen];exact h3) hX⟩
     ·exact h.elim
    ·exact h.elim
   ·exact h.elim
  ·exact h.elim
theorem B0{t:TypeId}{x:A}{aD:Nat}(he:∀x∈o.op.operands,ev s x=ev s2 x)(hx:∀b i off,x=.oref b i off->∀rd,vO o.op s m=some rd->b∈rd)(hlen:m.length=m2.length):
  LK m m2 (yg P G tt o t x aD s m) (yg P G tt o t x aD s2 m2):=by
 intro r h hm;unfold yg at h ⊢;split at h
 ·rename_i b i off;split at h
  ·rename_i ty aW sz n hole len row hb;unfold yf at h;split at h
   ·exact h.elim
   ·rename_i ti j7;split at h
    ·rename_i hk h1 h2;obtain⟨hi,h⟩:=h;obtain⟨hX,h3,h4⟩:=dA h;have J7:=hX.2.2;have e1:m2.getD b .dead=.nest ty aW sz n none len row:=by rw[<-hm b (by rw[<-J7];simp)];exact hb
     have e2:m2.getD aD .dead=.dead:=by rw[<-hm aD (by rw[<-J7];simp)];exact h3
     simp only[e1];unfold yf;simp only[j7,hk,h1,h2];exact⟨hi,kh e2 (by rw[<-hlen];exact h4) hX⟩
    ·exact h.elim
  ·rename_i hne;have hq:=h;unfold eN at hq;split at hq
   ·rename_i T0 hqq XG;obtain⟨v,h1,_⟩:=(uG (P:=P) (G:=G) (tt:=tt) (s:=s) (m:=m) hqq _).1 hq;have hb:b∈r.rd:=by rw[<-h1.2.2];exact hx b i off rfl T0 XG
    have e1:=hm b hb;have:=dB (P:=P) (G:=G) (tt:=tt) he r h hm;rw[<-e1];split
    ·rename_i hh;exact absurd hh (hne _ _ _ _ _ _ _)
    ·exact this
   ·exact hq.elim
 ·exact dB he r h hm
theorem EO{t:TypeId}{x i:A}(he:∀x∈o.op.operands,ev s x=ev s2 x)(hx:∀b,x=.own b->∀rd,vO o.op s m=some rd->b∈rd):
  LK m m2 (IK P G tt o t x i s m) (IK P G tt o t x i s2 m2):=by
 intro r h hm;unfold IK at h ⊢;split at h
 ·rename_i b;split at h
  ·rename_i ty aW sz n hole len row hb;split at h
   ·rename_i ti kk ix j7;split at h
    ·rename_i hk h1;have e1:m2.getD b .dead=.nest ty aW sz n hole len row:=by rw[<-hm b (by rw[<-h.2.2.2];simp)];exact hb
     simp only[e1];exact h
    ·exact h.elim
   ·exact h.elim
  ·rename_i hne;have hq:=h;unfold eN at hq;split at hq
   ·rename_i T0 hqq XG;obtain⟨v,h1,_⟩:=(uG (P:=P) (G:=G) (tt:=tt) (s:=s) (m:=m) hqq _).1 hq;have hb:b∈r.rd:=by rw[<-h1.2.2];exact hx b rfl T0 XG
    have e1:=hm b hb;have:=dB (P:=P) (G:=G) (tt:=tt) he r h hm;rw[<-e1];split
    ·rename_i hh;exact absurd hh (hne _ _ _ _ _ _ _)
    ·exact this
   ·exact hq.elim
 ·exact dB he r h hm
theorem zL{t:TypeId}{x y:A}:LK m m2 (sH tt t x y m) (sH tt t x y m2):=by
 intro r h hm;unfold sH at h ⊢;split at h
 ·rename_i ti b off ht;split at h
  ·rename_i ty cs hb;obtain⟨vs,g1,g2,g3,g4⟩:=mB h;have:m2.getD b .dead=.box ty cs:=by rw[<-hm b (by rw[<-g4.2.2];simp)];exact hb
   simp only[this];exact h
  ·exact h.elim
 ·rename_i ti b i off ht;split at h
  ·rename_i ty sz n row hb;split at h
   ·rename_i bm;obtain⟨aH,h⟩:=h;have h':=h;rw[cI] at h';obtain⟨vs,g1,g2,g3,g4⟩:=mB h';have:m2.getD b .dead=.row ty sz n row:=by rw[<-hm b (by rw[<-g4.2.2];simp)];exact hb
    simp only[this];exact⟨aH,h⟩
   ·exact h.elim
  ·rename_i ty aW sz n hole len row hb;unfold IL at h;split at h
   ·rename_i b' ti2 j j7;split at h
    ·rename_i xu ue n' dZ h1 fN h2;split at h
     ·rename_i h3 h4;have e1:m2.getD b .dead=.nest ty aW sz n (some j) len row:=by rw[<-hm b (by rw[<-h.2.2.2];simp)];exact hb
      have e2:m2.getD b' .dead=.row xu ue n' dZ:=by rw[<-hm b' (by rw[<-h.2.2.2];simp)];exact fN
      simp only[e1];unfold IL;simp only[j7,h1,e2,h2,h3,h4];exact h
     ·exact h.elim
    ·exact h.elim
   ·exact h.elim
  ·exact h.elim
 ·exact h.elim
theorem vR:∀(n k i:Nat),i∈pV n k↔k<=i/\i<k+n
 | 0,k,i=>by simp[pV]
 | n+1,k,i=>by rw[pV,List.mem_cons,vR n (k+1) i];omega
theorem sJ:∀(xs:List ar) (aD:Nat) {X:Prop},tC m aD xs X->X/\∀j,j<xs.length->m.getD (aD+j) .dead=.dead/\Nat.blt (aD+j) m.length=true
 | [],_,X,h=>⟨h,fun j hj=>by simp at hj⟩
 | x::xs,aD,X,h=>by
  obtain⟨h1,h2,h3⟩:=dA h;obtain⟨g1,g2⟩:=sJ xs (aD+1) h1;refine⟨g1,fun j hj=>?_⟩;cases j with
  | zero=>exact⟨h2,h3⟩
  | succ j=>have:=g2 j (by simpa using hj);rwa [show aD+1+j=aD+(j+1) by omega] at this
theorem tE:∀(xs:List ar) (aD:Nat) {X:Prop},X->(∀j,j<xs.length->m.getD (aD+j) .dead=.dead/\Nat.blt (aD+j) m.length=true)->tC m aD xs X
 | [],_,X,h,_=>h
 | x::xs,aD,X,h,hj=>by
  refine kh (hj 0 (by simp)).1 (hj 0 (by simp)).2 (tE xs (aD+1) h fun j hh=>?_);have:=hj (j+1) (by simpa using hh)
  rwa [show aD+1+j=aD+(j+1) by omega]
theorem zM{f:A}{as:List A}{aD:Nat}(hlen:m.length=m2.length):LK m m2 (vP P G f as aD m) (vP P G f as aD m2):=by
 intro r h hm;unfold vP at h ⊢;unfold vG at h ⊢;split at h
 ·rw[cX] at h;simp only[cX];split at h
  ·rename_i bm;obtain⟨r0,mo,hc,hk⟩:=h;refine⟨r0,mo,hc,?_⟩;split at hk
   ·rename_i BF;simp only[fA,eK] at hk ⊢;obtain⟨hX,hd⟩:=sJ _ _ hk;refine tE _ _ hX fun j hj=>?_;obtain⟨d1,d2⟩:=hd j hj;refine⟨?_,by rw[<-hlen];exact d2⟩;rw[<-hm (aD+j) (by rw[<-hX.2.2,vR];omega)];exact d1
   ·exact hk.elim
  ·exact h.elim
 ·exact h.elim
theorem B3{t:TypeId}{x key:A}{ok:Bool}{K:A->Prop}(hm:Agree m m2 (rdM x)):kS tt t x key ok m K=kS tt t x key ok m2 K:=by
 unfold kS;cases x
 case omap b =>
  have e:=hm b (by simp[rdM])
  dsimp only
  rw[e]
 all_goals rfl
theorem B4{t:TypeId}{x key:A}{ok:Bool}:LK m m2 (yh tt t x key ok m) (yh tt t x key ok m2):=by
 intro r h hm;unfold yh at h ⊢;obtain⟨v,h1,_⟩:=(vQ (tt:=tt) (m:=m) t x key ok _).1 h;rw[<-B3 (by rw[h1.2.2];exact hm)];exact h
theorem vS{t:TypeId}{x key v:A}:LK m m2 (xA tt t x key v m) (xA tt t x key v m2):=by
 intro r h hm;unfold xA at h ⊢;obtain⟨agg,sh,z,h1,h2⟩:=iA h;refine h2 _ ?_;split at h1
 ·rename_i k b hk bm;split at h1
  ·rename_i hb;split at h1
   ·rename_i g1 g2;rw[fA] at h1;have e:m2.getD b .dead=_:=(hm b (by rw[<-h1.2.2];simp)).symm.trans hb;simp only[e,g1,g2,fA];exact h1
   ·exact h1.elim
  ·exact h1.elim
 ·exact h1.elim
theorem zN{t:TypeId}{aD:Nat}(hlen:m.length=m2.length):LK m m2 (mP tt t aD m) (mP tt t aD m2):=by
 intro r h hm;unfold mP at h ⊢;obtain⟨agg,sh,z,h1,h2⟩:=iA h;exact h2 _ (LK.BZ hlen _ _ _ (by simp) r h1 hm)
theorem zO{t:TypeId}{b:Nat}{hi:Option A}{aD:Nat}(hlen:m.length=m2.length):LK m m2 (nN tt t b hi aD m) (nN tt t b hi aD m2):=by
 intro r h hm;unfold nN at h ⊢;split at h
 ·split at h
  ·rename_i hk hb;obtain⟨n,h1,h2⟩:=Lf h;obtain⟨hX,h3,h4⟩:=dA h1;have e:m2.getD b .dead=_:=(hm b (by rw[<-hX.2.2];simp)).symm.trans hb;have e2:m2.getD aD .dead=.dead:=by rw[<-hm aD (by rw[<-hX.2.2];simp)];exact h3
   simp only[hk,e];exact h2 _ (kh e2 (by rw[<-hlen];exact h4) hX)
  ·exact h.elim
 ·exact h.elim
/-- What an operation comes to, in another state that agrees on what it looks at. -/
theorem Out.local{aD:Nat}{r:Oc}(h:Out P G tt o aD s m r)(he:∀x∈o.op.operands,ev s x=ev s2 x)(hm:Agree m m2 r.rd)(hlen:m.length=m2.length):Out P G tt o aD s2 m2 r:=by
 unfold Out tD at h ⊢;split at h
 ·rename_i t x lo hi ho;have gY:=he;rw[ho] at gY;simp only[Op.operands] at gY;have e0:=gY x (by simp)
  have e1:qt s lo=qt s2 lo:=by
   cases lo with
   | none=>rfl
   | some y=>simp only[qt];rw[gY y (by simp)]
  have e2:qt s hi=qt s2 hi:=by
   cases hi with
   | none=>rfl
   | some y=>simp only[qt];rw[gY y (by simp)]
  rw[<-e0,<-e1,<-e2];unfold XD at h ⊢;split at h
  ·exact zO hlen r h hm
  ·exact dB he r h hm
 ·rename_i t x k ok ho;have he:=he;rw[ho] at he;simp only[Op.operands] at he;rw[<-he x (by simp),<-he k (by simp)];exact B4 r h hm
 ·rename_i t x k v ho;have he:=he;rw[ho] at he;simp only[Op.operands] at he;rw[<-he x (by simp),<-he k (by simp),<-he v (by simp)];exact vS r h hm
 ·rename_i t x k v ho;have he:=he;rw[ho] at he;simp only[Op.operands] at he;rw[<-he x (by simp),<-he k (by simp),<-he v (by simp)];exact vS r h hm
 ·exact zN hlen r h hm
 ·unfold zJ at h ⊢;split at h
  ·exact LK.BZ hlen _ _ _ (by simp) r h hm
  ·exact h.elim
 ·rename_i t x ho;have he:=he;rw[ho] at he;simp only[Op.operands] at he;rw[<-he x (by simp)];unfold PX at h ⊢;split at h
  ·exact LK.BZ hlen _ _ _ (by simp) r h hm
  ·exact h.elim
 ·rename_i t len ps ho;have he:=he;rw[ho] at he;simp only[Op.operands] at he;have Xy:(ps.toList.map fun p=>(p.1,ev s p.2))=ps.toList.map fun p=>(p.1,ev s2 p.2):=List.map_congr_left fun p hp=>by rw[he p.2 (by simp;exact⟨p.1,by simpa using hp⟩)]
  rw[<-Xy];unfold qI at h ⊢;split at h
  ·split at h
   ·obtain⟨cs,h1,h2⟩:=zK _ _ h;refine h2 _ ?_;split at h1
    ·split at h1
     ·simp only[aX] at h1 ⊢;exact LK.BZ hlen _ _ _ (by simp) r h1 hm
     ·simp only[aX] at h1 ⊢;exact h1
    ·exact h1.elim
   ·exact h.elim
  ·exact h.elim
 ·rename_i t l k ho;have he:=he;rw[ho] at he;simp only[Op.operands] at he;rw[<-he l (by simp),<-he k (by simp)];unfold GH at h ⊢;split at h
  ·split at h
   ·simp only[aX,cI] at h ⊢;exact⟨h.1,LK.BZ hlen _ _ _ (by simp) r h.2 hm⟩
   ·exact h.elim
  ·exact h.elim
 ·rename_i args ts ho;have he:=he;rw[ho] at he;simp only[Op.operands,Call.operands] at he;split at h
  ·rename_i x y t t' hx ht;have hX:∀z∈args.toList,ev s z=ev s2 z:=fun z hz=>he z (by simp at hz;simp[hz]);rw[<-hX x (by rw[hx];simp),<-hX y (by rw[hx];simp)];split at h
   ·exact EN hlen r h hm
   ·exact h.elim
  ·exact h.elim
 ·rename_i f args ts ho;have gY:=he;rw[ho] at gY;simp only[Op.operands,Call.operands] at gY;rcases h with h|h
  ·exact .inl (dB he r h hm)
  ·right;rw[<-gY f (by simp),<-show args.toList.map (ev s)=args.toList.map (ev s2) from List.map_congr_left fun x hx=>gY x (by simp at hx;simp[hx])];exact zM hlen r h hm
 ·rename_i args ts ho;have gY:=he;rw[ho] at gY;simp only[Op.operands,Call.operands] at gY;split at h
  ·rename_i x t hx ht
   have hX : ev s x = ev s2 x := gY x (by simp; have : x ∈ args.toList := by rw [hx]; simp
                                          simpa using this)
   rw[<-hX];unfold Lb at h ⊢;split at h
   ·exact h
   ·exact dB he r h hm
  ·exact dB he r h hm
 ·rename_i t x ho;have gY:=he;rw[ho] at gY;simp only[Op.operands] at gY;rw[<-gY x (by simp)];refine B0 he ?_ hlen r h hm;intro b i off e rd hr;rw[ho] at hr;simp only[vO,Option.some.injEq] at hr;subst hr;rw[e];simp[GG]
 ·rename_i t x i ho;have gY:=he;rw[ho] at gY;simp only[Op.operands] at gY;rw[<-gY x (by simp),<-gY i (by simp)];refine EO he ?_ r h hm;intro b e rd hr;rw[ho] at hr;simp only[vO,Option.some.injEq] at hr;subst hr;rw[e];simp[GG]
 ·rename_i t x y ho;have gY:=he;rw[ho] at gY;simp only[Op.operands] at gY;rw[<-gY x (by simp),<-gY y (by simp)];exact zL r h hm
 ·exact dB he r h hm

/-- A new block, at a place that was kept for it. -/
theorem aJ.B5(hs:aJ c s m a w ids)(b:Nat)(hb:m[b]?=some .dead)(x:ar)(ob:Obj)(kk n sz:Nat)
  (hx:∀ab bL w',(∀b,av c ids w b->bL b)->(∀b,av c ids w b->w'.heap[b]?=w.heap[b]?)->(∀(b:Nat) p,ids[b]?=some p->p≠.dead->ab[b]?=some p) ->
   w'.heap[w.heap.size]?=(w.alloc ob).heap[w.heap.size]?->bq ab bL w' x (.lv (mkId w.heap.size kk n sz))) :
  aJ c s (m.set b x) a (w.alloc ob) (ids.set b (.lv (mkId w.heap.size kk n sz))):=by
 have gk:b<m.length:=by
  rcases Nat.lt_or_ge b m.length with h'|h'
  ·exact h'
  ·rw[List.getElem?_eq_none h'] at hb;cases hb
 have fg:b<ids.length:=by rw[hs.aU];exact gk
 have Gx:m[b]=.dead:=by rw[List.getElem?_eq_getElem gk] at hb;exact Option.some.inj hb
 have eG:ids[b]=.dead:=by have:=hs.bP b gk fg;rw[Gx] at this;exact this
 have T3:=kM w ob
 have cj:(w.alloc ob).heap.size=w.heap.size+1:=by
  show(w.heap.push _).size=_;simp
 have k9:∀p,eU.lv p∈ids.set b (.lv (mkId w.heap.size kk n sz))->eU.lv p∈ids\/p=(mkId w.heap.size kk n sz):=by
  intro p hp;rcases List.mem_or_eq_of_mem_set hp with h|h
  ·exact .inl h
  ·cases h;exact .inr rfl
 have hi:∀b',av c ids w b'->av c (ids.set b (.lv (mkId w.heap.size kk n sz))) (w.alloc ob) b':=by
  intro b' h;have aH:=cU hs h;rcases h with h|⟨h1,h2,h3⟩
  ·exact .inl h
  ·refine .inr ⟨h1,by omega,fun p hp=>?_⟩;rcases k9 p hp with h|rfl
   ·exact h3 p h
   ·intro hx;have:=cQ hx;omega
 have hh:∀b',av c ids w b'->(w.alloc ob).heap[b']?=w.heap[b']?:=fun b' h=>T3.block b' (cU hs h)
 have hd:∀(b':Nat) p,ids[b']?=some p->p≠.dead->(ids.set b (.lv (mkId w.heap.size kk n sz)))[b']?=some p:=by
  intro b' p h hp;rw[List.getElem?_set];split
  ·rename_i e;subst e;rw[List.getElem?_eq_getElem fg,eG] at h;exact absurd (Option.some.inj h).symm hp
  ·exact h
 refine⟨hs.defers,hs.len,fun i h h'=>(hs.cc i h h').mono hi hh hd,by simp[hs.aU],?_,?_,?_,hs.frame.trans (T3.mono hs.frame.size),hs.fh,fun eD h=>?_⟩
 ·intro i h h';simp only[List.length_set] at h h';rw[List.getElem_set,List.getElem_set];split
  ·exact hx _ _ _ hi hh hd rfl
  ·refine(hs.bP i h h').mono hi hh hd ?_;intro q hq k hk;exact T3.block _ (hs.au q (by rw[<-hq];exact List.getElem_mem _) k hk).2
 ·intro i j p q x h1 h2 h3 Gf;rw[List.getElem?_set] at h1 h2;split at h1
  ·rename_i e1;split at h2
   ·rename_i e2;omega
   ·cases h1;have:=(hs.au q (List.mem_of_getElem? h2) x Gf).2;have:=cQ h3;omega
  ·split at h2
   ·cases h2;have:=(hs.au p (List.mem_of_getElem? h1) x h3).2;have:=cQ Gf;omega
   ·exact hs.al i j p q x h1 h2 h3 Gf
 ·intro p hp x hx;rcases k9 p hp with h|rfl
  ·have:=hs.au p h x hx;exact⟨this.1,by omega⟩
  ·rw[cQ hx];exact⟨.inl hs.frame.size,by simp[cj]⟩
 ·rcases List.mem_or_eq_of_mem_set h with h|h
  ·exact hs.cV eD h
  ·cases h
theorem aJ.P3(hs:aJ c s m a w ids)(b:Nat)(hb:m[b]?=some .dead)(x:ar)(vs:Array Value)(ty:TypeId)(n sz:Nat)
  (hx:∀ab bL w',(∀b,av c ids w b->bL b)->(∀b,av c ids w b->w'.heap[b]?=w.heap[b]?)->(∀(b:Nat) p,ids[b]?=some p->p≠.dead->ab[b]?=some p) ->
   w'.heap[w.heap.size]?=some (.cells vs ty (0,0))->bq ab bL w' x (.lv (mkId w.heap.size vs.size n sz))) :
  aJ c s (m.set b x) a (w.alloc (.cells vs ty)) (ids.set b (.lv (mkId w.heap.size vs.size n sz))) :=
 hs.B5 b hb x (.cells vs ty) vs.size n sz fun ab bL w' h1 h2 h3 h4=>hx ab bL w' h1 h2 h3 (h4.trans (by
  show(w.heap.push _)[w.heap.size]?=_;simp))

def GK:Op->Bool
 | .alloc _=>true
 | .box _ _=>true
 | .buildSlice _ _ _=>true
 | .makeSlice _ _ _=>true
 | .call { callee:=.builtin .append,.. }=>true
 | .makeMap _ none=>true
 | _=>false
theorem B6(m:List ar):∀(xs:List ar) (k:Nat),iJ m (PY k xs)=setAt m k xs
 | [],_=>rfl
 | x::xs,k=>by rw[PY,iJ,B6 m xs (k+1)];rfl

/-- A new block at a kept place. -/
theorem qJ(hs:aJ c s m a w ids){aD:Nat}(eG:m[aD]?=some .dead)(x:ar)(vs:Array Value)(ty:TypeId)(n sz:Nat){r:A}{v:Value}
  (cz:(execOp a.eval o).run P w=.ok (.value v) (w.alloc (.cells vs ty)))
  (hx:∀ab bL w',(∀b,av c ids w b->bL b)->(∀b,av c ids w b->w'.heap[b]?=w.heap[b]?)->(∀(b:Nat) p,ids[b]?=some p->p≠.dead->ab[b]?=some p) ->
   w'.heap[w.heap.size]?=some (.cells vs ty (0,0))->bq ab bL w' x (.lv (mkId w.heap.size vs.size n sz)))
  (hr:∀ab bL w',ab[aD]?=some (.lv (mkId w.heap.size vs.size n sz))->Rel ab bL w' r v)
  (hn:∀a' w' ab,aJ c (bA s o.dst r) (m.set aD x) a' w' ab->next a' w'):o.wp P a w next Q:=by
 have bY:=hs.P3 aD eG x vs ty n sz hx;refine bj cz (hn _ _ _ (bY.bA o.dst (hr _ _ _ ?_)));have hl:=(List.getElem?_eq_some_iff.1 eG).1;have:aD<ids.length:=by rw[hs.aU];exact hl
 rw[List.getElem?_set_self this]

theorem EP(aN:bM P tt)(hs:aJ c s m a w ids){t:TypeId}{X Y:Operand}(ho:o.op=.call { callee:=.builtin .append,args:=#[X,Y],argTypes:=#[t,t] }){aD:Nat}{r:Oc}
  (h:EI tt t (ev s X) (ev s Y) aD m fun v u rd=>v=r.v/\u=r.u/\rd=r.rd)
  (hn:∀a' w' ab,aJ c (bA s o.dst r.v) (iJ m r.u) a' w' ab->next a' w'):o.wp P a w next Q:=by
 have hx:=hs.ev X;have hy:=hs.ev Y
 have e:(execOp a.eval o)=(do pure (.value (<-Builtin.append_ #[t,t] o.type #[a.eval X,a.eval Y]))):=by
  obtain⟨dst,op,ty,pos,after,guard⟩:=o;simp only at ho;subst ho;simp[execOp,resolve,invoke,builtin]
 unfold EI at h;split at h
 ·exact h.elim
 ·rename_i ti j7;obtain⟨i0,d,z0,_,hd,_,_,_,_,_,_,_,_,_,kA,_⟩:=aN.facts j7;split at h
  ·rename_i n2 jK hk hv;obtain⟨ie,ze,gS,jJ,cj,D6,hz,rP,hne⟩:=kA hk;subst gS;obtain⟨news,Pw,Tp⟩:=vz hs hv hy
   have Px:(a.eval Y=.slice none 0 0/\n2=0/\news=[])\/∃ad cp,a.eval Y=.slice (some ad) n2 cp/\news.length=n2*ie.size/\(∀j u,news[j]?=some u->w.cell? (ad.add j)=some u):=by
    rcases Tp with h|⟨ad,cp,h1,h2⟩
    ·exact .inl h
    ·exact .inr ⟨ad,cp,h1,by rw[cj];exact Pw.1,h2⟩
   have Iu:ze.cells.size=ie.size:=by rw[rP,cj]
   split at h
   ·rename_i b Po;rw[Po] at hx;split at h
    ·rename_i ty sz n row hb;split at h
     ·rename_i oI mr;have oI:=Nat.eq_of_beq_eq_true oI;have mr:=Nat.eq_of_beq_eq_true mr;subst oI;subst mr;simp only[aX] at h;obtain⟨⟨Eb,uz⟩,h⟩:=h;obtain⟨⟨r1,r2,_⟩,gD,B'⟩:=dA h;have eG:=iX gD B';obtain⟨aH,hm⟩:=j8 hb;have fg:b<ids.length:=by rw[hs.aU];exact aH
      have J6:aD<m.length:=(List.getElem?_eq_some_iff.1 eG).1;have mE:m[b]?≠some .dead:=by rw[List.getElem?_eq_getElem aH,hm];simp
      have BI:aD≠b:=fun e=>by subst e;exact mE eG
      have hB:=hs.bP b aH fg;rw[hm] at hB;have XH:iJ m [(aD,ar.row ti.aW ti.bN (n+n2) (aO n row jK)),(b,.gone)]=(m.set b .gone).set aD (.row ti.aW ti.bN (n+n2) (aO n row jK)):=rfl
      have Ps:∃xs,eE (av c ids w) w n ti.bN row xs/\((a.eval X=.slice none 0 0/\n=0/\xs=[])\/∃g cap cur,a.eval X=.slice (some ⟨g,0,none⟩) n cap/\w.heap[g]?=some (.cells cur ti.aW (0,0))/\n<=cap/\cap<=maxLen/\cur.size=cap*ie.size/\cur.toList.take (n*ie.size)=xs) /\
        ((a.eval X).ownBlock=none\/∃p,ids[b]?=some (.lv p)/\(a.eval X).ownBlock=some p.aq):=by
       rcases hs.gC hx (by rw[hb];simp) with⟨h1,h2⟩|⟨p,cap,h1,h2,h3,h4⟩
       ·have:ids[b]=.bg:=by rw[List.getElem?_eq_getElem fg] at h1;exact Option.some.inj h1
        rw[this] at hB;have hB:n=0:=hB;subst hB;exact⟨[],eE.nil _ _ _ _,.inl ⟨h2,rfl,rfl⟩,.inl (by rw[h2];rfl)⟩
       ·have:ids[b]=.lv p:=by rw[List.getElem?_eq_getElem fg] at h1;exact Option.some.inj h1
        rw[this] at hB;obtain⟨cur,e1,e2,g1,g2,g3,hR⟩:=hB.Gl;subst e2;exact⟨_,hR,.inr ⟨p.aq,cap,cur,h4,g1,h2.1,h2.2,by rw[g2,<-h3,e1,cj],by rw[cj]⟩,.inr ⟨p,h1,by rw[h4];rfl⟩⟩
      obtain⟨xs,hR1,Tx,bm⟩:=Ps;obtain⟨v',w',cz,o1,o2,o3,o4,o5,Py,o6⟩:=mG (P:=P) (w:=w) t o.type ti.aW ie ze hd jJ hz Iu (a.eval X) n xs Tx (a.eval Y) n2 news Px Pw.2.1 Eb (by rw[D6];exact uz);have hRR:=hR1.cat Pw
      have hblk:∀k,k<w.heap.size->(∀p,ids[b]?=some (.lv p)->¬p.has k)->w'.heap[k]?=w.heap[k]?:=by
       intro k hk hp;refine o5 k hk (fun e=>?_);rcases bm with h|⟨p,h1,h2⟩
       ·rw[h] at e;cases e
       ·rw[h2] at e;exact hp p h1 (.inl (Option.some.inj e).symm)
      rcases o6 with⟨rfl,xq⟩|⟨g,cap,cur,rfl,q1,q2,q3,q4,q5,q6,q7⟩
      ·have bY:=hs.zm (w':=w') b aD aH mE eG .bg (.row ti.aW ti.bN (n+n2) (aO n row jK)) o1 o2 o3 o4 hblk (fun _ h=>by cases h) (fun p' h=>by cases h) (fun _=>xq) Py
       refine bj (v:=.slice none 0 0) (w':=w') (by rw[e];simp[cz]) (hn _ _ _ (by
        rw[<-r1,<-r2,XH];refine bY.bA o.dst (.gQ aD ?_);rw[List.getElem?_set_self (by simp;rw[hs.aU];exact J6)]))
      ·rw[cj] at q4 q5
       have bY:=hs.zm (w':=w') b aD aH mE eG (.lv (mkId g cur.size (n+n2) ti.bN)) (.row ti.aW ti.bN (n+n2) (aO n row jK)) o1 o2 o3 o4 hblk (fun _ h=>by cases h)
        (fun p' h x hx=>by
         cases h;have:=cQ hx;subst this;refine⟨q6,?_⟩;rcases q7 with h|h
         ·exact .inl h
         ·rcases bm with h'|⟨p,h1,h2⟩
          ·rw[h'] at h;cases h
          ·rw[h2] at h;exact .inr ⟨p,h1,.inl (Option.some.inj h).symm⟩)
        (fun hm=>bq.oJ q1 q4 q2 q5 (hRR.mono hm)) Py
       refine bj (v:=.slice (some ⟨g,0,none⟩) (n+n2) cap) (w':=w') (by rw[e];simp[cz]) (hn _ _ _ (by
        rw[<-r1,<-r2,XH];refine bY.bA o.dst (.own aD cap (mkId g cur.size (n+n2) ti.bN) ?_ ⟨q2,q3⟩ q4.symm);rw[List.getElem?_set_self (by simp;rw[hs.aU];exact J6)]))
     ·exact h.elim
    ·exact h.elim
   ·exact h.elim
  ·exact h.elim

theorem Ca(aN:bM P tt)(hs:aJ c s m a w ids){t:TypeId}{X:Operand}(ho:o.op=.load t X){b i off:Nat}(hX:ev s X=.oref b i off){ty aW:TypeId}{sz n:Nat}{hole:Option Nat}{len:Nat->Nat}{row:Nat->Nat->List A}
  (hb:m.getD b .dead=.nest ty aW sz n hole len row) {aD:Nat} {r:Oc} (h:yf tt t b i off ty aW sz n hole len row aD m fun v u rd=>v=r.v/\u=r.u/\rd=r.rd)
  (hn:∀a' w' ab,aJ c (bA s o.dst r.v) (iJ m r.u) a' w' ab->next a' w'):o.wp P a w next Q:=by
 unfold yf at h;split at h
 ·exact h.elim
 ·rename_i ti j7;split at h
  ·rename_i hk xv gY;obtain⟨pL,h⟩:=h;obtain⟨⟨r1,r2,_⟩,gD,B'⟩:=dA h;have eG:=iX gD B';obtain⟨i0,d,z,hi,hd,_,_,_,_,_,J1,_,_,nu,kA,_⟩:=aN.facts j7;obtain⟨ie,ze,Ek,jJ,pI,_⟩:=kA hk;subst Ek;obtain⟨p,vs,ab,v,q1,q2,q3,q4,q5,q6⟩:=hs.TL eG hb pL;have hx:=hs.ev X;rw[hX] at hx;obtain⟨p',g1,g2⟩:=hs.my hx (by rw[hb];simp);rw[q1] at g1;cases g1
   have hc:w.cell? ⟨p.aq,i*p.sz+0,none⟩=some v:=by
    rw[q4,cell_of_row w p.aq _ vs ty (0,0) q2];simpa using q3
   have cz:=jx (P:=P) (w:=w) hd (by rfl) p.aq (i*p.sz+0) v hc;refine bj (v:=v) (w':=w) ?_ (hn _ _ ab (by rw[<-r1,<-r2];exact q5.bA o.dst q6))
   have e1:execOp a.eval o=(do let z <-loadVar t ⟨p.aq,i*p.sz+0,none⟩;pure (.value z)):=by
    unfold execOp;rw[ho];simp only[g2];rfl
   rw[e1];simp at cz;simp[cz]
  ·exact h.elim

theorem ES(aN:bM P tt)(hs:aJ c s m a w ids){t:TypeId}{X Y:Operand}(ho:o.op=.store t X Y){b i off:Nat}(hX:ev s X=.oref b i off){ty aW:TypeId}{sz n:Nat}{hole:Option Nat}{len:Nat->Nat}{row:Nat->Nat->List A}
  (hb:m.getD b .dead=.nest ty aW sz n hole len row) {r:Oc} (h:IL tt t b i off (ev s Y) ty aW sz n hole len row m fun v u rd=>v=r.v/\u=r.u/\rd=r.rd)
  (hn:∀a' w' ab,aJ c (bA s o.dst r.v) (iJ m r.u) a' w' ab->next a' w'):o.wp P a w next Q:=by
 unfold IL at h;split at h
 ·rename_i b' ti j hY j7;split at h
  ·rename_i xu ue n' dZ uf fN su;split at h
   ·rename_i xv gY;have uf:ti.size=1:=Nat.eq_of_beq_eq_true uf;have xv:=Nat.eq_of_beq_eq_true xv;have gY:=Nat.eq_of_beq_eq_true gY;subst xv;subst gY;obtain⟨⟨lB,pL⟩,r1,r2,_⟩:=h;subst lB;have hne:b≠b':=fun e=>by subst e;rw[Nat.beq_refl] at su;cases su
    have hx:=hs.ev X;have hy:=hs.ev Y;rw[hX] at hx;rw[hY] at hy;obtain⟨i0,d,z,hi,hd,_,TB,_⟩:=aN.facts j7;obtain⟨p,vs,ab,q1,q2,q3,q4,q5⟩:=hs.KP hb fN hne pL hy;obtain⟨p',g1,g2⟩:=hs.my hx (by rw[hb];simp);rw[q1] at g1;cases g1;obtain⟨o1,o2⟩:=qq (by rfl) hy;have rY:=ir (P:=P) (w:=w) hi p.aq (i*p.sz+0) ty vs (a.eval Y) [a.eval Y] o2 (by rw[TB,uf];rfl) (by intro u hu;rw[List.mem_singleton.1 hu];exact o1) q2 (by rw[q4];simp;omega);rw[q4] at rY;simp only[Nat.mul_one,Nat.add_zero] at rY;rw[BE vs i _ q3] at rY;refine iL (w':=w.setRow p.aq (vs.setIfInBounds i (a.eval Y))) ?_ (hn _ _ ab (by rw[<-r1,<-r2];exact q5.lI o.dst _))
    have e1:execOp a.eval o=(do storeVar t ⟨p.aq,i*p.sz+0,none⟩ (a.eval Y);pure .skip):=by
     unfold execOp;rw[ho];simp only[g2];rfl
    rw[e1,q4];simp[rY]
   ·exact h.elim
  ·exact h.elim
 ·exact h.elim

theorem dC(aN:bM P tt)(hG:G.ok c)(hs:aJ c s m a w ids){r:Oc}(h:eN P G tt o s m fun v u rd=>v=r.v/\u=r.u/\rd=r.rd)
  (hn:∀a' w' ab,aJ c (bA s o.dst r.v) (iJ m r.u) a' w' ab->next a' w'):o.wp P a w next Q:=by
 unfold eN at h;split at h
 ·rename_i T0 hq hr;refine pK (K:=fun v m'=>(v=r.v/\[]=r.u/\T0=r.rd)/\m'=m) aN hG hs ?_ ?_
  ·rw[TY hq];simpa using h
  ·rintro v m' a' w' ab ⟨⟨rfl,e2,_⟩,rfl⟩ bY;refine hn a' w' ab ?_;rw[<-e2];exact bY
 ·exact h.elim

theorem zP(aN:bM P tt)(hs:aJ c s m a w ids){t:TypeId}{X:Operand}{hi:Option Operand}{b:Nat}(ho:o.op=.slice t X none hi none)(hX:ev s X=.own b){aD:Nat}{r:Oc}
  (h:nN tt t b (qt s hi) aD m fun v u rd=>v=r.v/\u=r.u/\rd=r.rd)
  (hn:∀a' w' ab,aJ c (bA s o.dst r.v) (iJ m r.u) a' w' ab->next a' w'):o.wp P a w next Q:=by
 have hx:=hs.ev X;rw[hX] at hx;have e:execOp a.eval o=(do let z <-Instr.sliceAt t (a.eval X) ((none:Option Operand).map a.eval) (hi.map a.eval) none;pure (.value z)):=by unfold execOp;rw[ho];rfl
 unfold nN at h;split at h
 ·rename_i ti j7;obtain⟨i0,d,z0,_,hd,_,_,_,_,_,_,_,_,_,kA,_⟩:=aN.facts j7;split at h
  ·rename_i ty sz n row hk hb;obtain⟨ie,ze,gS,jJ,cj,D6,hz,rP,hne⟩:=kA hk;subst gS
   have xR:P.underlying t=some (.slice (P.elem t)):=by
    have:P.elem t=ti.aW:=by simp[Program.elem,hd]
    rw[this];exact hd
   have Ip:P.elem t=ti.aW:=by simp[Program.elem,hd]
   obtain⟨aH,hm⟩:=j8 hb;have fg:b<ids.length:=by rw[hs.aU];exact aH
   have mE:m[b]?≠some .dead:=by rw[List.getElem?_eq_getElem aH,hm];simp
   have hB:=hs.bP b aH fg;rw[hm] at hB;rcases hs.gC hx (by rw[hb];simp) with⟨h1,h2⟩|⟨p,cap,h1,h2,h3,h4⟩
   ·have:ids[b]=.bg:=by rw[List.getElem?_eq_getElem fg] at h1;exact Option.some.inj h1
    rw[this] at hB;have hB:n=0:=hB;subst hB;obtain⟨fN,h,b1,b2,b3⟩:=gy hs h (Nat.le_refl _)
    have h0:fN=0:=by
     cases hi with
     | none=>exact b1 rfl
     | some L=>have:=b2 rfl;omega
    subst h0;obtain⟨⟨r1,r2,_⟩,gD,B'⟩:=dA h;have eG:=iX gD B';have J6:aD<m.length:=(List.getElem?_eq_some_iff.1 eG).1;have bY:=hs.zm (w':=w) b aD aH mE eG .bg (.row ty sz 0 row) rfl rfl rfl (Nat.le_refl _) (fun _ _ _=>rfl) (fun _ h=>by cases h) (fun p' h=>by cases h) (fun _=>rfl)
    refine bj (v:=.slice none 0 0) (w':=w) ?_ (hn _ _ _ (by
     rw[<-r1,<-r2];refine bY.bA o.dst (.gQ aD ?_);rw[List.getElem?_set_self (by simp;rw[hs.aU];exact J6)]))
    rw[e,h2,Sem.run_bind,run_sliceAt_slice _ _ _ _ _ _ xR,run_slice_any _ _ _ _ _ xR];have:=dY (P:=P) (w:=w) (a:=a) (O4:=true) (len:=0) (cap:=0) (lo:=none) b1 (fun _=>rfl) b3 (fun X h=>by cases h);simp only[Option.map_none] at this;simp[this,Ip,sizeOf,typeInfo,jJ,cj,sliced]
   ·have:ids[b]=.lv p:=by rw[List.getElem?_eq_getElem fg] at h1;exact Option.some.inj h1
    rw[this] at hB;obtain⟨fN,h,b1,b2,b3⟩:=gy hs h (show n<=cap by have:=hB.2.1;omega);obtain⟨e1,e2,vs,g1,g2,g3,g4,g5⟩:=hB
    have hle:fN<=n:=by
     cases hi with
     | none=>have:=b1 rfl;omega
     | some L=>exact b2 rfl
    obtain⟨⟨r1,r2,_⟩,gD,B'⟩:=dA h;have eG:=iX gD B';have J6:aD<m.length:=(List.getElem?_eq_some_iff.1 eG).1
    have bY:=hs.zm (w':=w) b aD aH mE eG (.lv (mkId p.aq p.k fN p.sz)) (.row ty sz fN row) rfl rfl rfl (Nat.le_refl _) (fun _ _ _=>rfl) (fun _ h=>by cases h)
     (fun p' h x hx=>by cases h;rw[cQ hx];exact⟨(hs.fresh p (List.mem_of_getElem? h1)).2,.inr ⟨p,h1,.inl rfl⟩⟩)
     (fun KB=>⟨e1,rfl,vs,g1,g2,Nat.le_trans (Nat.mul_le_mul_right _ hle) g3,fun i hi=>g4 i (by omega),fun i j hi h h'=>⟨KB _ _ (g5 i j (by omega) h h').1,(g5 i j (by omega) h h').2⟩⟩)
    refine bj (v:=.slice (some ⟨p.aq,0,none⟩) fN cap) (w':=w) ?_ (hn _ _ _ (by
     rw[<-r1,<-r2];refine bY.bA o.dst (.own aD cap (mkId p.aq p.k fN p.sz) ?_ ⟨by show fN<=cap;omega,h2.2⟩ h3);rw[List.getElem?_set_self (by simp;rw[hs.aU];exact J6)]))
    rw[e,h4,Sem.run_bind,run_sliceAt_slice _ _ _ _ _ _ xR,run_slice_any _ _ _ _ _ xR,e2];have:=dY (P:=P) (w:=w) (a:=a) (O4:=true) (len:=n) (cap:=cap) (lo:=none) b1 (fun _=>rfl) b3 (fun X h=>by cases h);simp only[Option.map_none] at this;have e3:(⟨p.aq,0,none⟩:Addr).add 0=⟨p.aq,0,none⟩:=rfl;simp[this,Ip,sizeOf,typeInfo,jJ,cj,sliced,e3]
  ·exact h.elim
 ·exact h.elim
theorem Cb(aN:bM P tt)(hs:aJ c s m a w ids){t:TypeId}{X Y:Operand}{ok:Bool}(ho:o.op=.lookup t X Y ok){r:Oc}(h:yh tt t (ev s X) (ev s Y) ok m fun v u rd=>v=r.v/\u=r.u/\rd=r.rd)
  (hn:∀a' w' ab,aJ c (bA s o.dst r.v) (iJ m r.u) a' w' ab->next a' w'):o.wp P a w next Q:=by
 unfold yh at h;obtain⟨v,⟨rfl,e2,_⟩,h1⟩:=(vQ (tt:=tt) (m:=m) t _ _ ok _).1 h;refine tz (K:=fun v' m'=>v'=r.v/\m'=m) aN hs ho ?_ ?_
 ·simpa using h1
 ·rintro v' m' a' w' ab ⟨rfl,rfl⟩ bY;refine hn a' w' ab ?_;rw[<-e2];exact bY
theorem vT(aN:bM P tt)(hs:aJ c s m a w ids){t:TypeId}{X Y Z:Operand}(ho:o.op=.mapUpdate t X Y Z\/o.op=.insert t X Y Z){r:Oc}(h:xA tt t (ev s X) (ev s Y) (ev s Z) m fun v u rd=>v=r.v/\u=r.u/\rd=r.rd)
  (hn:∀a' w' ab,aJ c (bA s o.dst r.v) (iJ m r.u) a' w' ab->next a' w'):o.wp P a w next Q:=by
 unfold xA at h;obtain⟨agg,sh,z,h1,h2⟩:=iA h;refine pT (K:=fun v' m'=>v'=r.v/\m'=iJ m r.u) aN hs ho ?_ ?_
 ·unfold KU;refine h2 _ ?_;split at h1
  ·rename_i k b hk hx bm;split at h1
   ·rename_i hb;split at h1
    ·rename_i g1 g2;rw[fA] at h1;simp only[hk,hx,bm,hb,g1,g2,fA,fM];exact⟨h1.1,by rw[<-h1.2.1];rfl⟩
    ·exact h1.elim
   ·exact h1.elim
  ·exact h1.elim
 ·rintro v' m' a' w' ab ⟨rfl,rfl⟩ bY;exact hn a' w' ab bY
theorem zQ(aN:bM P tt)(hs:aJ c s m a w ids){t:TypeId}(ho:o.op=.makeMap t none){aD:Nat}{r:Oc}(h:mP tt t aD m fun v u rd=>v=r.v/\u=r.u/\rd=r.rd)
  (hn:∀a' w' ab,aJ c (bA s o.dst r.v) (iJ m r.u) a' w' ab->next a' w'):o.wp P a w next Q:=by
 have e:execOp a.eval o=(do pure (.value (<-Instr.makeMap t none))):=by
  obtain⟨dst,op,ty,pos,after,guard⟩:=o;simp only at ho;subst ho;rfl
 unfold mP at h;obtain⟨kt,et,agg,sh,z,zv,h1,h2,_,_,h⟩:=lO aN h (av c ids w) w;obtain⟨⟨r1,r2,_⟩,gD,B'⟩:=dA h;have eG:=iX gD B'
 have bY:=hs.B5 aD eG (.fK agg sh (fun _=>false) (fun _=>.aj)) (.map #[] 0) 0 0 0 (fun ab bL w' _ _ _ h4=>by
  have h4:w'.heap[w.heap.size]?=some (.map #[] 0):=h4.trans (by
   show(w.heap.push _)[w.heap.size]?=_;simp)
  exact⟨#[],0,fun _=>[],h4,(fun i h=>by simp at h),(fun i j h=>by simp at h),(fun k _ h=>by simp at h),(fun i h=>by simp at h),(fun i h=>by simp at h),(fun i j h=>by simp at h)⟩)
 have hl:=(List.getElem?_eq_some_iff.1 eG).1;have hli:aD<ids.length:=by rw[hs.aU];exact hl
 refine bj (v:=.map (some w.heap.size)) (w':=w.alloc (.map #[] 0)) (by rw[e];simp only[Sem.run_bind,RowKit.run_makeMap,Result.andThen_ok];rfl) (hn _ _ (ids.set aD (.lv (mkId w.heap.size 0 0 0))) ?_);rw[<-r1,<-r2];exact bY.bA o.dst (.omap aD (mkId w.heap.size 0 0 0) (by rw[List.getElem?_set_self hli]))
theorem IS(aN:bM P tt)(hG:G.ok c)(hs:aJ c s m a w ids){aD:Nat}{r:Oc}(h:Out P G tt o aD s m r)
  (hn:∀a' w' ab,aJ c (bA s o.dst r.v) (iJ m r.u) a' w' ab->next a' w'):o.wp P a w next Q:=by
 unfold Out tD at h;split at h
 ·rename_i t x lo hi ho;unfold XD at h;split at h
  ·rename_i b hX ud;have ud:lo=none:=by cases lo with|none=>rfl|some=>simp[qt] at ud
   subst ud;exact zP aN hs ho hX h hn
  ·exact dC aN hG hs h hn
 ·rename_i ho;exact Cb aN hs ho h hn
 ·rename_i ho;exact vT aN hs (.inl ho) h hn
 ·rename_i ho;exact vT aN hs (.inr ho) h hn
 ·rename_i ho;exact zQ aN hs ho h hn
 ·rename_i t ho;unfold zJ at h;split at h
  ·rename_i ti ht;obtain⟨⟨e1,e2,_⟩,gD,B'⟩:=dA h;obtain⟨i,d,z,hi,hd,hz,cj,gR,rP,hzero,_⟩:=aN.facts ht;refine qJ hs (iX gD B') (.box t ti.zero) z.cells t 0 0 (r:=r.v) (v:=.pointer (some ⟨w.heap.size,0,none⟩)) ?_ ?_ ?_ (fun a' w' ab bY=>hn a' w' ab (by rw[<-e2];exact bY))
   ·unfold execOp;rw[ho];simp[Instr.alloc,zeroValue,typeInfo,hi,hz,newVar,newRow]
   ·intro ab bL w' g1 g2 g3 g4;refine⟨z.cells,g4,rfl,by simp[hzero],?_⟩;intro j hj cH;refine⟨?_,gR _ (by simp)⟩;simp only[hzero,List.getElem_map,Array.getElem_toList];exact .aL (fp _ _ _)
   ·intro ab bL w' g;rw[<-e1];exact .ref aD 0 _ g
  ·exact h.elim
 ·rename_i t x ho;unfold PX at h;split at h
  ·rename_i cs hc;obtain⟨⟨e1,e2,_⟩,gD,B'⟩:=dA h;obtain⟨vs,h1,h2,h3,h4⟩:=oG hc (hs.ev x);refine qJ hs (iX gD B') (.box t cs) vs.toArray t 0 0 (r:=r.v) (v:=.pointer (some ⟨w.heap.size,0,none⟩)) ?_ ?_ ?_ (fun a' w' ab bY=>hn a' w' ab (by rw[<-e2];exact bY))
   ·unfold execOp;rw[ho];simp[Instr.box,newVar,newRow,h1]
   ·intro ab bL w' g1 g2 g3 g4;refine⟨vs.toArray,g4,rfl,by simp[h2],?_⟩;intro j hj cH;simp at cH;refine⟨(by simpa using(h4 j hj cH).mono g1 g2 g3),?_⟩;simpa using h3 _ (List.getElem_mem cH)
   ·intro ab bL w' g;rw[<-e1];exact .ref aD 0 _ g
  ·exact h.elim
 ·rename_i t len ps ho;unfold qI at h;split at h
  ·rename_i ti ht;split at h
   ·rename_i te hk Bc Pz;obtain⟨dz,eD,f2,Gq⟩:=Gp (P:=P) aN hs ht hk Bc (Nat.le_of_ble_eq_true Pz) h;split at f2
    ·rename_i bm hlen;split at f2
     ·simp only[aX] at f2;obtain⟨⟨e1,e2,_⟩,gD,B'⟩:=dA f2;obtain⟨cz,xT,ZI,hB⟩:=Gq bm (Nat.eq_of_beq_eq_true hlen);refine qJ hs (iX gD B') _ eD ti.aW len ti.bN (r:=r.v) (v:=.slice (some ⟨w.heap.size,0,none⟩) len len) ?_ hB ?_ (fun a' w' ab bY=>hn a' w' ab (by rw[<-e2];exact bY))
      ·unfold execOp;rw[ho];simp only[Sem.run_bind,cz];rfl
      ·intro ab bL w' g;rw[<-e1];exact .own aD len _ g ⟨Nat.le_refl _,ZI⟩ xT.symm
     ·simp only[aX] at f2;obtain⟨e1,e2,_⟩:=f2;obtain⟨cz,xT,ZI,hB⟩:=Gq bm (Nat.eq_of_beq_eq_true hlen);have T3:=kM w (.cells eD ti.aW);have bY:=hs.same T3;have nk:(w.alloc (.cells eD ti.aW)).heap[w.heap.size]?=some (.cells eD ti.aW (0,0)):=heap_alloc_new w _
      have pk:∀b,av c ids w b->av c ids (w.alloc (.cells eD ti.aW)) b:=by
       intro b hb;rcases hb with hb|⟨h1,h2,h3⟩
       ·exact .inl hb
       ·exact .inr ⟨h1,Nat.lt_of_lt_of_le h2 T3.size,h3⟩
      have J4:=hB ids (av c ids (w.alloc (.cells eD ti.aW))) (w.alloc (.cells eD ti.aW)) pk (fun b hb=>T3.block b (cU hs hb)) (fun _ _ h _=>h) nk;refine bj (w':=w.alloc (.cells eD ti.aW)) (v:=.slice (some ⟨w.heap.size,0,none⟩) len len) (by unfold execOp;rw[ho];simp only[Sem.run_bind,cz];rfl) (hn _ _ ids ?_);rw[<-e1,<-e2];refine bY.bA o.dst (.aL ?_);obtain⟨_,_,vs2,q1,q2,q3,q4,q5⟩:=J4;have q1:(w.alloc (.cells eD ti.aW)).heap[w.heap.size]?=some (.cells vs2 ti.aW (0,0)):=q1;rw[nk] at q1;have q1:eD=vs2:=by simpa using q1
      subst q1
      have aH:∀i j,i<len->j<(il ti.bN (dz.drop (i*ti.bN))).length->i*ti.bN+j<eD.size:=by
       intro i j hi hj;rw[q4 i hi] at hj;have:=Nat.mul_le_mul_right ti.bN (show i+1<=len from hi);rw[Nat.add_mul] at this;omega
      refine .sl len ti.bN _ w.heap.size 0 len (fun i j=>eD.getD (i*ti.bN+j) undef) (.inr ⟨.inl hs.frame.size,by simp,fun p hp hx=>?_⟩) (Nat.le_refl _) q4 ?_ ?_ ?_
      ·have:=(hs.au p hp _ hx).2;omega
      ·intro i j hi hj;have cH:j<(il ti.bN (dz.drop (i*ti.bN))).length:=by rw[q4 i hi];exact hj
       rw[Nat.zero_add,cell_of_row _ _ _ _ _ (0,0) nk,Array.getElem?_eq_getElem (aH i j hi cH),Array.getD_eq_getD_getElem?,Array.getElem?_eq_getElem (aH i j hi cH)];rfl
      ·intro i j hi hj;have cH:j<(il ti.bN (dz.drop (i*ti.bN))).length:=by rw[q4 i hi];exact hj
       have:=(q5 i j hi cH (aH i j hi cH)).2;rw[Array.getD_eq_getD_getElem?,Array.getElem?_eq_getElem (aH i j hi cH)];exact this
      ·intro i j hi hj;have:=(q5 i j hi hj (aH i j hi hj)).1;rw[Array.getD_eq_getD_getElem?,Array.getElem?_eq_getElem (aH i j hi hj)];exact this
    ·exact f2.elim
   ·exact h.elim
  ·exact h.elim
 ·rename_i t L C ho;have hl:=hs.ev L;have hc:=hs.ev C;unfold GH at h;split at h
  ·rename_i ti k1 l k2 k j7 hL hC;rw[hL] at hl;rw[hC] at hc;obtain⟨i0,d,z0,_,hd,_,_,_,_,_,_,_,_,_,kA,_⟩:=aN.facts j7;split at h
   ·rename_i te hk Bc;obtain⟨ie,ze,gS,jJ,cj,D6,hz,rP,hne⟩:=kA hk;subst gS;obtain⟨i1,d1,z1,ez,_,Sk,_,gR,_,hzero,_⟩:=aN.facts Bc;have e1:i1=ie:=by rw[jJ] at ez;exact(Option.some.inj ez).symm
    subst e1;have e2:z1=ze:=by rw[hz] at Sk;exact(Option.some.inj Sk).symm
    subst e2;simp only[aX,cI] at h;obtain⟨⟨c1,c2,c3,c4⟩,h⟩:=h;obtain⟨⟨f1,f2,_⟩,gD,B'⟩:=dA h;have cz:=run_make (P:=P) w t ti.aW i1 z1 hd jJ hz k1 k2 l k c1 c2 (by rw[D6,Int.mul_comm];omega) (by omega);refine qJ hs (iX gD B') (.row ti.aW ti.bN l.toNat fun _=>te.zero) (madeCells z1.cells (k.toNat*i1.size)) ti.aW l.toNat ti.bN (r:=r.v) (v:=.slice (some ⟨w.heap.size,0,none⟩) l.toNat k.toNat) ?_ ?_ ?_ (fun a' w' ab bY=>hn a' w' ab (by rw[<-f2];exact bY))
    ·unfold execOp;rw[ho];simp only[hl.cC,hc.cC,Sem.run_bind,cz];rfl
    ·intro ab bL w' g1 g2 g3 g4;rw[cj] at g4 ⊢;refine bq.oJ (cap:=k.toNat) g4 (by simp[size_madeCells]) (by omega) rfl ?_;rw[hzero];exact pM rP (by omega) gR
    ·intro ab bL w' g;rw[<-f1];refine .own _ k.toNat _ g ⟨by show l.toNat<=k.toNat;omega,by simp only[maxLen];omega⟩ ?_;simp[size_madeCells,cj]
   ·exact h.elim
  ·exact h.elim
 ·rename_i args ts ho;split at h
  ·rename_i x y t t' hx ht;split at h
   ·rename_i he;have he:=Nat.eq_of_beq_eq_true he;subst he;have e1:args = #[x,y]:=by apply Array.ext';simpa using hx
    have e2:ts = #[t',t']:=by apply Array.ext';simpa using ht
    subst e1;subst e2;exact EP aN hs ho h hn
   ·exact h.elim
  ·exact h.elim
 ·rename_i f args ts ho;rcases h with h|h
  ·exact dC aN hG hs h hn
  ·unfold vP at h;refine tw hs hG ho h ?_;intro r' jS hk;obtain⟨⟨e1,e2,_⟩,hd⟩:=sJ _ _ hk;refine⟨m,ids,hs,?_,?_⟩
   ·intro j hj;exact iX (hd j hj).1 (hd j hj).2
   ·intro a' w' ab bY;refine hn a' w' ab ?_;rw[<-e1,<-e2,B6];exact bY
 ·rename_i args ts ho;split at h
  ·rename_i x t hx ht;have e1:args = #[x]:=by apply Array.ext';simpa using hx
   have e2:ts = #[t]:=by apply Array.ext';simpa using ht
   subst e1;subst e2;unfold Lb at h;split at h
   ·rename_i g sh has val hX;unfold GI at h;obtain⟨agg,vI,z,⟨n,h1,h2,h3,_⟩,h4⟩:=iA h;refine lk (K:=fun v' m'=>v'=r.v/\m'=m) aN hs ho ?_ ?_
    ·unfold qH;refine h4 _ ?_;rw[hX];exact fun keys k1 k2 k3=>⟨by rw[h1 keys k1 k2 k3];exact h2,rfl⟩
    ·rintro v' m' a' w' ab ⟨rfl,rfl⟩ bY;refine hn a' w' ab ?_;rw[<-h3];exact bY
   ·exact dC aN hG hs h hn
  ·exact dC aN hG hs h hn
 ·rename_i t x ho;unfold yg at h;split at h
  ·rename_i b i off hx;split at h
   ·rename_i hb;exact Ca aN hs ho hx hb h hn
   ·exact dC aN hG hs h hn
  ·exact dC aN hG hs h hn
 ·rename_i t x i ho;unfold IK at h;split at h
  ·rename_i b hx;split at h
   ·rename_i ty aW sz n hole len row hb;split at h
    ·rename_i ti kk ix j7 hY;split at h
     ·rename_i hk he;obtain⟨ZJ,e1,e2,_⟩:=h;refine c9 (K:=fun s1 v m'=>s1=s/\v=r.v/\m'=m) aN hG hs ?_ ?_
      ·unfold ni;rw[ho];simp only[hx,hb,j7,hY];rw[hk,he];exact⟨ZJ,trivial,e1,trivial⟩
      ·rintro s1 v m' a' w' ab ⟨rfl,rfl,rfl⟩ bY;refine hn a' w' ab ?_;rw[<-e2];exact bY
     ·exact h.elim
    ·exact h.elim
   ·exact dC aN hG hs h hn
  ·exact dC aN hG hs h hn
 ·rename_i t x y ho;unfold sH at h;split at h
  ·rename_i ti b off ht hx;split at h
   ·rename_i ty cs hb;refine mC (K:=fun v m'=>v=r.v/\m'=iJ m r.u) aN hs ho ?_ ?_
    ·obtain⟨vs,g1,g2,g3,g4⟩:=mB h;unfold vj;simp only[ht,hx,hb];unfold O1;have e2:Nat.ble (off+ti.size) cs.length=true:=Nat.ble_eq_true_of_le g3;simp only[g1,g2,cI,fM,Nat.beq_refl,e2];exact⟨g4.1,by rw[<-g4.2.1];rfl⟩
    ·rintro v m' a' w' ab ⟨rfl,rfl⟩ bY;exact hn a' w' ab bY
   ·exact h.elim
  ·rename_i ti b i off ht hx;split at h
   ·rename_i ty sz n row hb;split at h
    ·rename_i bm;obtain⟨aH,h⟩:=h;rw[cI] at h;refine mC (K:=fun v m'=>v=r.v/\m'=iJ m r.u) aN hs ho ?_ ?_
     ·obtain⟨vs,g1,g2,g3,g4⟩:=mB h;unfold vj;simp only[ht,hx,hb,bm];unfold O1;have e2:Nat.ble (off+ti.size) (row i).length=true:=Nat.ble_eq_true_of_le g3;simp only[g1,g2,cI,fM,Nat.beq_refl,e2];exact⟨aH,g4.1,by rw[<-g4.2.1];rfl⟩
     ·rintro v m' a' w' ab ⟨rfl,rfl⟩ bY;exact hn a' w' ab bY
    ·exact h.elim
   ·rename_i hb;exact ES aN hs ho hx hb h hn
   ·exact h.elim
  ·exact h.elim
 ·exact dC aN hG hs h hn
end
structure Rc where
 ex:Bool
 oc:Oc
 v:A
abbrev gG:=List (Oper×Rc)

def dM(S:Nat->Bool):Nat->gG->List A->List A
 | _,[],s=>s
 | i,(o,r)::l,s=>dM S (i+1) l (if S i then bA s o.dst r.v else s)
def ln(S:Nat->Bool):Nat->gG->List ar->List ar
 | _,[],m=>m
 | i,(_,r)::l,m=>ln S (i+1) l (if S i then iJ m r.oc.u else m)

theorem lP(s:List A)(d:Option Nat)(v:A)(t:Nat):(bA s d v).getD t .aj=if d=some t/\t<s.length then v else s.getD t .aj:=by
 cases d with
 | none=>simp[bA]
 | some d =>
  simp only[bA,List.getD_eq_getElem?_getD,List.getElem?_set,Option.some.injEq];by_cases h:d=t
  ·subst h;by_cases h2:d<s.length
   ·simp[h2]
   ·simp[h2]
  ·simp[h]
theorem qK(s:List A)(d:Option Nat)(v:A):(bA s d v).length=s.length:=by cases d<;>simp[bA]
theorem lQ(m:List ar):∀u:List (Nat×ar),(iJ m u).length=m.length
 | []=>rfl
 | (b,x)::u=>by rw[iJ,List.length_set,lQ m u]
theorem jU(m:List ar)(t:Nat):∀u:List (Nat×ar),(iJ m u).getD t .dead=match u.lookup t with|some x=>if t<m.length then x else m.getD t .dead|none=>m.getD t .dead
 | []=>rfl
 | (b,x)::u=>by
  rw[iJ,List.getD_eq_getElem?_getD,List.getElem?_set,lQ,List.lookup_cons];by_cases h:b=t
  ·subst h;simp only[beq_self_eq_true,if_true];by_cases h2:b<m.length
   ·simp[h2]
   ·simp[h2]
  ·have h':(t==b)=false:=by simpa using fun e=>h e.symm
   rw[if_neg h,h'];have:=jU m t u;rw[List.getD_eq_getElem?_getD] at this;exact this
theorem qL(S:Nat->Bool):∀(l:gG) (i:Nat) (s:List A),(dM S i l s).length=s.length
 | [],_,_=>rfl
 | (o,r)::l,i,s=>by rw[dM,qL];split<;>simp[qK]
theorem oN(S:Nat->Bool):∀(l:gG) (i:Nat) (m:List ar),(ln S i l m).length=m.length
 | [],_,_=>rfl
 | (o,r)::l,i,m=>by rw[ln,oN];split<;>simp[lQ]

theorem lR(S S':Nat->Bool)(t:Nat):∀(l:gG) (i:Nat) (s s':List A),s.length=s'.length->s.getD t .aj=s'.getD t .aj ->
  (∀j o r,l[j]?=some (o,r)->o.dst=some t->S (i+j)=S' (i+j))->(dM S i l s).getD t .aj=(dM S' i l s').getD t .aj
 | [],_,_,_,_,h,_=>h
 | (o,r)::l,i,s,s',hl,h,hw=>by
  rw[dM,dM];refine lR S S' t l (i+1) _ _ ?_ ?_ ?_
  ·split<;>split<;>simp[qK,hl]
  ·by_cases hd:o.dst=some t
   ·have:=hw 0 o r rfl hd;simp only[Nat.add_zero] at this;rw[this];split
    ·rw[lP,lP,hl,h]
    ·exact h
   ·have e1:∀s:List A,(bA s o.dst r.v).getD t .aj=s.getD t .aj:=by
     intro s;rw[lP,if_neg (fun hh=>hd hh.1)]
    split<;>split<;>simp only[e1,h]
  ·intro j o' r' hj hd;have:=hw (j+1) o' r' (by simpa using hj) hd
   rwa [show i+(j+1)=i+1+j by omega] at this
theorem lS(S S':Nat->Bool)(t:Nat):∀(l:gG) (i:Nat) (m m':List ar),m.length=m'.length->m.getD t .dead=m'.getD t .dead ->
  (∀j o r x,l[j]?=some (o,r)->r.oc.u.lookup t=some x->S (i+j)=S' (i+j))->(ln S i l m).getD t .dead=(ln S' i l m').getD t .dead
 | [],_,_,_,_,h,_=>h
 | (o,r)::l,i,m,m',hl,h,hw=>by
  rw[ln,ln];refine lS S S' t l (i+1) _ _ ?_ ?_ ?_
  ·split<;>split<;>simp[lQ,hl]
  ·cases hu:r.oc.u.lookup t with
   | some x =>
    have:=hw 0 o r x rfl hu;simp only[Nat.add_zero] at this;rw[this];split
    ·rw[jU,jU,hu];simp only[hl,h]
    ·exact h
   | none =>
    have e0:∀m:List ar,(iJ m r.oc.u).getD t .dead=m.getD t .dead:=fun m=>by rw[jU,hu]
    split<;>split<;>simp only[e0,h]
  ·intro j o' r' x hj hd;have:=hw (j+1) o' r' x (by simpa using hj) hd
   rwa [show i+(j+1)=i+1+j by omega] at this

theorem Cc(S:Nat->Bool)(t:Nat):∀(l:gG) (i k:Nat) (s:List A) (o:Oper) (r:Rc),t<s.length->l[k]?=some (o,r)->o.dst=some t->S (i+k)=true ->
  (∀j o' r',k<j->l[j]?=some (o',r')->o'.dst=some t->S (i+j)=false)->(dM S i l s).getD t .aj=r.v
 | [],_,_,_,_,_,_,h,_,_,_=>by simp at h
 | (o1,r1)::l,i,k,s,o,r,ht,hk,hd,hS,hl=>by
  rw[dM];cases k with
  | zero =>
   simp only[List.getElem?_cons_zero,Option.some.injEq,Prod.mk.injEq] at hk;obtain⟨rfl,rfl⟩:=hk;simp only[Nat.add_zero] at hS
   have:=lR S (fun _=>false) t l (i+1) (if S i then bA s o1.dst r1.v else s) (if S i then bA s o1.dst r1.v else s) rfl rfl (fun j o' r' hj gD=>by
    have:=hl (j+1) o' r' (by omega) (by simpa using hj) gD
    rwa [show i+(j+1)=i+1+j by omega] at this)
   rw[this]
   have cD:∀(l:gG) (i:Nat) (s:List A),dM (fun _=>false) i l s=s:=by
    intro l;induction l with
    | nil=>intro i s;rfl
    | cons p l ih=>intro i s;rw[dM];simp[ih]
   rw[cD,hS];simp only[if_true];rw[lP,if_pos ⟨hd,ht⟩]
  | succ k =>
   refine Cc S t l (i+1) k _ o r ?_ (by simpa using hk) hd ?_ ?_
   ·split<;>simp[qK,ht]
   ·rwa [show i+1+k=i+(k+1) by omega]
   ·intro j o' r' hj qB gD;have:=hl (j+1) o' r' (by omega) (by simpa using qB) gD
    rwa [show i+(j+1)=i+1+j by omega] at this
theorem Cd(S:Nat->Bool)(t:Nat):∀(l:gG) (i k:Nat) (m:List ar) (o:Oper) (r:Rc) (x:ar),t<m.length->l[k]?=some (o,r)->r.oc.u.lookup t=some x->S (i+k)=true ->
  (∀j o' r' x',k<j->l[j]?=some (o',r')->r'.oc.u.lookup t=some x'->S (i+j)=false)->(ln S i l m).getD t .dead=x
 | [],_,_,_,_,_,_,_,h,_,_,_=>by simp at h
 | (o1,r1)::l,i,k,m,o,r,x,ht,hk,hd,hS,hl=>by
  rw[ln];cases k with
  | zero =>
   simp only[List.getElem?_cons_zero,Option.some.injEq,Prod.mk.injEq] at hk;obtain⟨rfl,rfl⟩:=hk;simp only[Nat.add_zero] at hS
   have:=lS S (fun _=>false) t l (i+1) (if S i then iJ m r1.oc.u else m) (if S i then iJ m r1.oc.u else m) rfl rfl (fun j o' r' x' hj gD=>by
    have:=hl (j+1) o' r' x' (by omega) (by simpa using hj) gD
    rwa [show i+(j+1)=i+1+j by omega] at this)
   rw[this]
   have cD:∀(l:gG) (i:Nat) (m:List ar),ln (fun _=>false) i l m=m:=by
    intro l;induction l with
    | nil=>intro i m;rfl
    | cons p l ih=>intro i m;rw[ln];simp[ih]
   rw[cD,hS];simp only[if_true];rw[jU,hd];simp[ht]
  | succ k =>
   refine Cd S t l (i+1) k _ o r x ?_ (by simpa using hk) hd ?_ ?_
   ·split<;>simp[lQ,ht]
   ·rwa [show i+1+k=i+(k+1) by omega]
   ·intro j o' r' x' hj qB gD;have:=hl (j+1) o' r' x' (by omega) (by simpa using qB) gD
    rwa [show i+(j+1)=i+1+j by omega] at this

theorem Ce{s s':List A}(hl:s.length=s'.length)(h:∀t,s.getD t .aj=s'.getD t .aj):s=s':=by
 apply List.ext_getElem hl;intro i h1 h2;have:=h i;simpa[List.getD_eq_getElem?_getD,h1,h2] using this
theorem Cf{s s':List ar}(hl:s.length=s'.length)(h:∀t,s.getD t .dead=s'.getD t .dead):s=s':=by
 apply List.ext_getElem hl;intro i h1 h2;have:=h i;simpa[List.getD_eq_getElem?_getD,h1,h2] using this

/-- One more of the operations. -/
theorem P4(S S':Nat->Bool)(l:gG)(k:Nat)(s:List A)(o:Oper)(r:Rc)(hk:l[k]?=some (o,r))(hS:∀j,S' j=(S j||j==k))(hn:S k=false)
  (hc:∀j o' r',k<j->l[j]?=some (o',r')->o'.dst=o.dst->o.dst≠none->S j=false):dM S' 0 l s=bA (dM S 0 l s) o.dst r.v:=by
 apply Ce (by simp[qL,qK]);intro t;rw[lP,qL];by_cases hd:o.dst=some t
 ·by_cases ht:t<s.length
  ·rw[if_pos ⟨hd,ht⟩];refine Cc S' t l 0 k s o r ht hk hd (by simp[hS]) ?_;intro j o' r' hj qB gD;have:=hc j o' r' hj qB (by rw[gD,hd]) (by rw[hd];simp);simp[hS,this];omega
  ·rw[if_neg (fun h=>ht h.2)]
   have e1:∀(S:Nat->Bool),(dM S 0 l s).getD t .aj=.aj:=by
    intro S;rw[List.getD_eq_getElem?_getD,List.getElem?_eq_none (by rw[qL];omega)];rfl
   rw[e1,e1]
 ·rw[if_neg (fun h=>hd h.1)];refine lR S' S t l 0 s s rfl rfl ?_;intro j o' r' hj gD;simp only[Nat.zero_add,hS];have:j≠k:=by rintro rfl;rw[hk] at hj;cases hj;exact hd gD
  simp[this]
theorem P5(S S':Nat->Bool)(l:gG)(k:Nat)(m:List ar)(o:Oper)(r:Rc)(hk:l[k]?=some (o,r))(hS:∀j,S' j=(S j||j==k))(hn:S k=false)
  (hc:∀j o' r' b x x',k<j->l[j]?=some (o',r')->r.oc.u.lookup b=some x->r'.oc.u.lookup b=some x'->S j=false):ln S' 0 l m=iJ (ln S 0 l m) r.oc.u:=by
 apply Cf (by simp[oN,lQ]);intro t;rw[jU,oN];split
 ·rename_i x hu;by_cases ht:t<m.length
  ·rw[if_pos ht];refine Cd S' t l 0 k m o r x ht hk hu (by simp[hS]) ?_;intro j o' r' x' hj qB gD;have:=hc j o' r' t x x' hj qB hu gD;simp[hS,this];omega
  ·rw[if_neg ht]
   have e1:∀(S:Nat->Bool),(ln S 0 l m).getD t .dead=.dead:=by
    intro S;rw[List.getD_eq_getElem?_getD,List.getElem?_eq_none (by rw[oN];omega)];rfl
   rw[e1,e1]
 ·rename_i hu;refine lS S' S t l 0 m m rfl rfl ?_;intro j o' r' x hj gD;simp only[Nat.zero_add,hS];have:j≠k:=by rintro rfl;rw[hk] at hj;cases hj;rw[hu] at gD;cases gD
  simp[this]
def vU(acc:List Nat)(o:Oper):Nat :=
 o.after.toList.foldl (fun s e=>match Region.binds .any e with
  | true=>s ||| 2 ^ e.on ||| acc.getD e.on 0
  | false=>s) 0
def kT:List Nat->List Oper->List Nat
 | acc,[]=>acc
 | acc,o::os=>kT (acc++[vU acc o]) os
abbrev Fp:=List Nat×List Nat
def P6(d:Option Nat)(l:List Nat):Bool:=match d with
 | some d=>ED d l
 | none=>false
def Sz(d e:Option Nat):Bool:=match d,e with
 | some d,some e=>Nat.beq d e
 | _,_=>false
def tF:List Nat->List Nat->Bool
 | [],_=>false
 | b::bs,l=>match ED b l with
  | true=>true
  | false=>tF bs l
def xB(ops:Array Oper)(oi oj:Oper)(fi fj:Fp):Bool :=
 P6 oj.dst (oi.looksAt ops)||Sz oj.dst oi.dst||P6 oi.dst (oj.looksAt ops)||tF fj.2 fi.1||tF fj.2 fi.2||tF fi.2 fj.1
/-- All pairs (i, j), i ahead, that meet are bound one behind the other. -/
def zR(ops:Array Oper)(mask:Nat)(oj:Oper)(fj:Fp):Nat->List (Oper×Fp)->Bool
 | _,[]=>true
 | i,(oi,fi)::l=>(!xB ops oi oj fi fj||mask.testBit i)&&zR ops mask oj fj (i+1) l
def zT(ops:Array Oper):List (Oper×Fp)->List (Oper×Fp×Nat)->Bool
 | _,[]=>true
 | done,(oj,fj,mk)::l=>zR ops mk oj fj 0 done&&zT ops (done++[(oj,fj)]) l
def Cg:Nat->List Oper->Bool
 | _,[]=>true
 | j,o::os=>(o.after.toList.all fun e=>!Region.binds .any e||decide (e.on<j))&&Cg (j+1) os
def bf(ops:List Oper)(zU:List Fp):Bool :=
 Cg 0 ops&&zT ops.toArray [] (ops.zip (zU.zip (kT [] ops)))

def DC(S:Nat->Bool)(ops:List Oper):Prop:=∀(j:Nat) o,ops[j]?=some o->S j=true->∀e∈o.after,Region.binds .any e=true->S e.on=true

theorem zV{acc:List Nat}{S:Nat->Bool}(IT:∀j i,(acc.getD j 0).testBit i=true->S j=true->S i=true)(o:Oper)
  (ho:∀e∈o.after,Region.binds .any e=true->S e.on=true) (i:Nat) (h:(vU acc o).testBit i=true):S i=true:=by
 unfold vU at h
 have key:∀(l:List Edge) (z:Nat),(∀e∈l,Region.binds .any e=true->S e.on=true)->(z.testBit i=true->S i=true) ->
   (l.foldl (fun s e=>match Region.binds .any e with|true=>s ||| 2 ^ e.on ||| acc.getD e.on 0|false=>s) z).testBit i=true->S i=true:=by
  intro l
  induction l with
  | nil=>intro z _ hz h;exact hz h
  | cons e l ih =>
   intro z hl hz h;rw[List.foldl_cons] at h;refine ih _ (fun e' he'=>hl e' (by simp[he'])) ?_ h;intro D3;split at D3
   ·rename_i hb;have hon:=hl e (by simp) hb;rw[Nat.testBit_or,Nat.testBit_or,Bool.or_eq_true,Bool.or_eq_true] at D3;rcases D3 with(D3|D3)|D3
    ·exact hz D3
    ·rw[Nat.testBit_two_pow] at D3;have:e.on=i:=by simpa using D3
     rw[<-this];exact hon
    ·exact IT _ _ D3 hon
   ·exact hz D3
 exact key o.after.toList 0 (fun e he=>ho e (by simpa using he)) (by simp) h

theorem yj{S:Nat->Bool}:∀(os:List Oper) (acc:List Nat),(∀j i,(acc.getD j 0).testBit i=true->S j=true->S i=true) ->
  (∀(j:Nat) o,os[j]?=some o->S (acc.length+j)=true->∀e∈o.after,Region.binds .any e=true->S e.on=true) ->
  ∀j i,((kT acc os).getD j 0).testBit i=true->S j=true->S i=true
 | [],acc,IT,_=>IT
 | o::os,acc,IT,Sj=>by
  rw[kT];refine yj os _ ?_ ?_
  ·intro j i hb hS;by_cases hj:j<acc.length
   ·rw[List.getD_eq_getElem?_getD,List.getElem?_append_left hj,<-List.getD_eq_getElem?_getD] at hb;exact IT j i hb hS
   ·by_cases xN:j=acc.length
    ·subst xN;rw[List.getD_eq_getElem?_getD,List.getElem?_append_right (Nat.le_refl _)] at hb;simp at hb;exact zV IT o (Sj 0 o rfl (by simpa using hS)) i hb
    ·rw[List.getD_eq_getElem?_getD,List.getElem?_eq_none (by simp;omega)] at hb;simp at hb
  ·intro j o' hj hS;have:=Sj (j+1) o' (by simpa using hj) (by simp at hS;rwa [show acc.length+(j+1)=acc.length+1+j by omega]);exact this

theorem nO{i:Nat}:∀ {l:List Nat},ED i l=true↔i∈l
 | []=>by simp[ED]
 | j::l=>by
  unfold ED;split
  ·rename_i h;simp[Nat.eq_of_beq_eq_true h]
  ·rename_i h;have:i≠j:=by rintro rfl;rw[Nat.beq_refl] at h;cases h
   simp[nO,this]

theorem tG{ops:Array Oper}{mask:Nat}{oj:Oper}{fj:Fp}:∀(l:List (Oper×Fp)) (k:Nat),zR ops mask oj fj k l=true->∀i oi fi,l[i]?=some (oi,fi)->xB ops oi oj fi fj=true->mask.testBit (k+i)=true
 | [],_,_,i,_,_,h,_=>by simp at h
 | (o1,f1)::l,k,h,i,oi,fi,hi,hc=>by
  simp only[zR,Bool.and_eq_true,Bool.or_eq_true,Bool.not_eq_true'] at h;cases i with
  | zero =>
   simp at hi;obtain⟨rfl,rfl⟩:=hi;rcases h.1 with h1|h1
   ·rw[hc] at h1;cases h1
   ·exact h1
  | succ i =>
   have:=tG l (k+1) h.2 i oi fi (by simpa using hi) hc
   rwa [show k+(i+1)=k+1+i by omega]
theorem tH{ops:Array Oper}:∀(l:List (Oper×Fp×Nat)) (done:List (Oper×Fp)),zT ops done l=true ->
  ∀i j oi fi oj fj mj,(done++l.map fun p=>(p.1,p.2.1))[i]?=some (oi,fi)->l[j]?=some (oj,fj,mj)->i<done.length+j->xB ops oi oj fi fj=true->mj.testBit i=true
 | [],_,_,_,_,_,_,_,_,_,_,h,_,_=>by simp at h
 | (o1,f1,m1)::l,done,h,i,j,oi,fi,oj,fj,mj,hi,hj,aH,hc=>by
  simp only[zT,Bool.and_eq_true] at h;cases j with
  | zero =>
   simp at hj;obtain⟨rfl,rfl,rfl⟩:=hj;have:=tG done 0 h.1 i oi fi (by rw[List.getElem?_append_left (by omega)] at hi;exact hi) hc;simpa using this
  | succ j =>
   refine tH l (done++[(o1,f1)]) h.2 i j oi fi oj fj mj ?_ (by simpa using hj) (by simp;omega) hc;simpa using hi
def brk(g:Bool)(v:A)(K:A->Prop):Prop :=
 match g,v with
 | true,.sb b=>(b=true->K (.bool true))/\(b=false->K (.bool false))
 | _,v=>fv v K
def ZU(i:Nat):List Oper->Bool
 | []=>false
 | o::os=>match o.guard with
  | some (j,_)=>match Nat.beq i j with
   | true=>true
   | false=>ZU i os
  | none=>ZU i os
def Lh(g:Option Nat)(want:Bool)(s:List A)(X Y:Prop):Prop :=
 match g with
 | none=>False
 | some d=>match s.getD d .aj with
  | .bool b=>match b,want with
   | true,true=>X
   | false,false=>X
   | true,false=>Y
   | false,true=>Y
  | .tup vs=>match vs with
   | []=>Y
   | _=>False
  | _=>False
def XI:List (Nat×Nat)->Nat->Nat
 | [],_=>0
 | (j,n)::l,i=>match Nat.beq j i with
  | true=>n
  | false=>XI l i
def qM(rv:List (Nat×Nat))(i:Nat)(o:Op)(aD:Nat):Nat:=match GK o with
 | true=>aD+1
 | false=>aD+XI rv i
def vV(P:Program)(G:aK)(tt:TT)(ops:List Oper)(rv:List (Nat×Nat)):List Oper->Nat->Nat->List A->List ar->(List A->List ar->List Fp->Prop)->Prop
 | [],_,_,s,m,K=>K s m []
 | o::rest,i,aD,s,m,K =>
  let X:Prop:=tD P G tt o aD s m fun v u rd=>brk (ZU i ops) v fun v'=>sE s o.dst v' fun s'=>IJ m u fun m' =>
   dP (qM rv i o.op aD) fun vW=>vV P G tt ops rv rest (i+1) vW s' m' fun s m zU=>K s m ((rd,u.map (·.1))::zU)
  match o.guard with
  | none=>X
  | some (j,want)=>Lh (nL ops j) want s X
    (sE s o.dst (.tup []) fun s'=>dP (qM rv i o.op aD) fun vW=>vV P G tt ops rv rest (i+1) vW s' m fun s m zU=>K s m (([],[])::zU))

/-- A value told more closely. -/
def Ref(x y:A):Prop:=y=x\/∃b,x=.sb b/\y=.bool b
def Gd(ops:List Oper)(o:Oper)(r:Rc)(s:List A):Prop :=
 match o.guard with
 | none=>r.ex=true
 | some (j,want)=>(∃d b,nL ops j=some d/\s.getD d .aj=.bool b/\r.ex=(b==want))\/∃d,nL ops j=some d/\s.getD d .aj=.tup []/\r.ex=false
def Ch(P:Program)(G:aK)(tt:TT)(ops:List Oper):gG->List A->List ar->Prop
 | [],_,_=>True
 | (o,r)::l,s,m=>Gd ops o r s/\(r.ex=true->(∃aD,Out P G tt o aD s m r.oc)/\Ref r.oc.v r.v)/\(r.ex=false->r.v=.tup []/\r.oc.u=[]/\r.oc.rd=[]) /\
   Ch P G tt ops l (bA s o.dst r.v) (iJ m r.oc.u)
def kD:Nat->Bool:=fun _=>true
def nm(r:Rc):Fp:=(r.oc.rd,r.oc.u.map (·.1))

section
variable {c:Ctx} {P:Program} {tt:TT} {G:aK} {ops:List Oper}

theorem zW(rv:List (Nat×Nat)):∀(rest:List Oper) (i aD:Nat) (s:List A) (m:List ar) (K:List A->List ar->List Fp->Prop),vV P G tt ops rv rest i aD s m K ->
  ∃l:gG,l.map (·.1)=rest/\Ch P G tt ops l s m/\K (dM kD 0 l s) (ln kD 0 l m) (l.map fun p=>nm p.2)
 | [],i,aD,s,m,K,h=>⟨[],rfl,trivial,h⟩
 | o::rest,i,aD,s,m,K,h=>by
  have Li:∀(l:gG) (a b:Nat) (s:List A),dM kD a l s=dM kD b l s:=by
   intro l;induction l with
   | nil=>intros;rfl
   | cons p l ih=>intro a b s;rw[dM,dM];simp only[kD];exact ih _ _ _
  have Lj:∀(l:gG) (a b:Nat) (m:List ar),ln kD a l m=ln kD b l m:=by
   intro l;induction l with
   | nil=>intros;rfl
   | cons p l ih=>intro a b s;rw[ln,ln];simp only[kD];exact ih _ _ _
  have exec:(tD P G tt o aD s m fun v u rd=>brk (ZU i ops) v fun v'=>sE s o.dst v' fun s'=>IJ m u fun m' =>
    dP (qM rv i o.op aD) fun vW=>vV P G tt ops rv rest (i+1) vW s' m' fun s m zU=>K s m ((rd,u.map (·.1))::zU))->(∀r:Rc,r.ex=true->Gd ops o r s) ->
    ∃l:gG,l.map (·.1)=o::rest/\Ch P G tt ops l s m/\K (dM kD 0 l s) (ln kD 0 l m) (l.map fun p=>nm p.2):=by
   intro h hg;obtain⟨oc,h1,h2⟩:=IQ h
   have key:∀v',Ref oc.v v'->(sE s o.dst v' fun s'=>IJ m oc.u fun m' =>
     dP (qM rv i o.op aD) fun vW=>vV P G tt ops rv rest (i+1) vW s' m' fun s m zU=>K s m ((oc.rd,oc.u.map (·.1))::zU)) ->
     ∃l:gG,l.map (·.1)=o::rest/\Ch P G tt ops l s m/\K (dM kD 0 l s) (ln kD 0 l m) (l.map fun p=>nm p.2):=by
    intro v' hr hh;rw[oM,GF,aX] at hh;obtain⟨l,g1,g2,g3⟩:=zW rv rest (i+1) _ _ _ _ hh;refine⟨(o,⟨true,oc,v'⟩)::l,by simp[g1],⟨hg _ rfl,fun _=>⟨⟨aD,h1⟩,hr⟩,(fun h=>by cases h),g2⟩,?_⟩;rw[dM,ln];simp only[kD,if_true,List.map_cons];rw[Li l (0+1) 0,Lj l (0+1) 0];exact g3
   unfold brk at h2;split at h2
   ·rename_i b hb he;cases b
    ·exact key _ (.inr ⟨false,he,rfl⟩) (h2.2 rfl)
    ·exact key _ (.inr ⟨true,he,rfl⟩) (h2.1 rfl)
   ·rw[dL] at h2;exact key _ (.inl rfl) h2
  have skip:(sE s o.dst (.tup []) fun s'=>dP (qM rv i o.op aD) fun vW=>vV P G tt ops rv rest (i+1) vW s' m fun s m zU=>K s m (([],[])::zU))->(∀r:Rc,r.ex=false->Gd ops o r s) ->
    ∃l:gG,l.map (·.1)=o::rest/\Ch P G tt ops l s m/\K (dM kD 0 l s) (ln kD 0 l m) (l.map fun p=>nm p.2):=by
   intro hh hg;rw[oM,aX] at hh;obtain⟨l,g1,g2,g3⟩:=zW rv rest (i+1) _ _ _ _ hh;refine⟨(o,⟨false,⟨.aj,[],[]⟩,.tup []⟩)::l,by simp[g1],⟨hg _ rfl,(fun h=>by cases h),fun _=>⟨rfl,rfl,rfl⟩,g2⟩,?_⟩;rw[dM,ln];simp only[kD,if_true,List.map_cons];rw[Li l (0+1) 0,Lj l (0+1) 0];exact g3
  unfold vV at h;simp only at h;split at h
  ·rename_i hg;exact exec h (fun r hr=>by unfold Gd;rw[hg];exact hr)
  ·rename_i j want hg;unfold Lh at h;split at h
   ·exact h.elim
   ·rename_i d hd;split at h
    ·rename_i b hb
     have gd:∀r:Rc,r.ex=(b==want)->Gd ops o r s:=by
      intro r hr;unfold Gd;rw[hg];exact .inl ⟨d,b,hd,hb,hr⟩
     split at h
     ·exact exec h (fun r hr=>gd r (by simp[hr]))
     ·exact exec h (fun r hr=>gd r (by simp[hr]))
     ·exact skip h (fun r hr=>gd r (by simp[hr]))
     ·exact skip h (fun r hr=>gd r (by simp[hr]))
    ·rename_i vs hb;split at h
     ·exact skip h (fun r hr=>by unfold Gd;rw[hg];exact .inr ⟨d,hd,hb,hr⟩)
     ·exact h.elim
    ·exact h.elim

/-- The chain at a place. -/
theorem T4(l:gG)(s:List A)(m:List ar)(h:Ch P G tt ops l s m)(k:Nat)(o:Oper)(r:Rc)(hk:l[k]?=some (o,r)):
  Gd ops o r (dM (fun j=>decide (j<k)) 0 l s)/\(r.ex=true->(∃aD,Out P G tt o aD (dM (fun j=>decide (j<k)) 0 l s) (ln (fun j=>decide (j<k)) 0 l m) r.oc)/\Ref r.oc.v r.v)/\(r.ex=false->r.v=.tup []/\r.oc.u=[]/\r.oc.rd=[]):=by
 have gen:∀(l:gG) (i:Nat) (s:List A) (m:List ar),Ch P G tt ops l s m->∀k o r,l[k]?=some (o,r) ->
   Gd ops o r (dM (fun j=>decide (j<i+k)) i l s)/\(r.ex=true->(∃aD,Out P G tt o aD (dM (fun j=>decide (j<i+k)) i l s) (ln (fun j=>decide (j<i+k)) i l m) r.oc)/\Ref r.oc.v r.v)/\(r.ex=false->r.v=.tup []/\r.oc.u=[]/\r.oc.rd=[]):=by
  intro l
  induction l with
  | nil=>intro i s m _ k o r h;simp at h
  | cons p l ih =>
   obtain⟨o1,r1⟩:=p;intro i s m hch k o r hk;obtain⟨h1,h2,h3,h4⟩:=hch;cases k with
   | zero =>
    simp at hk;obtain⟨rfl,rfl⟩:=hk
    have e1:∀(l:gG) (j:Nat) (s:List A),i<=j->dM (fun j=>decide (j<i+0)) j l s=s:=by
     intro l;induction l with
     | nil=>intros;rfl
     | cons p l ih=>intro j s hj;rw[dM];simp only[show ¬j<i+0 by omega,decide_false];exact ih _ _ (by omega)
    have e2:∀(l:gG) (j:Nat) (m:List ar),i<=j->ln (fun j=>decide (j<i+0)) j l m=m:=by
     intro l;induction l with
     | nil=>intros;rfl
     | cons p l ih=>intro j s hj;rw[ln];simp only[show ¬j<i+0 by omega,decide_false];exact ih _ _ (by omega)
    rw[e1 _ _ _ (Nat.le_refl _),e2 _ _ _ (Nat.le_refl _)];exact⟨h1,h2,h3⟩
   | succ k =>
    have g1:=ih (i+1) _ _ h4 k o r (by simpa using hk);rw[dM,ln];simp only[show i<i+(k+1) by omega,decide_true,if_true];rw[show i+(k+1)=i+1+k by omega];exact g1
 have:=gen l 0 s m h k o r hk;simpa using this
end
section
variable {c:Ctx} {P:Program} {tt:TT} {G:aK} {ops:List Oper}

def bu(L:Array Bool):Nat->Bool:=fun j=>L.getD j false

structure Hyp (P:Program) (G:aK) (tt:TT) (ops:List Oper) (l:gG) (s:List A) (m:List ar):Prop where
 zX:l.map (·.1)=ops
 ch:Ch P G tt ops l s m
 indep:bf ops (l.map fun p=>nm p.2)=true

theorem Hyp.T5{l:gG}{s:List A}{m:List ar}(h:Hyp P G tt ops l s m){k:Nat}{o:Oper}(hk:ops[k]?=some o):∃r:Rc,l[k]?=some (o,r):=by
 rw[<-h.zX,List.getElem?_map] at hk;cases hl:l[k]? with
 | none=>rw[hl] at hk;cases hk
 | some p =>
  rw[hl] at hk;simp at hk;exact⟨p.2,by rw[<-hk]⟩
theorem Hyp.Lk{l:gG}{s:List A}{m:List ar}(h:Hyp P G tt ops l s m){k:Nat}{o:Oper}{r:Rc}(hk:l[k]?=some (o,r)):ops[k]?=some o:=by
 rw[<-h.zX,List.getElem?_map,hk];rfl

theorem yk:∀(os:List Oper) (acc:List Nat),(kT acc os).length=acc.length+os.length
 | [],acc=>by simp[kT]
 | o::os,acc=>by rw[kT,yk os];simp;omega

/-- Two operations that meet: the later one only behind the earlier one. -/
theorem Hyp.bound{l:gG}{s:List A}{m:List ar}(h:Hyp P G tt ops l s m){S:Nat->Bool}(hS:DC S ops){i j:Nat}{oi oj:Oper}{ri rj:Rc}
  (hi:l[i]?=some (oi,ri)) (hj:l[j]?=some (oj,rj)) (aH:i<j) (hc:xB ops.toArray oi oj (nm ri) (nm rj)=true) (vX:S j=true):S i=true:=by
 have T6:=h.indep;unfold bf at T6;rw[Bool.and_eq_true] at T6;have hlen:l.length=ops.length:=by rw[<-h.zX];simp
 have Wo:j<l.length:=by
  rcases Nat.lt_or_ge j l.length with h'|h'
  ·exact h'
  ·rw[List.getElem?_eq_none h'] at hj;cases hj
 have hmj:j<(kT [] ops).length:=by rw[yk];simp;omega
 have e1:(ops.zip ((l.map fun p=>nm p.2).zip (kT [] ops)))[j]?=some (oj,nm rj,(kT [] ops)[j]):=by
  rw[List.getElem?_zip_eq_some.2];refine⟨h.Lk hj,?_⟩;rw[List.getElem?_zip_eq_some.2];refine⟨?_,List.getElem?_eq_getElem hmj⟩;rw[List.getElem?_map,hj];rfl
 have e2:([]++(ops.zip ((l.map fun p=>nm p.2).zip (kT [] ops))).map fun p=>(p.1,p.2.1))[i]?=some (oi,nm ri):=by
  have hmi:i<(kT [] ops).length:=by omega
  have:(ops.zip ((l.map fun p=>nm p.2).zip (kT [] ops)))[i]?=some (oi,nm ri,(kT [] ops)[i]):=by
   rw[List.getElem?_zip_eq_some.2];refine⟨h.Lk hi,?_⟩;rw[List.getElem?_zip_eq_some.2];refine⟨?_,List.getElem?_eq_getElem hmi⟩;rw[List.getElem?_map,hi];rfl
  rw[List.nil_append,List.getElem?_map,this];rfl
 have ET:=tH _ [] T6.2 i j oi (nm ri) oj (nm rj) _ e2 e1 (by simpa using aH) hc;refine yj ops [] (by intro j i hb;simp at hb) (fun j o ho vX=>hS j o ho (by simpa using vX)) j i ?_ vX;rw[List.getD_eq_getElem?_getD,List.getElem?_eq_getElem hmj];exact ET

/-- A place that is ready, in a state of some executed ones: the state's slots that it looks at are those of the text's order. -/
theorem Hyp.looks{l:gG}{s:List A}{m:List ar}(h:Hyp P G tt ops l s m){S:Nat->Bool}(hS:DC S ops){k:Nat}{o:Oper}{r:Rc}(hk:l[k]?=some (o,r))(hn:S k=false)
  (Ll:∀i,(∀S':Nat->Bool,DC S' ops->S' k=true->S' i=true)->i≠k->S i=true) :
  (∀t,t∈o.looksAt ops.toArray->(dM S 0 l s).getD t .aj=(dM (fun j=>decide (j<k)) 0 l s).getD t .aj) /\
  (∀b,b∈r.oc.rd\/(∃x,r.oc.u.lookup b=some x)->(ln S 0 l m).getD b .dead=(ln (fun j=>decide (j<k)) 0 l m).getD b .dead):=by
 constructor
 ·intro t ht;refine lR _ _ t l 0 s s rfl rfl ?_;intro j o' r' hj hd;rw[Nat.zero_add];rcases Nat.lt_trichotomy j k with aH|rfl|aH
  ·simp only[aH,decide_true];refine Ll j (fun S' P7 iu=>h.bound P7 hj hk aH ?_ iu) (by omega);simp only[xB,Bool.or_eq_true];refine .inl (.inl (.inl (.inr ?_)));simp only[P6,hd];exact nO.2 ht
  ·simp[hn]
  ·simp only[show ¬j<k by omega,decide_false];cases vX:S j with
   | false=>rfl
   | true =>
    have:=h.bound hS hk hj aH (by
     simp only[xB,Bool.or_eq_true];refine .inl (.inl (.inl (.inl (.inl ?_))));simp only[P6,hd];exact nO.2 ht) vX
    rw[hn] at this;cases this
 ·intro b hb;refine lS _ _ b l 0 m m rfl rfl ?_;intro j o' r' x hj hd;rw[Nat.zero_add]
  have mem:∀ {r:Rc} {b:Nat} {x:ar},r.oc.u.lookup b=some x->b∈(nm r).2:=by
   intro r b x hx
   have key:∀u:List (Nat×ar),u.lookup b=some x->b∈u.map (·.1):=by
    intro u
    induction u with
    | nil=>intro h;cases h
    | cons p u ih =>
     obtain⟨b0,x0⟩:=p;intro h;rw[List.lookup_cons] at h;split at h
     ·rename_i he;simp[eq_of_beq he]
     ·simp[ih h]
   exact key _ hx
  have meet:∀ {l1 l2:List Nat} {b:Nat},b∈l1->b∈l2->tF l1 l2=true:=by
   intro l1
   induction l1 with
   | nil=>intro l2 b h;cases h
   | cons a l1 ih =>
    intro l2 b h1 h2;unfold tF;split
    ·rfl
    ·rename_i hn;rcases List.mem_cons.1 h1 with rfl|h1
     ·rw[nO.2 h2] at hn;cases hn
     ·exact ih h1 h2
  have jT:b∈(nm r').2:=mem hd;rcases Nat.lt_trichotomy j k with aH|rfl|aH
  ·simp only[aH,decide_true];refine Ll j (fun S' P7 iu=>h.bound P7 hj hk aH ?_ iu) (by omega);simp only[xB,Bool.or_eq_true];rcases hb with hb|⟨x',hb⟩
   ·exact .inr (meet jT hb)
   ·exact .inl (.inr (meet (mem hb) jT))
  ·simp[hn]
  ·simp only[show ¬j<k by omega,decide_false];cases vX:S j with
   | false=>rfl
   | true =>
    have:=h.bound hS hk hj aH (by
     simp only[xB,Bool.or_eq_true];rcases hb with hb|⟨x',hb⟩
     ·exact .inl (.inl (.inr (meet jT hb)))
     ·exact .inl (.inr (meet jT (mem hb)))) vX
    rw[hn] at this;cases this
theorem IU:∀ {l1 l2:List Nat} {b:Nat},b∈l1->b∈l2->tF l1 l2=true:=by
 intro l1
 induction l1 with
 | nil=>intro l2 b h;cases h
 | cons a l1 ih =>
  intro l2 b h1 h2;unfold tF;split
  ·rfl
  ·rename_i hn;rcases List.mem_cons.1 h1 with rfl|h1
   ·rw[nO.2 h2] at hn;cases hn
   ·exact ih h1 h2
theorem yl{r:Rc}{b:Nat}{x:ar}(hx:r.oc.u.lookup b=some x):b∈(nm r).2:=by
 have key:∀u:List (Nat×ar),u.lookup b=some x->b∈u.map (·.1):=by
  intro u
  induction u with
  | nil=>intro h;cases h
  | cons p u ih =>
   obtain⟨b0,x0⟩:=p;intro h;rw[List.lookup_cons] at h;split at h
   ·rename_i he;simp[eq_of_beq he]
   ·simp[ih h]
 exact key _ hx
end
section
variable {c:Ctx} {P:Program} {tt:TT} {G:aK} {ops:List Oper} {Q:Exit->Act->World->Prop}

theorem aJ.refine{s:List A}{m:List ar}{a:Act}{w:World}{ids:dV}{d:Option Nat}{x y:A}(hs:aJ c (_root_.Go.Proofs.YtijddijloelacaaGreat.Am.bA s d x) m a w ids)(hr:Ref x y):aJ c (_root_.Go.Proofs.YtijddijloelacaaGreat.Am.bA s d y) m a w ids:=by
 rcases hr with rfl|⟨b,rfl,rfl⟩
 ·exact hs
 ·cases d with
  | none=>exact hs
  | some d =>
   have e:_root_.Go.Proofs.YtijddijloelacaaGreat.Am.bA s (some d) (.bool b)=(_root_.Go.Proofs.YtijddijloelacaaGreat.Am.bA s (some d) (.sb b)).set d (.bool b):=by simp[_root_.Go.Proofs.YtijddijloelacaaGreat.Am.bA]
   rw[e];by_cases hd:d<s.length
   ·refine hs.zF d ?_;have:=hs.ev (.tmp d);simp only[Am.ev,Act.eval] at this;rw[show(_root_.Go.Proofs.YtijddijloelacaaGreat.Am.bA s (some d) (.sb b)).getD d .aj=.sb b by simp[_root_.Go.Proofs.YtijddijloelacaaGreat.Am.bA,List.getD_eq_getElem?_getD,hd]] at this;rw[this.jw];exact .aL (.bool _)
   ·rw[List.set_eq_of_length_le (by simp[_root_.Go.Proofs.YtijddijloelacaaGreat.Am.bA];omega)];exact hs

def XJ(L:Array Bool):Nat:=L.toList.countP (!·)
theorem countP_set:∀(l:List Bool) (i:Nat) (hi:i<l.length),l[i]=false->(l.set i true).countP (!·)+1=l.countP (!·)
 | [],_,hi,_=>by simp at hi
 | x::l,0,_,hf=>by simp at hf;subst hf;simp
 | x::l,i+1,hi,hf=>by
  have:=countP_set l i (by simpa using hi) (by simpa using hf);rw[List.set_cons_succ,List.countP_cons,List.countP_cons];omega
theorem GL{L:Array Bool}{i:Nat}(hi:i<L.size)(hf:L[i]=false):XJ (L.setIfInBounds i true)+1=XJ L:=by
 unfold XJ;rw[Array.toList_setIfInBounds];exact countP_set L.toList i (by simpa using hi) (by simpa using hf)

theorem vY:∀(os:List Oper) (k:Nat),Cg k os=true->∀j o,os[j]?=some o->∀e∈o.after,Region.binds .any e=true->e.on<k+j
 | [],_,_,j,o,h,_,_,_=>by simp at h
 | o1::os,k,h,j,o,hj,e,he,hb=>by
  simp only[Cg,Bool.and_eq_true,List.all_eq_true] at h;cases j with
  | zero =>
   simp at hj;subst hj;have:=h.1 e (by simpa using he);simp[hb] at this;omega
  | succ j =>
   have:=vY os (k+1) h.2 j o (by simpa using hj) e he hb;omega

theorem IV(aN:bM P tt)(hG:G.ok c){l:gG}{s:List A}{m:List ar}(h:Hyp P G tt ops l s m)
  (hQ:∀a w ids,aJ c (dM kD 0 l s) (ln kD 0 l m) a w ids->Q .normal a w) :
  ∀(fuel:Nat) (L:Array Bool) (a:Act) (w:World) (ids:dV),L.size=ops.length->XJ L<=fuel->DC (bu L) ops ->
   aJ c (dM (bu L) 0 l s) (ln (bu L) 0 l m) a w ids->wpAny P .any ops.toArray Q fuel L a w:=by
 have hlen:l.length=ops.length:=by rw[<-h.zX];simp
 have XK:Cg 0 ops=true:=by have:=h.indep;unfold bf at this;rw[Bool.and_eq_true] at this;exact this.1
 have done:∀(L:Array Bool) (a:Act) (w:World) (ids:dV),L.size=ops.length->Region.ready .any ops.toArray L=[] ->
   aJ c (dM (bu L) 0 l s) (ln (bu L) 0 l m) a w ids->Q .normal a w:=by
  intro L a w ids hL hr hs
  have all:∀j,j<ops.length->bu L j=true:=by
   intro j
   induction j using Nat.strongRecOn with
   | _ j ih =>
    intro hj;cases vX:bu L j with
    | true=>rfl
    | false =>
     exfalso
     have:j∈Region.ready .any ops.toArray L:=by
      rw[mem_ready];have hjL:j<L.size:=by omega
      refine⟨?_,ops[j],by simp[hj],?_⟩
      ·unfold bu at vX;simp[Array.getD_eq_getD_getElem?,hjL] at vX ⊢;exact vX
      ·intro e he hb;have:=vY ops 0 XK j ops[j] (List.getElem?_eq_getElem hj) e he hb;exact ih e.on (by omega) (by omega)
     rw[hr] at this;cases this
  have e1:dM (bu L) 0 l s=dM kD 0 l s:=by
   apply Ce (by simp[qL]);intro t;refine lR _ _ t l 0 s s rfl rfl ?_;intro j o r hj _
   have:j<l.length:=by
    rcases Nat.lt_or_ge j l.length with h'|h'
    ·exact h'
    ·rw[List.getElem?_eq_none h'] at hj;cases hj
   simp only[Nat.zero_add,kD];exact all j (by omega)
  have e2:ln (bu L) 0 l m=ln kD 0 l m:=by
   apply Cf (by simp[oN]);intro t;refine lS _ _ t l 0 m m rfl rfl ?_;intro j o r x hj _
   have:j<l.length:=by
    rcases Nat.lt_or_ge j l.length with h'|h'
    ·exact h'
    ·rw[List.getElem?_eq_none h'] at hj;cases hj
   simp only[Nat.zero_add,kD];exact all j (by omega)
  rw[e1,e2] at hs;exact hQ a w ids hs
 have one:∀(L:Array Bool) (a:Act) (w:World) (ids:dV) (i:Nat),L.size=ops.length->DC (bu L) ops ->
   aJ c (dM (bu L) 0 l s) (ln (bu L) 0 l m) a w ids->i∈Region.ready .any ops.toArray L->∀K:Act->World->Prop,
   (∀a w ids,DC (bu (L.setIfInBounds i true)) ops->aJ c (dM (bu (L.setIfInBounds i true)) 0 l s) (ln (bu (L.setIfInBounds i true)) 0 l m) a w ids->K a w)->wpOp P ops.toArray Q i K a w:=by
  intro L a w ids i hL T7 hs hi K hK;rw[mem_ready] at hi;obtain⟨P8,o,ho,Wm⟩:=hi
  have Ci:i<L.size:=by
   rcases Nat.lt_or_ge i L.size with h'|h'
   ·exact h'
   ·simp[Array.getD_eq_getD_getElem?,h'] at P8
  have XL:bu L i=false:=by
   unfold bu;simp[Array.getD_eq_getD_getElem?,Ci] at P8 ⊢;exact P8
  have Pp:ops[i]?=some o:=by simpa using ho
  obtain⟨r,hk⟩:=h.T5 Pp
  have P7:∀j,bu (L.setIfInBounds i true) j=(bu L j||j==i):=by
   intro j;unfold bu;by_cases hj:j=i
   ·subst hj;simp[Array.getD_eq_getD_getElem?,Ci]
   ·simp[Array.getD_eq_getD_getElem?,hj,Ne.symm hj]
  have Lm:DC (bu (L.setIfInBounds i true)) ops:=by
   intro j oj hj vX e he hb;rw[P7] at vX ⊢;rw[Bool.or_eq_true] at vX ⊢;rcases vX with vX|vX
   ·exact .inl (T7 j oj hj vX e he hb)
   ·have:j=i:=by simpa using vX
    subst this;rw[Pp] at hj;cases hj;exact .inl (Wm e he hb)
  obtain⟨hlk,hbk⟩:=h.looks T7 hk XL (fun i' cx hne=>by
   have:=cx _ Lm (by rw[P7];simp);rw[P7,Bool.or_eq_true] at this;rcases this with h1|h1
   ·exact h1
   ·exact absurd (by simpa using h1) hne)
  obtain⟨Wx,hex,TW⟩:=T4 l s m h.ch i o r hk
  have SA:dM (bu (L.setIfInBounds i true)) 0 l s=bA (dM (bu L) 0 l s) o.dst r.v :=
   P4 _ _ l i s o r hk P7 XL (fun j o' r' hj qB gD hne=>by
    cases vX:bu L j with
    | false=>rfl
    | true =>
     have:=h.bound T7 hk qB hj (by
      simp only[xB,Bool.or_eq_true];refine .inl (.inl (.inl (.inl (.inr ?_))));rw[gD];cases hd:o.dst with
      | none=>exact absurd hd hne
      | some d=>simp only[Sz];exact Nat.beq_refl _) vX
     rw[XL] at this;cases this)
  have SB:ln (bu (L.setIfInBounds i true)) 0 l m=iJ (ln (bu L) 0 l m) r.oc.u :=
   P5 _ _ l i m o r hk P7 XL (fun j o' r' b x x' hj qB hu hu'=>by
    cases vX:bu L j with
    | false=>rfl
    | true =>
     have:=h.bound T7 hk qB hj (by
      simp only[xB,Bool.or_eq_true];exact .inl (.inr (IU (yl hu') (yl hu)))) vX
     rw[XL] at this;cases this)
  unfold wpOp;rw[ho];simp only
  have wanted:Region.wanted o (yielded ops.toArray a.tmps)=r.ex:=by
   unfold Region.wanted;unfold Gd at Wx;split at Wx
   ·rename_i hg;rw[hg];simp[Wx]
   ·rename_i j want hg
    have hld:∀d,nL ops j=some d->d∈o.looksAt ops.toArray:=by
     intro d g1;unfold Oper.looksAt;rw[hg];have:(ops.toArray[j]?).bind (·.dst)=some d:=by simpa[nL] using g1
     simp only[this];simp
    rcases Wx with⟨d,b,g1,g2,g3⟩|⟨d,g1,g2,g3⟩
    ·rw[hg];simp only;have pU:=hs.ev (.tmp d);simp only[ev,Act.eval] at pU;rw[hlk d (hld d g1),g2] at pU;rw[ke g1 pU.eC,g3];cases b<;>cases want<;>rfl
    ·rw[hg];simp only;have pU:=hs.ev (.tmp d);simp only[ev,Act.eval] at pU;rw[hlk d (hld d g1),g2] at pU;obtain⟨us,hu,Bb,_⟩:=pU.kK;have J2:us=[]:=by simpa using Bb
     subst J2
     have hy:yielded ops.toArray a.tmps j=none:=by
      unfold yielded;have h1:(ops.toArray[j]?).bind (·.dst)=some d:=by simpa[nL] using g1
      rw[h1];rcases Nat.lt_or_ge d a.tmps.size with h|h
      ·have h2:a.tmps[d]?=some (.tuple #[]):=by simpa[Array.getD_eq_getD_getElem?,h] using hu
       simp[h2]
      ·simp[h]
     rw[hy,g3];rfl
  rw[wanted];cases XM:r.ex with
  | false =>
   obtain⟨q1,q2,q3⟩:=TW XM;rw[if_neg (by simp)];refine hK _ w ids Lm ?_;rw[SA,SB,q1,q2];exact hs.bA o.dst (.aL (.tup [] [] rfl (fun _ h=>by simp at h)))
  | true =>
   rw[if_pos rfl];obtain⟨⟨vW,hout⟩,href⟩:=hex XM;left
   have hloc:Out P G tt o vW (dM (bu L) 0 l s) (ln (bu L) 0 l m) r.oc:=by
    refine hout.local ?_ ?_ (by simp[oN])
    ·intro x hx;cases x with
     | tmp t =>
      have:t∈o.looksAt ops.toArray:=by
       unfold Oper.looksAt;refine List.mem_append.2 (.inl ?_);rw[List.mem_filterMap];exact⟨.tmp t,by simpa using hx,rfl⟩
      simp only[ev];exact(hlk t this).symm
     | const v=>rfl
     | global g=>rfl
     | func f=>rfl
    ·intro b hb;exact(hbk b (.inl hb)).symm
   refine IS aN hG hs hloc ?_;intro a' w' ab bY;refine hK a' w' ab Lm ?_;rw[SA,SB];exact bY.refine href
 intro fuel
 induction fuel with
 | zero =>
  intro L a w ids hL hu T7 hs
  have hr:Region.ready .any ops.toArray L=[]:=by
   apply List.eq_nil_iff_forall_not_mem.2;intro i hi;rw[mem_ready] at hi;obtain⟨P8,_⟩:=hi
   have Ci:i<L.size:=by
    rcases Nat.lt_or_ge i L.size with h'|h'
    ·exact h'
    ·simp[Array.getD_eq_getD_getElem?,h'] at P8
   have hf:L[i]=false:=by simpa[Array.getD_eq_getD_getElem?,Ci] using P8
   have:=GL Ci hf;omega
  exact⟨hr,done L a w ids hL hr hs⟩
 | succ fuel ih =>
  intro L a w ids hL hu T7 hs;refine⟨fun hr=>done L a w ids hL hr hs,?_⟩;intro i hi;refine one L a w ids i hL T7 hs hi _ ?_;intro a' w' ab Lm bY;refine ih _ a' w' ab (by simp[hL]) ?_ Lm bY;rw[mem_ready] at hi;obtain⟨P8,_⟩:=hi
  have Ci:i<L.size:=by
   rcases Nat.lt_or_ge i L.size with h'|h'
   ·exact h'
   ·simp[Array.getD_eq_getD_getElem?,h'] at P8
  have hf:L[i]=false:=by simpa[Array.getD_eq_getD_getElem?,Ci] using P8
  have:=GL Ci hf;omega

def mR:List Oper->Nat
 | []=>0
 | o::os=>match GK o.op with
  | true=>mR os+1
  | false=>mR os
def XN:List (Nat×Nat)->Nat
 | []=>0
 | (_,n)::l=>n+XN l
def Cj:Nat->List ar->(List ar->Prop)->Prop
 | 0,m,K=>K m
 | n+1,m,K=>Ii m .dead fun m'=>Cj n m' K
theorem GM:∀(n:Nat) (m:List ar) (K:List ar->Prop),Cj n m K=K (m++List.replicate n .dead)
 | 0,m,K=>by simp[Cj]
 | n+1,m,K=>by rw[Cj,uA,GM n];simp[List.replicate_succ]

theorem qN(rv:List (Nat×Nat))(aN:bM P tt)(hm:P.follows .mixedOrders=true){QA:Exit->List A->List ar->Prop}{s:List A}{m:List ar}{id:Nat}{l:List Oper}
  (h:Cj (mR l+XN rv) m fun m'=>dP m.length fun b=>vV P G tt l rv l 0 b s m' fun s' PA zU=>bf l zU=true/\QA .normal s' PA):WA P G (.region id l.toArray true) QA s m:=by
 rw[GM,aX] at h;obtain⟨recs,h1,h2,h3,h4⟩:=zW rv l 0 _ _ _ _ h;unfold WA;intro c a w ids hG hs;refine wp_region_any hm ?_;have hb:Bw w.heap.size w { w with drawn:=w.drawn+1 }:=⟨rfl,rfl,rfl,Nat.le_refl _,fun _ _=>rfl,fL.succ _⟩
 have bY:aJ c s (m++List.replicate (mR l+XN rv) .dead) a { w with drawn:=w.drawn+1 } (ids++List.replicate (mR l+XN rv) .dead):=by
  refine hs.grow hb _ _ (by simp) ?_ ?_ ?_ ?_
  ·intro i g1 g2;simp only[List.getElem_replicate];rfl
  ·intro p hp;rw[List.mem_replicate] at hp;cases hp.2
  ·intro p hp;rw[List.mem_replicate] at hp;cases hp.2
  ·intro i j p q x g1 g2 _ _;rw[List.getElem?_replicate] at g1;split at g1<;>cases g1
 have hyp:Hyp P G tt l recs s (m++List.replicate (mR l+XN rv) .dead):=⟨h1,h2,h3⟩
 have hz:∀j,bu (Array.replicate l.toArray.size false) j=false:=by
  intro j;unfold bu;simp[Array.getD_eq_getD_getElem?,Array.getElem?_replicate];split<;>rfl
 have zY:∀(r:gG) (i:Nat) (s:List A),dM (bu (Array.replicate l.toArray.size false)) i r s=s:=by
  intro r;induction r with
  | nil=>intros;rfl
  | cons p r ih=>intro i s;rw[dM];simp only[hz];exact ih _ _
 have hid2:∀(r:gG) (i:Nat) (m:List ar),ln (bu (Array.replicate l.toArray.size false)) i r m=m:=by
  intro r;induction r with
  | nil=>intros;rfl
  | cons p r ih=>intro i s;rw[ln];simp only[hz];exact ih _ _
 refine IV aN hG hyp (fun a w ids hs=>⟨_,_,ids,h4,hs⟩) _ _ a _ _ (by simp) ?_ ?_ (by rw[zY,hid2];exact bY)
 ·unfold XJ;simp;rw[List.countP_replicate];simp
 ·intro j o _ hS;rw[hz] at hS;cases hS
theorem aS(aN:bM P tt)(hm:P.follows .mixedOrders=true){QA:Exit->List A->List ar->Prop}{s:List A}{m:List ar}{id:Nat}{l:List Oper}
  (h:Cj (mR l) m fun m'=>dP m.length fun b=>vV P G tt l [] l 0 b s m' fun s' PA zU=>bf l zU=true/\QA .normal s' PA):WA P G (.region id l.toArray true) QA s m:=qN [] aN hm h
end
section
variable {c:Ctx} {s:List A} {m:List ar} {a:Act} {w w':World} {ids ab:dV} {P:Program} {im bL:Nat->Prop} {tt:TT} {G:aK}
variable {next:Act->World->Prop} {Q:Exit->Act->World->Prop} {o:Oper}
/-- A row of ours is written no more: it is a value. -/
theorem gL{code:Code}{Q:Exit->List A->List ar->Prop}(b:Nat)(h:PH b s m fun s' m'=>WA P G code Q s' m'):WA P G code Q s m:=by
 unfold WA;intro c a w ids hG hs;obtain⟨s',m',ab,h',bY⟩:=vF hs h;unfold WA at h';exact h' c a w ab hG bY

/-- A row of nil slices is a nest. -/
theorem P9{code:Code}{Q:Exit->List A->List ar->Prop}(b:Nat)(aW:TypeId)(sz:Nat){ty:TypeId}{n:Nat}{row:Nat->List A}(hb:m.getD b .dead=.row ty 1 n row)
  (hz:∀i,i<n->row i=[.aC]) (h:r8 m b (.nest ty aW sz n none (fun _=>0) (fun _ _=>[])) fun m'=>WA P G code Q s m'):WA P G code Q s m:=by
 rw[fM] at h;unfold WA at h ⊢;intro c a w ids hG hs;obtain⟨mE,hm⟩:=getD_some (by simp) hb;have fg:b<ids.length:=by rw[hs.aU];exact mE
 have hB:=hs.bP b mE fg;rw[hm] at hB;cases hp:ids[b] with
 | dead=>rw[hp] at hB;exact hB.elim
 | aw=>rw[hp] at hB;exact hB.elim
 | cV vs=>rw[hp] at hB;exact hB.elim
 | bg =>
  rw[hp] at hB;refine h c a w ids hG ⟨hs.defers,hs.len,hs.cc,by simp[hs.aU],?_,hs.al,hs.au,hs.frame,hs.fh,hs.cV⟩;intro k hk iu;rw[List.getElem_set];split
  ·rename_i he;subst he;rw[hp];exact hB
  ·exact hs.bP k (by simpa using hk) iu
 | lv p =>
  rw[hp] at hB;have cD:ids[b]?=some (.lv p):=by rw[List.getElem?_eq_getElem fg,hp]
  let p':Id:=⟨p.aq,p.k,p.n,p.sz,fun _=>False,p.vg⟩
  have Sf:∀x,p'.has x->x=p.aq:=fun x h=>by
   rcases h with h|h
   ·exact h
   ·exact False.elim h
  have mem:∀(k:Nat) r,(ids.set b (.lv p'))[k]?=some (eU.lv r)->(k=b/\r=p')\/(k≠b/\ids[k]?=some (.lv r)):=by
   intro k r h;rw[List.getElem?_set] at h;split at h
   ·rename_i e;subst e;cases h;exact .inl ⟨rfl,rfl⟩
   ·rename_i hne;exact .inr ⟨fun e=>hne e.symm,h⟩
  have bm:∀r,eU.lv r∈ids.set b (.lv p')->∀x,r.has x->x<w.heap.size/\(w.heap.size<=x\/∃(b:Nat) (p:Id),ids[b]?=some (.lv p)/\p.has x):=by
   intro r hr x hx;obtain⟨k,hk⟩:=List.getElem?_of_mem hr;rcases mem k r hk with⟨_,rfl⟩|⟨_,e⟩
   ·rw[Sf x hx];exact⟨(hs.fresh p (List.mem_of_getElem? cD)).2,.inr ⟨b,p,cD,.inl rfl⟩⟩
   ·exact⟨(hs.au r (List.mem_of_getElem? e) x hx).2,.inr ⟨k,r,e,hx⟩⟩
  obtain⟨ez,dH⟩:=hs.de (w':=w) (ab:=ids.set b (.lv p')) (Nat.le_refl _) (fun _ _ _=>rfl) bm
  have hd:∀(k:Nat) r,ids[k]?=some r->r≠.dead->∃q,(ids.set b (.lv p'))[k]?=some q/\jH r q:=by
   intro k r hr _;rw[List.getElem?_set];split
   ·rename_i e;subst e;rw[cD] at hr;cases hr;exact⟨_,rfl,p',rfl,rfl,rfl,rfl,rfl,fun _ _ h=>h⟩
   ·exact⟨r,hr,fO r⟩
  refine h c a w _ hG (hs.nH (ab:=ids.set b (.lv p')) rfl rfl rfl (Nat.le_refl _) (fun _ _ _=>rfl) bm (fun vs h=>by
   rcases List.mem_or_eq_of_mem_set h with h|h
   ·exact h
   ·cases h) ?_ rfl (by simp[hs.aU]) (fun i h h'=>(hs.cc i h h').nF ez dH hd) ?_)
  ·intro k k' r r' x e1 e2 x1 x2;rcases mem k r e1 with⟨rfl,rfl⟩|⟨ne,e⟩<;>rcases mem k' r' e2 with⟨rfl,rfl⟩|⟨ne',e'⟩
   ·rfl
   ·exact absurd (hs.al _ _ p r' x cD e' (.inl (Sf x x1)) x2).symm ne'
   ·exact absurd (hs.al _ _ r p x e cD x1 (.inl (Sf x x2))) ne
   ·exact hs.al k k' r r' x e e' x1 x2
  ·intro k hk iu;simp only[List.length_set] at hk iu;rw[List.getElem_set,List.getElem_set];split
   ·obtain⟨g1,g2,vs,h1,h2,h3,h4,h5⟩:=hB;refine⟨g1,g2,(fun h=>h.elim),vs,h1,h2,by rw[Nat.mul_one] at h3;exact h3,fun _=>none,?_⟩;intro i hi _ hiv;refine⟨.inl ⟨?_,rfl,rfl⟩,(fun x h=>by cases h),(fun j _ _ _ h=>absurd rfl h)⟩;have:=(h5 i 0 hi (by rw[h4 i hi];omega) (by omega)).1;simp only[hz i hi,List.getElem_cons_zero,Nat.mul_one,Nat.add_zero] at this;exact(Rel.aL (ids:=[]) this).dO
   ·exact(hs.bP k hk iu).nF ez dH hd (fun _ _ _ _=>rfl)
end
def P'(tt:TT)(rv:ResultVar)(s:List A)(m:List ar)(K:A->Prop):Prop :=
 match rv with
 | .tmp t=>fd 3 (s.getD t .aj) K
 | .cell p t=>nd tt t (s.getD p .aj) m fun v _=>fd 3 v K
def Ln(tt:TT):List ResultVar->List A->List ar->(List A->Prop)->Prop
 | [],_,_,K=>K []
 | r::rs,s,m,K=>P' tt r s m fun v=>Ln tt rs s m fun vs=>K (v::vs)
def ZV(m:List ar):List Nat->Bool
 | []=>true
 | b::bs=>match Nat.blt b m.length with
  | true=>ZV m bs
  | false=>false
theorem ym{m:List ar}:∀ {l:List Nat},ZV m l=true->∀b∈l,b<m.length
 | [],_,b,hb=>by simp at hb
 | x::xs,h,b,hb=>by
  unfold ZV at h;split at h
  ·rename_i hx;rcases List.mem_cons.1 hb with rfl|hb
   ·exact Nat.le_of_ble_eq_true hx
   ·exact ym h b hb
  ·cases h
def Ck(k:Nat)(m:List ar)(rv:A)(r:A)(mo:List ar):Prop :=
 Wr (pV k 0++O5 (pV k 0) (reach m 8 rv)) fun ρ=>match ZV m ρ,pP ρ with
  | true,true=>fd 4 (jz (cq (fP ρ 0)) 5 rv) fun rv'=>sj (ρ.map fun b=>iP (cq (fP ρ 0)) 4 (m.getD b .dead)) fun m'=>uh [rv'] m' [r] mo
  | _,_=>False
def retM(tt:TT)(fn:Func)(k:Nat)(r:A)(mo:List ar):Exit->List A->List ar->Prop
 | .ret,s,m=>Ln tt fn.results.toList s m fun vs=>match vs with
  | [v]=>Ck k m v r mo
  | vs=>Ck k m (.tup vs) r mo
 | .normal,s,m=>Ln tt fn.results.toList s m fun vs=>match vs with
  | [v]=>Ck k m v r mo
  | vs=>Ck k m (.tup vs) r mo
 | _,_,_=>False

section
variable {c:Ctx} {s:List A} {m:List ar} {a:Act} {w w':World} {ids ab:dV} {P:Program} {im bL:Nat->Prop} {tt:TT} {G:aK}

theorem Lo(aN:bM P tt)(hs:aJ c s m a w ids)(rv:ResultVar){K:A->Prop}(h:P' tt rv s m K):
  ∃r v,(vK a.tmps rv).run P w=.ok v w/\K r/\Rel ids (av c ids w) w r v:=by
 cases rv with
 | tmp t =>
  simp only[P',fA] at h;exact⟨_,a.tmps.getD t undef,rfl,h,hs.ev (.tmp t)⟩
 | cell p t =>
  simp only[P',fA] at h;obtain⟨ad,r,u,h1,h2,h3,h4⟩:=yc (P:=P) aN hs (hs.ev (.tmp p)) h;refine⟨_,u,?_,h3,h4⟩;have h1:a.tmps.getD p undef=.pointer (some ad):=h1;show(do loadVar t (<-asAddr (a.tmps.getD p undef)):Sem Value).run P w=_;rw[h1];simp[asAddr,h2]
theorem Cl(aN:bM P tt)(hs:aJ c s m a w ids):∀(rs:List ResultVar) {K:List A->Prop},Ln tt rs s m K ->
  ∃(xs:List A) (vs:List Value),(rs.mapM (vK a.tmps)).run P w=.ok vs w/\K xs /\
   vs.length=xs.length/\∀j (h:j<xs.length) (h':j<vs.length),Rel ids (av c ids w) w xs[j] vs[j]
 | [],K,h=>⟨[],[],by simp,h,rfl,fun j h=>absurd h (Nat.not_lt_zero _)⟩
 | rv::rs,K,h=>by
  obtain⟨r,v,h1,h2,h3⟩:=Lo (P:=P) aN hs rv h;obtain⟨xs,vs,g1,g2,g3,g4⟩:=Cl aN hs rs h2;refine⟨r::xs,v::vs,?_,g2,by simp[g3],?_⟩
  ·rw[List.mapM_cons];simp only[Sem.run_bind,h1,Result.andThen_ok,g1];rfl
  ·intro j hj cH;cases j with
   | zero=>exact h3
   | succ j=>exact g4 j (by simpa using hj) (by simpa using cH)

/-- Some blocks alone, and one value. -/
theorem aJ.sub(hs:aJ c s m a w ids){ρ:List Nat}(sn:ρ.Nodup)(zj:∀b∈ρ,b<m.length){x:A}{v:Value}(hx:Rel ids (av c ids w) w x v):
  aJ c [jz (cq (fP ρ 0)) 5 x] (ρ.map fun b=>iP (cq (fP ρ 0)) 4 (m.getD b .dead)) ⟨#[v],[]⟩ w (ρ.map fun b=>ids.getD b .dead):=by
 have zk:∀b,b∈ρ->∃p,ids[b]?=some p/\ids.getD b .dead=p/\bq ids (av c ids w) w (m.getD b .dead) p:=by
  intro b hb;obtain⟨p,h1,h2⟩:=hs.Er (zj b hb);exact⟨p,h1,by rw[List.getD_eq_getElem?_getD,h1];rfl,h2⟩
 have tu:∀(j:Nat) b,ρ[j]?=some b->(ρ.map fun b=>ids.getD b .dead)[j]?=ids[b]?:=by
  intro j b hj;obtain⟨p,h1,h2,_⟩:=zk b (List.mem_of_getElem? hj);rw[List.getElem?_map,hj,h1];simp only[Option.map_some,h2]
 have lj:∀(i:Nat) p,(ρ.map fun b=>ids.getD b .dead)[i]?=some p->∃b,ρ[i]?=some b/\ids[b]?=some p:=by
  intro i p hi;cases hj:ρ[i]? with
  | none=>rw[List.getElem?_map,hj] at hi;cases hi
  | some b=>exact⟨b,rfl,by rw[<-tu i b hj];exact hi⟩
 have hτ:tr (cq (fP ρ 0)) ids (ρ.map fun b=>ids.getD b .dead):=by
  have key:∀b b',fP ρ 0 b=some b'->(ρ.map fun b=>ids.getD b .dead)[b']?=ids[b]?:=by
   intro b b' hb;obtain⟨h1,h2⟩:=gK _ _ _ _ hb;exact tu _ _ (by simpa using h2)
  exact⟨fun b b' p h1 h2=>⟨p,by rw[key b b' h1];exact h2,rfl⟩,fun b b' p h1 h2 _=>⟨p,by rw[key b b' h1];exact h2,iN p⟩,fun b b' p h1 h2=>⟨p,by rw[key b b' h1];exact h2,rfl⟩,fun b b' h1 h2=>by rw[key b b' h1];exact h2,fun b b' h1 h2=>by rw[key b b' h1];exact h2⟩
 have hi:∀b,av c ids w b->av c (ρ.map fun b=>ids.getD b .dead) w b:=by
  rintro b (h|⟨h1,h2,h3⟩)
  ·exact .inl h
  ·refine .inr ⟨h1,h2,fun p hp=>?_⟩;obtain⟨i,hi⟩:=List.getElem?_of_mem hp;obtain⟨b',_,h5⟩:=lj i _ hi;exact h3 p (List.mem_of_getElem? h5)
 refine⟨rfl,rfl,?_,by simp,?_,?_,?_,hs.frame,hs.fh,?_⟩
 ·intro i h1 h2;have:i=0:=by simp at h1;omega
  subst this;exact eF hi (fun _ _=>rfl) hτ 5 _ _ hx
 ·intro i h1 h2;have bT:i<ρ.length:=by simpa using h1
  obtain⟨p,q1,q2,q3⟩:=zk ρ[i] (List.getElem_mem bT);rw[List.getElem_map,List.getElem_map,q2];exact lJ hi (fun _ _=>rfl) hτ 4 (fun _ _ _ _=>rfl) q3
 ·intro i j p q x h1 h2 h3 h4;obtain⟨b1,e1,e2⟩:=lj i _ h1;obtain⟨b2,e3,e4⟩:=lj j _ h2;have:=hs.al b1 b2 p q x e2 e4 h3 h4;subst this;exact(List.getElem?_inj (bl e1) sn).1 (e1.trans e3.symm)
 ·intro p hp x hx;obtain⟨i,hi⟩:=List.getElem?_of_mem hp;obtain⟨b,_,h3⟩:=lj i _ hi;exact hs.au p (List.mem_of_getElem? h3) x hx
 ·intro vs hv;obtain⟨i,hi⟩:=List.getElem?_of_mem hv;obtain⟨b,_,h3⟩:=lj i _ hi;exact hs.cV vs (List.mem_of_getElem? h3)

theorem vZ(hs:aJ c s m a w ids){k:Nat}{rv r:A}{mo:List ar}{v:Value}(hx:Rel ids (av c ids w) w rv v)(h:Ck k m rv r mo):∃ab,aJ c [r] mo ⟨#[v],[]⟩ w ab:=by
 unfold Ck at h;rw[zf] at h;split at h
 ·rename_i h1 h2;rw[fA,eK] at h;exact kg h _ _ _ _ (hs.sub (jL h2) (ym h1) hx)
 ·exact h.elim

theorem yn(aN:bM P tt)(hs:aJ c s m a w ids){fn:Func}{k:Nat}{r:A}{mo:List ar}(h:Ln tt fn.results.toList s m fun vs=>match vs with
  | [v]=>Ck k m v r mo
  | vs=>Ck k m (.tup vs) r mo):∃v ab,(results fn a.tmps).run P w=.ok v w/\aJ c [r] mo ⟨#[v],[]⟩ w ab:=by
 obtain⟨xs,vs,h1,h2,h3,h4⟩:=Cl (P:=P) aN hs _ h;have cz:=tB (P:=P) (a:=a) h1;split at h2
 ·rename_i x;have:vs.length=1:=by simpa using h3
  match vs,this with
  | [v],_ =>
   obtain⟨ab,bY⟩:=vZ hs (h4 0 (by simp) (by simp)) h2;exact⟨v,ab,cz,bY⟩
 ·rename_i hne
  have hne:¬vs.length=1:=by
   intro e;rw[e] at h3
   match xs,h3 with
   | [x],_=>exact hne x rfl
  rw[dif_neg (by simpa using hne)] at cz;obtain⟨ab,bY⟩:=vZ hs (.tup xs vs h3 h4) h2;exact⟨_,ab,cz,bY⟩

theorem aM.af(aN:bM P tt){f:FuncId}{fn:Func}{cd:Code}{args:List A}{mi:List ar}{r:A}{mo:List ar}(hf:P.funcs[f]?=some fn)(hb:fn.body=some cd)
  (hn : (fn.name == "runtime.NumGoroutine") = false) (k : Nat) (hk : fn.ntmps - args.length = k)
  (h:fl (args++List.replicate k .aj) fun s=>dP mi.length fun n=>WA P G cd (retM tt fn n r mo) s mi):aM P G f args mi r mo:=by
 rw[cI,aX] at h;refine⟨⟨fn,cd,hf,hb,hn⟩,?_⟩;intro im w vs gs ids hG hs;refine calls_of_wp hf hb ?_;unfold WA at h;have hl:vs.length=args.length:=by have:=hs.len;simpa using this
 have pQ:aJ ⟨w,im,iw ids,gs⟩ (args++List.replicate k .aj) mi ⟨vs.toArray++Array.replicate (fn.ntmps-vs.toArray.size) undef,[]⟩ w ids:=by
  refine⟨rfl,by simp[hl,hk],?_,hs.aU,hs.bP,hs.al,hs.au,hs.frame,hs.fh,hs.cV⟩;intro i h1 h2;by_cases hi:i<args.length
  ·rw[List.getElem_append_left hi,Array.getElem_append_left (by simp;omega)];exact hs.cc i hi (by simp;omega)
  ·rw[List.getElem_append_right (by omega)];simp only[List.getElem_replicate];exact .aL (.aj _)
 refine wp_mono (h ⟨w,im,iw ids,gs⟩ _ w ids hG pQ) ?_;rintro e a' w' ⟨s',m',ab,hq,bY⟩;cases e with
 | ret =>
  obtain⟨v,kB,h1,h2⟩:=yn (P:=P) aN bY hq;exact⟨bY.defers,v,h1,v,kB,rfl,h2⟩
 | normal =>
  obtain⟨v,kB,h1,h2⟩:=yn (P:=P) aN bY hq;exact⟨bY.defers,v,h1,v,kB,rfl,h2⟩
 | _=>exact hq.elim

/-- A contract serves a state that may be taken for its own. -/
theorem aM.fit{f:FuncId}{args qO:List A}{mi mi':List ar}{r:A}{mo:List ar}(h:aM P G f args mi r mo)(hl:mi'.length=mi.length)(hf:uh qO mi' args mi):aM P G f qO mi' r mo:=by
 refine⟨h.1,?_⟩;intro im w vs gs ids hG hs;have bY:=hs.fit hf;rw[List.take_of_length_le (by rw[hs.aU,hl];exact Nat.le_refl _)] at bY;exact h.2 im w vs gs ids hG bY
end
end Go.Proofs.YtijddijloelacaaGreat.Am
namespace Go.Proofs.YtijddijloelacaaGreat.Am
variable [Inhabited cF]
/-- What a branch's test says, in plain words: all rules as one. -/
theorem ae:(∀(p:Prop) [Decidable p],(decide p=true)=p)/\(∀(p:Prop) [Decidable p],(decide p=false)=¬p)/\(∀(α:Type) [BEq α] [LawfulBEq α] (a b:α),((a==b)=true)=(a=b)) /\
  (∀(α:Type) [BEq α] [LawfulBEq α] (a b:α),((a==b)=false)=(a≠b))/\(∀(α:Type) [BEq α] [LawfulBEq α] (a b:α),((a != b)=true)=(a≠b))/\(∀(α:Type) [BEq α] [LawfulBEq α] (a b:α),((a != b)=false)=(a=b)) /\
  (∀(α:Type) (a b:α),(a≠b)=¬(a=b))/\(∀b:Bool,((!b)=true)=(b=false))/\(∀b:Bool,((!b)=false)=(b=true))/\(∀b:Bool,(¬b=true)=(b=false))/\(∀(p:Prop) [Decidable p],(¬¬p)=p) :=
 ⟨fun _ _=>by simp,fun _ _=>by simp,fun _ _ _ _ _=>by simp,fun _ _ _ _ _=>by simp,fun _ _ _ _ _=>by simp,fun _ _ _ _ _=>by simp,fun _ _ _=>rfl,fun _=>by simp,fun _=>by simp,fun _=>by simp,fun _ _=>by simp⟩
theorem T8:(∀n:Nat,(n:Int).toNat=n)/\(∀a b:Bool,((a&&b)=true)=(a=true/\b=true))/\(∀a b:Bool,((a||b)=true)=(a=true\/b=true))/\(∀b:Bool,((!b)=true)=(b=false)) /\
  (∀a b:Bool,((a&&b)=false)=(a=false\/b=false))/\(∀a b:Bool,((a||b)=false)=(a=false/\b=false))/\(∀(p:Prop) [Decidable p],(decide p=true)=p)/\(∀(p:Prop) [Decidable p],(decide p=false)=¬p) :=
 ⟨fun _=>by simp,fun _ _=>by simp,fun _ _=>by simp,fun _=>by simp,fun a b=>by cases a<;>cases b<;>simp,fun _ _=>by simp,fun _ _=>by simp,fun _ _=>by simp⟩
theorem qP:(∀a b:Int,(a==b)=decide (a=b))/\(∀a b:Int,(a != b) = !decide (a=b))/\(∀a b:Bool,((a&&b)=true)=(a=true/\b=true))/\(∀a b:Bool,((a||b)=true)=(a=true\/b=true))/\(∀b:Bool,((!b)=true)=(b=false))/\(∀b:Bool,((!b)=false)=(b=true)) /\
  (∀a b:Bool,((a&&b)=false)=(a=false\/b=false))/\(∀a b:Bool,((a||b)=false)=(a=false/\b=false))/\(∀(p:Prop) [Decidable p],(decide p=true)=p)/\(∀(p:Prop) [Decidable p],(decide p=false)=¬p)/\((true=true)=True)/\((false=true)=False)/\((true=false)=False)/\((false=false)=True)/\(∀p:Prop,(p/\True)=p)/\(∀p:Prop,(p\/False)=p) :=
 ⟨fun _ _=>rfl,fun _ _=>rfl,fun _ _=>by simp,fun _ _=>by simp,fun _=>by simp,fun _=>by simp,fun a b=>by cases a<;>cases b<;>simp,fun _ _=>by simp,fun _ _=>by simp,fun _ _=>by simp,by simp,by simp,by simp,by simp,by simp,by simp⟩
section
variable {P:Program} {G:aK} {tt:TT} {Q:Exit->List A->List ar->Prop} {s:List A} {m:List ar}
theorem sq{x y:Code}(h:WA P G x (K0 (WA P G y Q) Q) s m):WA P G (.seq x y) Q s m:=bo h
theorem bk{id:Nat}{x:Code}(h:WA P G x (zG id Q) s m):WA P G (.block id x) Q s m:=aG h
theorem cd{t:Operand}{x y:Code}(h:GB (ev s t) (WA P G x Q s m) (WA P G y Q s m)):WA P G (.cond t x y) Q s m:=aR h
theorem sk(h:Q .normal s m):WA P G .skip Q s m:=aP h
theorem xt{id:Nat}(h:Q (.exit id) s m):WA P G (.exit id) Q s m:=aQ h
theorem rt(h:Q .ret s m):WA P G .ret Q s m:=bp h
theorem rg(aN:bM P tt){id:Nat}{l:List Oper}(h:nM P G tt l l s m (Q .normal)):WA P G (.region id l.toArray false) Q s m:=aB aN h
theorem dw(aN:bM P tt)(hm:P.follows .mixedOrders=true){id:Nat}{l:List Oper}
  (h:Cj (mR l) m fun m'=>dP m.length fun b=>vV P G tt l [] l 0 b s m' fun s' PA zU=>bf l zU=true/\Q .normal s' PA):WA P G (.region id l.toArray true) Q s m:=aS aN hm h
end
theorem wf{k:IntKind}{n:Int}{K:A->Prop}(h2:K (.int k n))(h1:k.wrap n=n:=by first|exact bC (by omega)|exact aV (by omega)|exact cy (by omega)|exact bG (by omega)|exact bH (by omega)):WR k n K:=bB h1 h2
theorem ao{k:IntKind}{n:Int}{K:A->Prop}(h:K (.int k (k.wrap n))):WR k n K:=aY h
theorem ai{l:List Oper}{f:List Fp}{q:Prop}(h2:q)(h1:bf l f=true:=by kernel_rfl):bf l f=true/\q:=⟨h1,h2⟩
theorem an{p q:Prop}(h2:q)(h1:p:=by first|omega|decide|(dsimp only;omega)|(simp at *;omega)):p/\q:=⟨h1,h2⟩
theorem fa{p:Prop}(h:p:=by first|exact rfl|exact trivial|exact Or.inl (fun _ _=>rfl)|exact(fun _=>rfl)|exact(fun _ _=>rfl)|exact Or.inl (fun _ hi=>absurd hi (Nat.not_lt_zero _))):p:=h
theorem fb{p q:Prop}(h2:q)(h:p:=by first|exact rfl|exact Or.inl (fun _ _=>rfl)|exact(fun _=>rfl)|exact(fun _ _=>rfl)):p/\q:=⟨h,h2⟩
def stp(P:Program)(G:aK)(tt:TT)(Q:Exit->List A->List ar->Prop)(s:List A)(m:List ar):Code->Prop
 | .seq x y=>WA P G x (K0 (WA P G y Q) Q) s m
 | .block id x=>WA P G x (zG id Q) s m
 | .cond t x y=>GB (ev s t) (WA P G x Q s m) (WA P G y Q s m)
 | .skip=>Q .normal s m
 | .exit id=>Q (.exit id) s m
 | .ret=>Q .ret s m
 | .region _ ⟨l⟩ false=>nM P G tt l l s m (Q .normal)
 | .region _ ⟨l⟩ true=>Cj (mR l) m fun m'=>dP m.length fun b=>vV P G tt l [] l 0 b s m' fun s' PA zU=>bf l zU=true/\Q .normal s' PA
 | _=>False
def stpB:Code->Bool
 | .loop _=>false
 | .rangeFunc ..=>false
 | _=>true
theorem T9{P:Program}{G:aK}{tt:TT}{Q:Exit->List A->List ar->Prop}{s:List A}{m:List ar}(aN:bM P tt)(hm:P.follows .mixedOrders=true){c:Code}(h:stp P G tt Q s m c):WA P G c Q s m:=by
 unfold stp at h;split at h
 ·exact bo h
 ·exact aG h
 ·exact aR h
 ·exact aP h
 ·exact aQ h
 ·exact bp h
 ·exact aB aN h
 ·exact aS aN hm h
 ·exact h.elim
/-- A state that says less, ahead of a region. -/
theorem zZ{P:Program}{G:aK}{Q:Exit->List A->List ar->Prop}{s:List A}{m:List ar}{id:Nat}{l:Array Oper}{d:Bool}(ov:List (Nat×A))(M:List ar)
  (h0:fl (Ww ov s) fun s'=>uh s m s' M) (h:fl (Ww ov s) fun s'=>WA P G (.region id l d) Q s' M):WA P G (.region id l d) Q s m:=by
 rw[cI] at h0 h;exact sF (kg h0) h
theorem ik{l:List Oper}{f:List Fp}(h:bf l f=true):bf l f=true:=h
theorem nn{p q:Prop}(h2:q)(h1:p:=by first|exact ik (by kernel_rfl)|rfl|omega|decide|(dsimp only;omega)|(simp at *;omega)):p/\q:=⟨h1,h2⟩
theorem ff{p:Prop}(h:p:=by (conv=>whnf);repeat (first|exact fa|((first|refine fb ?_|(refine And.intro ?_ ?_;rotate_left));conv=>whnf))):p:=h
theorem nx{ι:Type}{I:ι->Prop}{μ:ι->Nat}{i:ι}{K:ι->Prop}(j:ι)(hI:I j)(h:K j)(hm:μ j<μ i:=by dsimp only;omega):∃j,I j/\μ j<μ i/\K j:=⟨j,hI,hm,h⟩
end Go.Proofs.YtijddijloelacaaGreat.Am
namespace Go.Proofs.YtijddijloelacaaGreat.Am
variable [Inhabited cF]
open Go.RowKit (Below)
/-- A contract serves arguments that may be taken for its own. -/
theorem aa.fit{P:Program}{G:aK}{f:FuncId}{args qO:List A}{r:A}(h:aa P G f args r)(hf:eI (iI.jA 6 0 qO args)):aa P G f qO r:=by
 refine⟨h.1,?_⟩;intro im w vs pk hG hl hr;have hlen:=gn _ _ _ _ hf;refine h.2 im w vs pk hG (by omega) ?_;intro j h1 h2;have:=je (ids:=[]) (im:=im) (bL:=im) (w:=w) (fun _ h=>h) 6 0 _ _ _ (jd _ _ _ _ hf j (by omega) h1) (.aL (hr j (by omega) h2));exact Rel.uF (by simpa using this)
end Go.Proofs.YtijddijloelacaaGreat.Am
namespace Go.Proofs.YtijddijloelacaaGreat.Am
theorem Qa{i j:Inhabited cF}(h:(@default cF j).ns){n:Nat}{w w':World}(k : @Bw i n w w'): @Bw j n w w':=by
 cases k with
 | mk a b c d e f=>exact @Bw.mk j n w w' a b c d e (Or.inl h)
theorem v7{i j:Inhabited cF}{P:Program}{G:aK}{f:FuncId}{args:List A}{r:A}(h:(@default cF j).ns)(c : @aa i P G f args r): @aa j P G f args r:=by
 refine And.intro c.1 (fun im w vs h1 h2 h3 h4=>bD (c.2 im w vs h1 h2 h3 h4) ?_);rintro e w' ⟨v,k1,k2,k3⟩;exact⟨v,k1,k2,Qa h k3⟩
abbrev J9:Inhabited cF:=⟨⟨False⟩⟩
theorem tI{i j:Inhabited cF}{P:Program}{G:aK}{f:FuncId}{args:List A}{mi:List ar}{r:A}{mo:List ar}(h:(@default cF j).ns)(c : @aM i P G f args mi r mo): @aM j P G f args mi r mo:=by
 refine And.intro c.1 (fun im w vs gs ids hG hs=>bD (c.2 im w vs gs ids hG ?_) ?_)
 ·cases hs with
  | mk a b c d e f g h2 k l=>exact @aJ.mk i _ _ _ _ _ _ a b c d e f g (@Fr.refl i w im (iw ids) gs) k l
 ·rintro e w' ⟨v,ab,e1,bY⟩;refine⟨v,ab,e1,?_⟩;cases bY with
  | mk a b c d e f g h2 k l =>
   refine @aJ.mk j _ _ _ _ _ _ a b c d e f g ?_ k l;cases h2 with
   | mk o1 o2 o3 o4 o5 o6=>exact @Fr.mk j _ _ o1 o2 o3 o4 o5 (Or.inl h)
end Go.Proofs.YtijddijloelacaaGreat.Am

/-
  THE ENGINE, part 3: an abstract machine of symbolic values, each step proved sound.
-/
import Derived.Test.YtijddijloelacaaGreatGenStarsm2
import Derived.ProofKit
import Derived.LaidMore
import Derived.OpenShut
import Derived.Stop.Joined
import Derived.Orders
set_option linter.unusedSimpArgs false
set_option linter.unusedSectionVars false
set_option linter.unusedVariables false
namespace Go.Proofs.YtijddijloelacaaGreat.Am
variable [Inhabited bY]
open Go.RowKit (Below)
def Mr(tt:TT)(rv:ResultVar)(s:List A)(m:List aq)(K:A->Prop):Prop :=
 match rv with
 | .tmp t=>fd 3 (wk m 5 (s.getD t .ae)) K
 | .cell p t=>k9 tt t (s.getD p .ae) m fun v _=>fd 3 (wk m 5 v) K
def JK(tt:TT):List ResultVar->List A->List aq->(List A->Prop)->Prop
 | [],_,_,K=>K []
 | r::rs,s,m,K=>Mr tt r s m fun v=>JK tt rs s m fun vs=>K (v::vs)
def Ms(vs:List A)(r:A):Prop :=
 match vs with
 | [v]=>fL (jZ 6 0 v r)
 | vs=>fL (jZ 6 0 (.tup vs) r)
def Vw(tt:TT)(fn:Func)(r:A):Exit->List A->List aq->Prop
 | .ret,s,m=>JK tt fn.results.toList s m fun vs=>Ms vs r
 | .normal,s,m=>JK tt fn.results.toList s m fun vs=>Ms vs r
 | _,_,_=>False

def tE(tmps:Array Value):ResultVar->Sem Value
 | .tmp t=>pure (tmps.getD t undef)
 | .cell p t=>do loadVar t (<-asAddr (tmps.getD p undef))

section
variable {c:Ctx} {s:List A} {m:List aq} {a:Act} {w w':World} {ids ab:dp} {P:Program} {im bl:Nat->Prop} {tt:TT} {G:aG}

theorem vj(aJ:bo P tt)(hs:aF c s m a w ids){t:TypeId}{x:A}{v:Value}(hx:Rel ids (au c ids w) w x v){K:KT}(h:k9 tt t x m K):
  ∃ad r u,v=.pointer (some ad)/\(loadVar t ad).run P w=.ok u w/\K r m/\Rel ids (au c ids w) w r u:=by
 unfold k9 at h;split at h
 ·exact h.elim
 ·rename_i ti ht;split at h
  ·rename_i b off;split at h
   ·rename_i ty cs hb;obtain⟨p,bQ,hv⟩:=hs.wB hx (by rw[hb];simp);obtain⟨r,v,h1,h2,h3⟩:=iB (P:=P) aJ ht (base:=0) (hs.rz bQ hb) h;rw[Nat.zero_add] at h1;exact⟨_,r,v,hv,h1,h2,h3⟩
   ·exact h.elim
  ·rename_i b i off;split at h
   ·rename_i ty sz n row hb;obtain⟨p,bQ,hv⟩:=hs.kB hx (by rw[hb];simp);obtain⟨hi,h⟩:=h;rw[ck] at h;obtain⟨r,v,h1,h2,h3⟩:=iB (P:=P) aJ ht (hs.Dv bQ hb hi) h;exact⟨_,r,v,hv,h1,h2,h3⟩
   ·exact h.elim
  ·rename_i cs off;cases hx with
   | aH hx =>
    cases hx with
    | bref ao base _ _ vs hb hc Ss hr =>
     have bR:Sr ids (au c ids w) w cs ao base:=by
      refine⟨(List.range cs.length).map vs,by simp,?_,?_,?_⟩
      ·intro j hj;simp at hj;simpa using hc j hj
      ·intro v hv;simp at hv;obtain⟨j,hj,rfl⟩:=hv;exact Ss j hj
      ·intro j hj bW;simpa using Rel.aH (hr j hj)
     obtain⟨r,v,h1,h2,h3⟩:=iB (P:=P) aJ ht bR h;exact⟨_,r,v,rfl,h1,h2,h3⟩
  ·exact h.elim

theorem JL(aJ:bo P tt)(hs:aF c s m a w ids)(rv:ResultVar){K:A->Prop}(h:Mr tt rv s m K):
  ∃r v,(tE a.tmps rv).run P w=.ok v w/\K r/\aw (qh c ids w) w r v:=by
 cases rv with
 | tmp t =>
  simp only[Mr,dX] at h;exact⟨_,a.tmps.getD t undef,rfl,h,jv hs 5 _ _ (hs.ev (.tmp t))⟩
 | cell p t =>
  simp only[Mr,dX] at h;obtain⟨ad,r,u,h1,h2,h3,h4⟩:=vj (P:=P) aJ hs (hs.ev (.tmp p)) h;refine⟨_,u,?_,h3,jv hs 5 _ _ h4⟩;have h1:a.tmps.getD p undef=.pointer (some ad):=h1;show(do loadVar t (<-asAddr (a.tmps.getD p undef)):Sem Value).run P w=_;rw[h1];simp[asAddr,h2]

theorem zL(aJ:bo P tt)(hs:aF c s m a w ids):∀(rs:List ResultVar) {K:List A->Prop},JK tt rs s m K ->
  ∃(xs:List A) (vs:List Value),(rs.mapM (tE a.tmps)).run P w=.ok vs w/\K xs /\
   vs.length=xs.length/\∀j (h:j<xs.length) (h':j<vs.length),aw (qh c ids w) w xs[j] vs[j]
 | [],K,h=>⟨[],[],by simp,h,rfl,fun j h=>absurd h (Nat.not_lt_zero _)⟩
 | rv::rs,K,h=>by
  obtain⟨r,v,h1,h2,h3⟩:=JL (P:=P) aJ hs rv h;obtain⟨xs,vs,g1,g2,g3,g4⟩:=zL aJ hs rs h2;refine⟨r::xs,v::vs,?_,g2,by simp[g3],?_⟩
  ·rw[List.mapM_cons];simp only[Sem.run_bind,h1,Result.andThen_ok,g1];rfl
  ·intro j hj bW;cases j with
   | zero=>exact h3
   | succ j=>exact g4 j (by simpa using hj) (by simpa using bW)

theorem BV(fn:Func)(tmps:Array Value):results fn tmps=(do let vs <-fn.results.mapM (tE tmps);pure (if h:vs.size=1 then vs[0] else .tuple vs)):=by
 unfold results
 have:∀f g:ResultVar->Sem Value,f=g->(do let vs <-fn.results.mapM f;pure (if h:vs.size=1 then vs[0] else .tuple vs))=(do let vs <-fn.results.mapM g;pure (if h:vs.size=1 then vs[0] else .tuple vs)):=by
  rintro f _ rfl;rfl
 apply this
 funext x;cases x<;>rfl
theorem qo{fn:Func}{vs:List Value}(h:(fn.results.toList.mapM (tE a.tmps)).run P w=.ok vs w):
  (results fn a.tmps).run P w=.ok (if h:vs.toArray.size=1 then vs.toArray[0] else .tuple vs.toArray) w:=by
 rw[BV]
 have e:(fn.results.mapM (tE a.tmps)).run P w=.ok vs.toArray w:=by
  rw[Array.mapM_eq_mapM_toList,map_eq_pure_bind];simp only[Sem.run_bind,h,Result.andThen_ok];rfl
 simp only[Sem.run_bind,e,Result.andThen_ok];rfl

theorem vk(aJ:bo P tt)(hs:aF c s m a w ids){fn:Func}{r:A}(h:JK tt fn.results.toList s m fun vs=>Ms vs r):
  ∃v,(results fn a.tmps).run P w=.ok v w/\aw (fun b=>c.QC b\/(c.new b/\b<w.heap.size)) w r v:=by
 obtain⟨xs,vs,h1,h2,h3,h4⟩:=zL (P:=P) aJ hs _ h;refine⟨_,qo h1,?_⟩
 have hi:∀b,qh c ids w b->c.QC b\/(c.new b/\b<w.heap.size):=by
  rintro b ((h|⟨q1,q2,_⟩)|⟨p,hp,hx⟩)
  ·exact .inl h
  ·exact .inr ⟨q1,q2⟩
  ·exact .inr (hs.ar p hp b hx)
 have fin:∀x v,fL (jZ 6 0 x r)->aw (qh c ids w) w x v->aw (fun b=>c.QC b\/(c.new b/\b<w.heap.size)) w r v:=by
  intro x v hf hr;have:=gW (ids:=[]) (n:=0) hi 6 x r v hf (.aH hr);exact this.rE
 unfold Ms at h2;split at h2
 ·rename_i x;have:vs.length=1:=by simpa using h3
  match vs,this with
  | [v],_=>exact fin x v h2 (h4 0 (by simp) (by simp))
 ·rename_i hne
  have hne:¬vs.length=1:=by
   intro e;rw[e] at h3
   match xs,h3 with
   | [x],_=>exact hne x rfl
  rw[dif_neg (by simpa using hne)];exact fin _ _ h2 (.tup xs vs h3 h4)

theorem aa.aj(aJ:bo P tt){f:FuncId}{fn:Func}{cd:Code}{args:List A}{r:A}(hf:P.funcs[f]?=some fn)(hb:fn.body=some cd)
  (hn : (fn.name == "runtime.NumGoroutine") = false) (k : Nat) (hk : fn.ntmps - args.length = k)
  (h:fl (args++List.replicate k .ae) fun s=>WA P G cd (Vw tt fn r) s []):aa P G f args r:=by
 rw[ck] at h;refine⟨⟨fn,cd,hf,hb,hn⟩,?_⟩;intro im w vs uc hG hl hr;refine calls_of_wp hf hb ?_;unfold WA at h
 have uo:aF ⟨w,im,fun _=>False,[]⟩ (args++List.replicate k .ae) [] ⟨vs.toArray++Array.replicate (fn.ntmps-vs.toArray.size) undef,[]⟩ w []:=by
  refine⟨rfl,by simp[hl,hk],?_,rfl,fun b h=>absurd h (Nat.not_lt_zero _),(fun b b' p q x h=>by simp at h),(fun p h=>by cases h),Fr.refl _ _ _ _,fun b hb=>⟨uc b hb,fun h=>h⟩,(fun vs h=>by cases h)⟩;intro i h1 h2;by_cases hi:i<args.length
  ·rw[List.getElem_append_left hi,Array.getElem_append_left (by simp;omega)];have:=hr i hi (by omega);exact .aH (by simpa using this.up (fun b hb=>.inl hb))
  ·rw[List.getElem_append_right (by omega)];simp only[List.getElem_replicate];exact .aH (.ae _)
 have lh:∀(w':World) (b:Nat),im b\/(Ctx.new ⟨w,im,fun _=>False,[]⟩ b/\b<w'.heap.size)->im b\/(w.heap.size<=b/\b<w'.heap.size):=by
  rintro w' b (h|⟨h|h,h2⟩)
  ·exact .inl h
  ·exact .inr ⟨h,h2⟩
  ·exact h.elim
 refine wp_mono (h ⟨w,im,fun _=>False,[]⟩ _ w [] ⟨hG,fun _ h=>h.elim⟩ uo) ?_;rintro e a' w' ⟨s',m',ab,hq,bH⟩;cases e with
 | ret =>
  obtain⟨v,h1,h2⟩:=vk (P:=P) aJ bH hq;exact⟨bH.defers,v,h1,v,rfl,h2.up (lh w'),bH.frame.below fun _ h=>h⟩
 | normal =>
  obtain⟨v,h1,h2⟩:=vk (P:=P) aJ bH hq;exact⟨bH.defers,v,h1,v,rfl,h2.up (lh w'),bH.frame.below fun _ h=>h⟩
 | _=>exact hq.elim

def writes:Code->List Nat
 | .region _ ops _=>ops.toList.filterMap (·.dst)
 | .seq x y=>writes x++writes y
 | .cond _ x y=>writes x++writes y
 | .block _ x=>writes x
 | .loop x=>writes x
 | _=>[]
def BW(i:Nat):List Nat->Bool
 | []=>false
 | j::js=>match Nat.beq i j with
  | true=>true
  | false=>BW i js
def jk(ws:List Nat):Nat->List A->List A
 | _,[]=>[]
 | i,x::xs=>(match BW i ws with|true=>.ae|false=>x)::jk ws (i+1) xs
def TU:List (Nat×A)->List A->List A
 | [],s=>s
 | (i,v)::l,s=>TU l (s.set i v)
def tF(body:Code)(s:List A)(ov:List (Nat×A)):List A:=TU ov (jk (writes body) 0 s)
def P8{ι:Type}(body:Code)(s0:List A)(ov:ι->List (Nat×A))(M:ι->List aq)(μ:ι->Nat)(i:ι)(Q:Exit->List A->List aq->Prop):Exit->List A->List aq->Prop
 | .normal,s,m=>∃j,μ j<μ i/\fl (tF body s0 (ov j)) fun s'=>rT s m s' (M j)
 | e,s,m=>Q e s m
theorem JM{Q:Exit->List A->List aq->Prop}{ι:Type}{body:Code}(ov:ι->List (Nat×A))(M:ι->List aq)(μ:ι->Nat)(i0:ι)
  (h0:fl (tF body s (ov i0)) fun s'=>rT s m s' (M i0))
  (hr:∀i,fl (tF body s (ov i)) fun s'=>WA P G body (P8 body s ov M μ i Q) s' (M i)):WA P G (.loop body) Q s m:=by
 rw[ck] at h0;refine Mo (fun i=>tF body s (ov i)) M μ i0 (kO h0) ?_;intro i;have:=hr i;rw[ck] at this;refine DQ this ?_;intro e s' m' hq;cases e with
 | normal =>
  obtain⟨j,h1,h2⟩:=hq;rw[ck] at h2;exact⟨j,h1,kO h2⟩
 | _=>exact hq

def P9{ι:Type}(body:Code)(s0:List A)(I:ι->Prop)(ov:ι->List (Nat×A))(M:ι->List aq)(μ:ι->Nat)(i:ι)(Q:Exit->List A->List aq->Prop):Exit->List A->List aq->Prop
 | .normal,s,m=>∃j,I j/\μ j<μ i/\fl (tF body s0 (ov j)) fun s'=>rT s m s' (M j)
 | e,s,m=>Q e s m
/-- A loop whose rounds are told by an index that keeps a law. -/
theorem al{Q:Exit->List A->List aq->Prop}{ι:Type}{body:Code}(I:ι->Prop)(ov:ι->List (Nat×A))(M:ι->List aq)(μ:ι->Nat)(i0:ι)(hI:I i0)
  (h0:fl (tF body s (ov i0)) fun s'=>rT s m s' (M i0))
  (hr:∀i,I i->fl (tF body s (ov i)) fun s'=>WA P G body (P9 body s I ov M μ i Q) s' (M i)):WA P G (.loop body) Q s m:=by
 refine JM (ι:={i:ι//I i}) (fun i=>ov i.1) (fun i=>M i.1) (fun i=>μ i.1) ⟨i0,hI⟩ h0 ?_;rintro⟨i,hi⟩;have:=hr i hi;rw[ck] at this ⊢;refine DQ this ?_;intro e s' m' hq;cases e with
 | normal =>
  obtain⟨j,h1,h2,h3⟩:=hq;exact⟨⟨j,h1⟩,h2,h3⟩
 | _=>exact hq

/-- A slot that holds a nil slice holds a row of ours that has no place yet. -/
theorem gw{Q:Exit->List A->List aq->Prop}{code:Code}(k:Nat)(ty:TypeId)(sz:Nat)(hk:s[k]?=some .aR)
  (h:dj m.length fun n=>wD s k (.own n) fun s'=>kZ m (.row ty sz 0 fun _=>[]) fun _ m'=>WA P G code Q s' m'):WA P G code Q s m:=by
 rw[aN,kD,eQ] at h;unfold WA at h ⊢;intro c a w ids hG hs
 have J7:=hs.grow (Bw.refl _ w) [.row ty sz 0 fun _=>[]] [.aP] rfl (fun i h1 h2=>by
   have:i=0:=by simp at h1;omega
   subst this;exact rfl) (fun p h=>by simp at h) (fun vs h=>by simp at h) (fun i j p q x h1=>by
   cases i with
   | zero=>simp at h1
   | succ i=>simp at h1)
 have aI:k<s.length:=by
  rcases Nat.lt_or_ge k s.length with h'|h'
  ·exact h'
  ·rw[List.getElem?_eq_none h'] at hk;cases hk
 have hv:=hs.bE k aI (by rw[hs.len];exact aI);have Vx:s[k]=.aR:=by rw[List.getElem?_eq_getElem aI] at hk;exact Option.some.inj hk
 rw[Vx] at hv
 have j7:=J7.BU k (x:=.own m.length) (by
  rw[Array.getD_eq_getD_getElem?,Array.getElem?_eq_getElem (by rw[hs.len];exact aI)];simp only[Option.getD_some];rw[hv.df];exact .fH _ (by rw[<-hs.aK];simp))
 exact h c a w _ hG j7
end
end Go.Proofs.YtijddijloelacaaGreat.Am
namespace Go.Proofs.YtijddijloelacaaGreat.Am
variable [Inhabited bY]
open Go.RowKit Go.ChangeShapes
section
variable {H:Type} {enc:TypeId × Value->H} {P:Program}
/-- Each argument reads behind the call as it read before. -/
theorem mT(hl:laidOutB P=true){W W':World}(hb:Below W.heap.size W W'):∀(ts:List TypeId) (vs:List Value) (ds:List (DataW H)) (ps:List MemPlace),
  ts.all (fun t=>P.readableRec t&&decide (t<P.types.size))=true->DataW.TrodAll enc P W 0 (fun _=>true) true ts vs ds ps->(∀x∈ps,x.block<W.heap.size) ->
  DataW.TrodAll enc P W' 0 (fun b=>decide (b<W.heap.size)) true ts vs ds ps
 | [],vs,ds,ps,_,h,_=>by
  obtain⟨rfl,rfl,rfl⟩:=trodAll_nil h;rfl
 | t::ts,vs,ds,ps,Qa,h,aI=>by
  obtain⟨v,du,d,YJ,p,q,rfl,rfl,rfl,h1,h2⟩:=trodAll_cons h;simp only[List.all_cons,Bool.and_eq_true,decide_eq_true_eq] at Qa;exact⟨p,q,Below.trod hl Qa.1.1 Qa.1.2 h1 hb (fun x hx=>aI x (List.mem_append_left _ hx)),mT hl hb ts du YJ q Qa.2 h2 (fun x hx=>aI x (List.mem_append_right _ hx)),rfl⟩

/-- A law that returned true, in a world that is as it was below the heap's old size. -/
theorem D3{f:Func}{s:ChangeSpec}{apart fresh handsOn:Bool}{W W':World}{args:Array Value}{ds gs:List (DataW H)}{before:List MemPlace}{tb:TypeId}
  (hl:laidOutB P=true) (hv:s.vars=[]) (hr:f.resultTypes = #[tb]) (YK:P.underlying tb=some .bool)
  (Qa:f.params.toList.all (fun t=>P.readableRec t&&decide (t<P.types.size))=true)
  (hfn:s.fn H (ds++gs)={ results:=[.lit (.bool true)],args:=ds })
  (hW:DataW.Whole enc P f.params.toList s.vars apart W args.toList ds gs before) (hb:Below W.heap.size W W') :
  s.post enc P f apart fresh handsOn false W args (.bool true) W':=by
 have QL:=hW;obtain⟨p,q,hA,hV,rfl,hz,hn⟩:=hW;rw[hv] at hV;obtain⟨rfl,rfl⟩:=trodVars_none hV;refine⟨ds,[],p++[],[],p,[],QL,?_,?_,?_,hb.frame _,fun h=>by cases h⟩
 ·rw[hfn,hr];exact trodAll_mk1 (shut_bool YK _)
 ·rw[hfn];exact mT hl hb _ _ _ _ Qa hA (fun x hx=>QL.lt x (by simpa using hx))
 ·rw[hfn,hv];rfl
end

/-- From a contract to a call. -/
theorem Av{P:Program}{G:aG}{f:FuncId}{as:List A}(h:aa P G f as (.sb true)){W:World}{vs:List Value}{im:Nat->Prop}(uc:∀b,im b->b<W.heap.size)(hG:G.G W)(hl:vs.length=as.length)
  (hr:∀j (h:j<as.length) (h':j<vs.length),aw im W as[j] vs[j]):Calls P f vs.toArray W fun e W'=>e=.returned (.bool true)/\Below W.heap.size W W':=by
 refine bg (h.2 im W vs uc hG hl hr) ?_;rintro e W' ⟨v,rfl,hv,hb⟩;cases hv;exact⟨rfl,hb.below⟩
end Go.Proofs.YtijddijloelacaaGreat.Am
namespace Go.Proofs.YtijddijloelacaaGreat.Am
variable [Inhabited bY]
open Go.RowKit (Below)
/-- A continuation's argument is one value, whatever is asked of it. -/
def DM(F:(A->Prop)->Prop):Prop:=∀K,F K↔∃v,K v/\F (fun v'=>v'=v)
theorem DM.val(e:A):DM (fun K=>K e):=fun K=>by simp
theorem DM.cH:DM (fun _=>False):=fun K=>by simp
theorem DM.and{c:Prop}{F:(A->Prop)->Prop}(h:DM F):DM (fun K=>c/\F K):=fun K=>by
 constructor
 ·rintro⟨hc,hF⟩;obtain⟨v,h1,h2⟩:=(h K).1 hF;exact⟨v,h1,hc,h2⟩
 ·rintro⟨v,h1,hc,h2⟩;exact⟨hc,(h K).2 ⟨v,h1,h2⟩⟩
theorem DM.two{b:Bool}{F F':(A->Prop)->Prop}(h:DM F)(h':DM F'):DM (fun K=>(b=true->F K)/\(b=false->F' K)):=fun K=>by
 cases b
 ·simpa using h' K
 ·simpa using h K
theorem DM.ex{α:Type}{p:α->Prop}{F:α->(A->Prop)->Prop}(h:∀r,DM (F r)):DM (fun K=>∃r,p r/\F r K):=fun K=>by
 constructor
 ·rintro⟨r,hp,hF⟩;obtain⟨v,h1,h2⟩:=(h r K).1 hF;exact⟨v,h1,r,hp,h2⟩
 ·rintro⟨v,h1,r,hp,h2⟩;exact⟨r,hp,(h r K).2 ⟨v,h1,h2⟩⟩
theorem tG(agg:Bool)(size:Nat)(cs:List A)(off:Nat):DM (I4 agg size cs off):=by
 unfold I4;cases agg
 ·cases Nat.blt off cs.length
  ·exact DM.cH
  ·simp only[db];exact DM.val _
 ·cases Nat.ble (off+size) cs.length
  ·exact DM.cH
  ·simp only[ck];exact DM.val _
theorem JN(tt:TT)(t:TypeId)(p:A)(m:List aq):DM (fun K=>k9 tt t p m fun v _=>K v):=by
 unfold k9;cases tt.lookup t with
 | none=>exact DM.cH
 | some ti =>
  cases p<;>simp only<;>first|exact DM.cH|skip
  case ref b off=>cases m.getD b .dead<;>simp only<;>first|exact DM.cH|exact tG _ _ _ _
  case oref b i off =>
   cases m.getD b .dead<;>simp only<;>first|exact DM.cH|skip
   simp only[ck];exact DM.and (tG _ _ _ _)
  case bref cs off=>exact tG _ _ _ _
theorem JO(x y z:A):DM (zc x y z):=by
 unfold zc;split
 ·simp only[db];exact DM.val _
 ·simp only[db];exact DM.val _
 ·simp only[db];exact DM.two (DM.val _) (DM.val _)
 ·exact DM.cH
theorem zM(k:IntKind)(n:Int):DM (WR k n):=by
 intro K;constructor
 ·intro h;exact⟨_,lM h,by unfold WR;exact .inr rfl⟩
 ·rintro⟨v,h1,h2⟩;unfold WR at h2 ⊢;rcases h2 with⟨h2,h3⟩|h3
  ·subst h3;exact .inl ⟨h2,h1⟩
  ·subst h3;exact .inr h1
theorem BX(op:BinOp)(k:IntKind)(a b:Int):DM (oa op k a b):=by
 unfold oa;cases op<;>simp only<;>first|exact DM.cH|exact DM.val _|exact zM _ _|exact DM.and (zM _ _)|exact DM.and (DM.val _)
theorem BY(op:BinOp)(a b:List UInt8):DM (od op a b):=by
 unfold od;cases op<;>simp only<;>first|exact DM.cH|exact DM.val _|exact DM.and (DM.val _)
theorem Fi(op:BinOp)(k:IntKind)(a b:Int):DM (s9 op k a b):=by
 unfold s9;cases op<;>simp only<;>first|exact DM.cH|exact DM.val _|exact DM.and (zM _ _)|exact DM.and (DM.val _)
theorem BZ:∀(sh:List Nat) (cs dc:List A) (g:Bool->A),DM (fun K=>xw sh cs dc fun r=>K (g r))
 | [],[],[],g=>by unfold xw;exact DM.val _
 | k::ks,x::xs,y::ys,g=>by
  have ih:=fun g=>BZ ks xs ys g;unfold xw;split
  ·cases x<;>cases y<;>simp only<;>first|exact DM.cH|skip
   rename_i p a q b;cases lN p q<;>simp only
   ·exact DM.cH
   ·exact ih fun r=>g (a==b&&r)
  ·cases Nh x<;>cases Nh y<;>simp only<;>first|exact DM.cH|skip
   rename_i a b;exact ih fun r=>g (a==b&&r)
  ·cases x<;>cases y<;>simp only<;>first|exact DM.cH|skip
   rename_i a b;exact ih fun r=>g (a==b&&r)
  ·exact DM.cH
 | [],[],_::_,_=>by unfold xw;exact DM.cH
 | [],_::_,_,_=>by unfold xw;exact DM.cH
 | _::_,[],_,_=>by unfold xw;exact DM.cH
 | _::_,_::_,[],_=>by unfold xw;exact DM.cH
theorem Qb(op:UnOp)(x:A):DM (Sq op x):=by
 unfold Sq;cases op<;>cases x<;>simp only<;>first|exact DM.cH|exact DM.val _|exact zM _ _
theorem Mu(tt:TT)(t:TypeId)(x:A)(m:List aq):DM (za tt t x m):=by
 unfold za;cases tt.lookup t with
 | none=>exact DM.cH
 | some ti =>
  simp only;split<;>first|exact DM.cH|exact DM.val _|skip
  split<;>first|exact DM.cH|exact DM.val _
theorem zN(x:A)(ix:Nat):DM (lO x ix):=by
 unfold lO;cases x<;>simp only<;>first|exact DM.cH|skip
 rename_i vs;cases Nat.blt ix vs.length<;>simp only[db]<;>first|exact DM.cH|exact DM.val _
theorem Mv(x:A):DM (I6 x):=by
 unfold I6;cases x<;>simp only<;>first|exact DM.cH|exact DM.val _
theorem JP(tt:TT)(src dst:TypeId)(x:A):DM (uX tt src dst x):=by
 unfold uX;split<;>first|exact DM.cH|skip
 split<;>first|exact DM.cH|exact DM.val _|(simp only[I7];exact zM _ _)
theorem Fj(tt:TT)(t:TypeId)(x ix:A):DM (ta tt t x ix):=by
 unfold ta;split<;>first|exact DM.cH|skip
 split<;>first|exact DM.cH|exact DM.and (DM.val _)|skip
 split<;>first|exact DM.cH|exact DM.and (tG _ _ _ _)
theorem Fk(tt:TT)(t:TypeId)(x:A)(f:Nat):DM (tc tt t x f):=by
 unfold tc;split<;>first|exact DM.cH|skip
 split<;>first|exact DM.cH|skip
 split<;>first|exact DM.cH|exact tG _ _ _ _
theorem w9{x:Option A}{d y:Nat}{F:Nat->(A->Prop)->Prop}(h:∀n,DM (F n)):DM (fun K=>vW x d y fun n=>F n K):=by
 unfold vW;split
 ·exact h _
 ·split<;>first|exact DM.cH|exact DM.and (h _)
theorem vl(tt:TT)(t:TypeId)(x:A)(lo hi:Option A):DM (tg tt t x lo hi):=by
 unfold tg;split<;>first|exact DM.cH|skip
 split<;>first|exact DM.cH|exact w9 fun _=>w9 fun _=>DM.val _|skip
 split<;>first|exact DM.cH|exact w9 fun _=>w9 fun _=>DM.val _
theorem Mw(tt:TT)(t:TypeId)(op:BinOp)(x y:A):DM (I5 tt t op x y):=by
 unfold I5;split
 ·split
  ·exact Fi _ _ _ _
  ·split
   ·exact BX _ _ _ _
   ·exact DM.cH
 ·exact BY _ _ _
 ·split
  ·split
   ·exact BZ _ _ _ _
   ·exact BZ _ _ _ (fun r=>.sb !r)
   ·exact DM.cH
  ·exact DM.cH
 ·split
  ·split
   ·split<;>first|exact DM.cH|exact DM.val _
   ·exact DM.cH
  ·split
   ·split<;>first|exact DM.cH|exact DM.val _
   ·exact DM.cH
theorem JQ:∀(ys:List A) (x:A),DM (Je x ys)
 | [],x=>by
  have:Je x []=fun K=>K x:=by funext K;simp only[Je,db]
  rw[this];exact DM.val _
 | y::ys,x=>by
  have:Je x (y::ys)=fun K=>TB x y fun v=>Je v ys K:=by funext K;simp only[Je]
  rw[this];unfold TB;cases x<;>cases y<;>simp only<;>first|exact DM.cH|exact JQ ys _
theorem JR:∀(ys:List A) (x:A),DM (Jf x ys)
 | [],x=>by
  have:Jf x []=fun K=>K x:=by funext K;simp only[Jf,db]
  rw[this];exact DM.val _
 | y::ys,x=>by
  have:Jf x (y::ys)=fun K=>TC x y fun v=>Jf v ys K:=by funext K;simp only[Jf]
  rw[this];unfold TC;cases x<;>cases y<;>simp only<;>first|exact DM.cH|exact JR ys _
theorem DR(ti:TI):∀(ps:List (Nat×A)) (cs:List A),DM (fun K=>nc ti ps cs fun cs=>K (.agg cs))
 | [],cs=>by unfold nc;exact DM.val _
 | (i,v)::ps,cs=>by
  unfold nc;split<;>first|exact DM.cH|skip
  split<;>first|exact DM.cH|skip
  simp only[ck];exact DR ti ps _
theorem Fm(tt:TT)(t:TypeId)(ps:List (Nat×A))(m:List aq):DM (fun K=>po tt t ps m fun v _=>K v):=by
 unfold po;cases tt.lookup t with
 | none=>exact DM.cH
 | some ti =>
  simp only;split<;>first|exact DM.cH|exact DR ti _ _
theorem uu(tt:TT)(t:TypeId)(p:A)(f:Nat)(m:List aq):DM (fun K=>gC tt t p f m fun v _=>K v):=by
 unfold gC;cases tt.lookup t with
 | none=>exact DM.cH
 | some ti =>
  simp only;split<;>first|exact DM.cH|skip
  split<;>first|exact DM.cH|skip
  split<;>first|exact DM.cH|(simp only[aN];exact DM.val _)
theorem uz(tt:TT)(t:TypeId)(p ix:A)(m:List aq):DM (fun K=>dV tt t p ix m fun v _=>K v):=by
 unfold dV;cases tt.lookup t with
 | none=>exact DM.cH
 | some ti =>
  simp only;split
  ·split
   ·split
    ·simp only[ck];exact DM.and (DM.val _)
    ·exact DM.cH
   ·split
    ·split
     ·exact DM.and (DM.val _)
     ·exact DM.cH
    ·exact DM.cH
   ·exact DM.cH
  ·split
   ·simp only[aN];exact DM.and (DM.val _)
   ·simp only[aN];exact DM.and (DM.val _)
   ·exact DM.cH
  ·exact DM.cH
structure Oc where
 v:A
 u:List (Nat×aq)
 rd:List Nat
abbrev KV:=A->List (Nat×aq)->List Nat->Prop
def gr(m:List aq):List (Nat×aq)->List aq
 | []=>m
 | (b,x)::l=>(gr m l).set b x
def Fo(m:List aq):List (Nat×aq)->(List aq->Prop)->Prop
 | [],K=>K m
 | (b,x)::l,K=>Fo m l fun m'=>pn m' b x K
theorem DS(m:List aq):∀(u:List (Nat×aq)) (K:List aq->Prop),Fo m u K=K (gr m u)
 | [],K=>rfl
 | (b,x)::l,K=>by rw[Fo,DS m l,eC];rfl

/-- The blocks that are read through a value; none: it may not be said. -/
def tH(g:A->Option (List Nat)):List A->Option (List Nat)
 | []=>some []
 | x::xs=>match g x,tH g xs with
  | some l,some r=>some (l++r)
  | _,_=>none
def kv(m:List aq):Nat->A->Option (List Nat)
 | 0,_=>none
 | d+1,x=>match x with
  | .ref b _=>match m.getD b .dead with
   | .box _ cs=>match tH (kv m d) cs with
    | some l=>some (b::l)
    | none=>none
   | _=>none
  | .oref _ _ _=>none
  | .own b=>match m.getD b .dead with
   | .row _ _ _ _=>some [b]
   | _=>none
  | .omap b=>match m.getD b .dead with
   | .ez _ _ _ _=>some [b]
   | _=>none
  | .agg cs=>tH (kv m d) cs
  | .tup cs=>tH (kv m d) cs
  | .fn _ cs=>tH (kv m d) cs
  | _=>some []
def DT:A->List Nat
 | .ref b _=>[b]
 | .oref b _ _=>[b]
 | .own b=>[b]
 | .mF b _=>[b]
 | _=>[]
def quiet:Op->Bool
 | .move _=>true
 | .assign _=>true
 | .pick _ _ _=>true
 | .build _ _=>true
 | .load _ _=>true
 | .nilCheck _=>true
 | .binOp _ _ _ _ _=>true
 | .unOp _ _ _=>true
 | .convert _ _ _=>true
 | .makeFunc _ _ _=>true
 | .fieldAddr _ _ _=>true
 | .indexAddr _ _ _=>true
 | .index _ _ _=>true
 | .field _ _ _=>true
 | .extract _ _=>true
 | .slice _ _ _ _ none=>true
 | .call { callee:=.builtin .len,.. }=>true
 | .call { callee:=.builtin .min,.. }=>true
 | .call { callee:=.builtin .max,.. }=>true
 | .call { callee:=.value _,.. }=>true
 | _=>false
def xa(m:List aq)(f:A)(as:List A):Option (List Nat) :=
 match f with
 | .fn _ cap=>tH (kv m 5) (as++cap)
 | _=>none
def tI(o:Op)(s:List A)(m:List aq):Option (List Nat) :=
 match o with
 | .load _ x=>some (DT (ev s x))
 | .indexAddr _ x _=>some (DT (ev s x))
 | .call { callee:=.builtin .len,args,.. }=>match args.toList with
  | [x]=>some (DT (ev s x))
  | _=>none
 | .call { callee:=.value f,args,.. }=>xa m (ev s f) (args.toList.map (ev s))
 | _=>some []
/-- A place that is kept for a new block. -/
def dZ(m:List aq)(az:Nat)(X:Prop):Prop :=
 match m.getD az .dead,Nat.blt az m.length with
 | .dead,true=>X
 | _,_=>False
def gv(P:Program)(G:aG)(tt:TT)(o:Oper)(s:List A)(m:List aq)(K:KV):Prop :=
 match quiet o.op,tI o.op s m with
 | true,some rd=>step P G tt o s m fun v _=>K v [] rd
 | _,_=>False
def xb(tt:TT)(t:TypeId)(az:Nat)(m:List aq)(K:KV):Prop :=
 match tt.lookup t with
 | some ti=>dZ m az (K (.ref az 0) [(az,.box t ti.zero)] [az])
 | none=>False
def Mx(t:TypeId)(x:A)(az:Nat)(m:List aq)(K:KV):Prop :=
 match kE x with
 | some cs=>dZ m az (K (.ref az 0) [(az,.box t cs)] [az])
 | none=>False
/-- Of slices: a row of them is a value from the start. -/
def Nx:List A->Bool
 | []=>false
 | .sl _ _ _::_=>true
 | _::cs=>Nx cs
def oA(tt:TT)(t:TypeId)(len:Nat)(ps:List (Nat×A))(az:Nat)(m:List aq)(K:KV):Prop :=
 match tt.lookup t with
 | some ti=>match ti.kind,tt.lookup ti.aM,Nat.ble (len*ti.br) 1000000 with
  | 3,some te,true=>nc ti ps (Fc te.zero len) fun cs=>match cs.any (cE 4),Nat.beq cs.length (len*ti.br) with
   | false,true=>match Nx cs with
    | false=>dZ m az (dj ti.aM fun aM=>dj ti.br fun br=>K (.own az) [(az,.row aM br len fun i=>fT br (cs.drop (i*br)))] [az])
    | true=>dj ti.br fun br=>K (.sl len br fun i=>fT br (cs.drop (i*br))) [] []
   | _,_=>False
  | _,_,_=>False
 | none=>False
def DU(tt:TT)(t:TypeId)(l k:A)(az:Nat)(m:List aq)(K:KV):Prop :=
 match tt.lookup t,l,k with
 | some ti,.int _ l,.int _ k=>match ti.kind,tt.lookup ti.aM with
  | 3,some te=>dj ti.dS fun eb=>dj ti.aM fun aM=>dj ti.br fun br=>fl te.zero fun z=>(0<=l/\l<=k/\k<=140737488355328/\k*(eb:Int)<=140737488355328)/\dZ m az (K (.own az) [(az,.row aM br l.toNat fun _=>z)] [az])
  | _,_=>False
 | _,_,_=>False
def B0(tt:TT)(t:TypeId)(x y:A)(az:Nat)(m:List aq)(K:KV):Prop :=
 match tt.lookup t with
 | none=>False
 | some ti=>match ti.kind,zn m ti.br y with
  | 3,some (n2,iy)=>match x with
   | .own b=>match m.getD b .dead with
    | .row ty sz n row=>match Nat.beq sz ti.br,Nat.beq ty ti.aM with
     | true,true=>dj ti.dS fun eb=>(n+n2<=140737488355328/\(n+n2)*eb<=140737488355328)/\dZ m az (K (.own az) [(az,.row ty sz (n+n2) (bN n row iy)),(b,.gone)] (az::b::DT y))
     | _,_=>False
    | _=>False
   | _=>False
  | _,_=>False
def vm(tt:TT)(t:TypeId)(b i off:Nat)(ty aM:TypeId)(sz n:Nat)(hole:Option Nat)(len:Nat->Nat)(row:Nat->Nat->List A)(az:Nat)(m:List aq)(K:KV):Prop :=
 match tt.lookup t with
 | none=>False
 | some ti=>match ti.kind,Nat.beq ti.aM aM,Nat.beq ti.br sz,hole,off with
  | 3,true,true,none,0=>i<n/\dZ m az (K (.own az) [(az,.row aM sz (len i) (row i)),(b,.nest ty aM sz n (some i) len row)] [az,b])
  | _,_,_,_,_=>False
def vn(P:Program)(G:aG)(tt:TT)(o:Oper)(t:TypeId)(x:A)(az:Nat)(s:List A)(m:List aq)(K:KV):Prop :=
 match x with
 | .oref b i off=>match m.getD b .dead with
  | .nest ty aM sz n hole len row=>vm tt t b i off ty aM sz n hole len row az m K
  | _=>gv P G tt o s m K
 | _=>gv P G tt o s m K
def Fq(P:Program)(G:aG)(tt:TT)(o:Oper)(t:TypeId)(x i:A)(s:List A)(m:List aq)(K:KV):Prop :=
 match x with
 | .own b=>match m.getD b .dead with
  | .nest _ _ _ n _ _ _=>match tt.lookup t,i with
   | some ti,.int _ ix=>match ti.kind,Nat.beq ti.br 1 with
    | 3,true=>(0<=ix/\ix<(n:Int))/\K (.oref b ix.toNat 0) [] [b]
    | _,_=>False
   | _,_=>False
  | _=>gv P G tt o s m K
 | _=>gv P G tt o s m K
def Fs(tt:TT)(t:TypeId)(b i off:Nat)(y:A)(ty aM:TypeId)(sz n:Nat)(hole:Option Nat)(len:Nat->Nat)(row:Nat->Nat->List A)(m:List aq)(K:KV):Prop :=
 match off,y,tt.lookup t,hole with
 | 0,.own b',some ti,some j=>match Nat.beq ti.size 1,m.getD b' .dead,Nat.beq b b' with
  | true,.row um qQ n' dr,false=>match Nat.beq um aM,Nat.beq qQ sz with
   | true,true=>(i=j/\i<n)/\K .ae [(b',.gone),(b,.nest ty aM sz n none (gz len j n') (gz row j dr))] [b',b]
   | _,_=>False
  | _,_,_=>False
 | _,_,_,_=>False
def pG(tt:TT)(t:TypeId)(x y:A)(m:List aq)(K:KV):Prop :=
 match tt.lookup t,x with
 | some ti,.ref b off=>match m.getD b .dead with
  | .box ty cs=>Kd ti.size cs off y fun dc=>K .ae [(b,.box ty dc)] [b]
  | _=>False
 | some ti,.oref b i off=>match m.getD b .dead with
  | .row ty sz n row=>match cE 4 y with
   | false=>i<n/\fl (row i) fun cs=>Kd ti.size cs off y fun dc=>K .ae [(b,.row ty sz n (ju row i dc))] [b]
   | true=>False
  | .nest ty aM sz n hole len row=>Fs tt t b i off y ty aM sz n hole len row m K
  | _=>False
 | _,_=>False
def nw:Nat->Nat->List Nat
 | 0,_=>[]
 | n+1,k=>k::nw n (k+1)
def My:Nat->List aq->List (Nat×aq)
 | _,[]=>[]
 | k,x::xs=>(k,x)::My (k+1) xs
def qp(m:List aq):Nat->List aq->Prop->Prop
 | _,[],X=>X
 | k,_::xs,X=>dZ m k (qp m (k+1) xs X)
def tJ(P:Program)(G:aG)(f:A)(args:List A)(az:Nat)(m:List aq)(K:KV):Prop :=
 tw P G f args az fun r' iC=>qp m az iC (K r' (My az iC) (nw iC.length az))
def Vy:A->List Nat
 | .omap b=>[b]
 | _=>[]
def vo(tt:TT)(t:TypeId)(x key:A)(ok:Bool)(m:List aq)(K:KV):Prop:=jl tt t x key ok m fun v=>K v [] (Vy x)
def uA(tt:TT)(t:TypeId)(x key v:A)(m:List aq)(K:KV):Prop :=
 jX tt t fun agg sh _=>match Fh agg sh key,x,cE 4 v with
  | some k,.omap b,false=>match m.getD b .dead with
   | .ez iX tA has val=>match pE agg iX,tz sh tA with
    | true,true=>fd 4 v fun v'=>K .ae [(b,.ez iX tA (mY has k true) (pd val k v'))] [b]
    | _,_=>False
   | _=>False
  | _,_,_=>False
def kQ(tt:TT)(t:TypeId)(az:Nat)(m:List aq)(K:KV):Prop :=
 jX tt t fun agg sh _=>dZ m az (K (.omap az) [(az,.ez agg sh (fun _=>false) (fun _=>.ae))] [az])
def lX(tt:TT)(t:TypeId)(b:Nat)(hi:Option A)(az:Nat)(m:List aq)(K:KV):Prop :=
 match tt.lookup t with
 | some ti=>match ti.kind,m.getD b .dead with
  | 3,.row ty sz n row=>vW hi n n fun h=>dZ m az (K (.own az) [(az,.row ty sz h row),(b,.gone)] [az,b])
  | _,_=>False
 | none=>False
def SV(P:Program)(G:aG)(tt:TT)(o:Oper)(t:TypeId)(x:A)(lo hi:Option A)(az:Nat)(s:List A)(m:List aq)(K:KV):Prop :=
 match x,lo with
 | .own b,none=>lX tt t b hi az m K
 | _,_=>gv P G tt o s m K
/-- How many entries a map has that is a value: it must be known. -/
def DV(tt:TT)(t:TypeId)(x:A)(K:KV):Prop :=
 match x with
 | .mv _ sh has _=>jX tt t fun _ _ _=>∃n:Nat,(∀keys:List (List KC),keys.Nodup->(∀k∈keys,gX sh k/\has k=true)->(∀k,gX sh k->has k=true->k∈keys)->keys.length=n)/\K (.int .i64 (n:Int)) [] []
 | _=>False
def JS(P:Program)(G:aG)(tt:TT)(o:Oper)(t:TypeId)(x:A)(s:List A)(m:List aq)(K:KV):Prop :=
 match x with
 | .mv g sh has val=>DV tt t (.mv g sh has val) K
 | _=>gv P G tt o s m K
def qq(P:Program)(G:aG)(tt:TT)(o:Oper)(az:Nat)(s:List A)(m:List aq)(K:KV):Prop :=
 match o.op with
 | .slice t x lo hi none=>SV P G tt o t (ev s x) (og s lo) (og s hi) az s m K
 | .lookup t x k ok=>vo tt t (ev s x) (ev s k) ok m K
 | .mapUpdate t x k v=>uA tt t (ev s x) (ev s k) (ev s v) m K
 | .insert t x k v=>uA tt t (ev s x) (ev s k) (ev s v) m K
 | .makeMap t none=>kQ tt t az m K
 | .alloc t=>xb tt t az m K
 | .box t x=>Mx t (ev s x) az m K
 | .buildSlice t len ps=>oA tt t len (ps.toList.map fun p=>(p.1,ev s p.2)) az m K
 | .makeSlice t l k=>DU tt t (ev s l) (ev s k) az m K
 | .call { callee:=.builtin .append,args,argTypes }=>match args.toList,argTypes.toList with
  | [x,y],[t,t']=>match Nat.beq t' t with
   | true=>B0 tt t (ev s x) (ev s y) az m K
   | false=>False
  | _,_=>False
 | .call { callee:=.value f,args,.. }=>gv P G tt o s m K\/tJ P G (ev s f) (args.toList.map (ev s)) az m K
 | .call { callee:=.builtin .len,args,argTypes }=>match args.toList,argTypes.toList with
  | [x],[t]=>JS P G tt o t (ev s x) s m K
  | _,_=>gv P G tt o s m K
 | .load t x=>vn P G tt o t (ev s x) az s m K
 | .indexAddr t x i=>Fq P G tt o t (ev s x) (ev s i) s m K
 | .store t x y=>pG tt t (ev s x) (ev s y) m K
 | _=>gv P G tt o s m K

section
variable {c:Ctx} {s s2:List A} {m m2:List aq} {a:Act} {w w':World} {ids ab:dp} {P:Program} {im bl:Nat->Prop} {tt:TT} {G:aG}
variable {next:Act->World->Prop} {Q:Exit->Act->World->Prop} {o:Oper}

theorem Qc(hq:quiet o.op=true){K:KT}:step P G tt o s m K=step P G tt o s m fun v _=>K v m:=by
 unfold step;split<;>first|rfl|exact TV|exact SW|exact Mz|exact MA|exact TW|skip
 all_goals (rename_i ho;rw[ho] at hq;cases hq)

theorem JT(f:A)(as:List A):DM (fun K=>mP P G f as m fun v _=>K v):=by
 unfold mP;split<;>first|exact DM.cH|skip
 simp only[cD,dX];split
 ·exact DM.ex fun r=>DM.val _
 ·exact DM.ex fun r=>DM.and (DM.val _)
theorem rF(hq:quiet o.op=true):DM (fun K=>step P G tt o s m fun v _=>K v):=by
 unfold step;split<;>first|(split<;>first|exact vl _ _ _ _ _|exact DM.cH;done)|exact JN _ _ _ _|exact Fm _ _ _ _|exact uu _ _ _ _ _|exact uz _ _ _ _ _|exact JT _ _|exact JO _ _ _|exact Mw _ _ _ _ _|exact Qb _ _|exact JP _ _ _ _|exact Fj _ _ _ _|exact Fk _ _ _ _|exact zN _ _|exact Mv _|exact vl _ _ _ _ _|exact DM.cH|skip
 ·simp only[db];exact DM.val _
 ·simp only[db];exact DM.val _
 ·rename_i ho;rw[ho] at hq;cases hq
 ·rename_i ho;rw[ho] at hq;cases hq
 ·rename_i ho;rw[ho] at hq;cases hq
 ·split<;>first|exact DM.cH|exact DM.val _
 ·split<;>first|exact DM.cH|exact Mu _ _ _ _
 ·split<;>first|exact DM.cH|exact JQ _ _
 ·split<;>first|exact DM.cH|exact JR _ _

/-- What is asked of a continuation is asked of one outcome. -/
def DK(F:KV->Prop):Prop:=∀K,F K->∃r:Oc,K r.v r.u r.rd/\F (fun v u rd=>v=r.v/\u=r.u/\rd=r.rd)
theorem DK.val(v:A)(u:List (Nat×aq))(rd:List Nat):DK (fun K=>K v u rd):=fun _ h=>⟨⟨v,u,rd⟩,h,rfl,rfl,rfl⟩
theorem DK.cH:DK (fun _=>False):=fun _ h=>h.elim
theorem DK.and{p:Prop}{F:KV->Prop}(h:DK F):DK (fun K=>p/\F K):=fun K hk=>by
 obtain⟨r,h1,h2⟩:=h K hk.2;exact⟨r,h1,hk.1,h2⟩
theorem DK.or{F F':KV->Prop}(h:DK F)(h':DK F'):DK (fun K=>F K\/F' K):=fun K hk=>by
 rcases hk with hk|hk
 ·obtain⟨r,h1,h2⟩:=h K hk;exact⟨r,h1,.inl h2⟩
 ·obtain⟨r,h1,h2⟩:=h' K hk;exact⟨r,h1,.inr h2⟩
theorem DK.free{F:KV->Prop}{az:Nat}(h:DK F):DK (fun K=>dZ m az (F K)):=fun K hk=>by
 unfold dZ at hk ⊢;split at hk
 ·exact h K hk
 ·exact hk.elim
theorem DK.qp{F:KV->Prop}(h:DK F):∀(xs:List aq) (az:Nat),DK (fun K=>qp m az xs (F K))
 | [],_=>h
 | _::xs,az=>DK.free (DK.qp h xs (az+1))
theorem DK.SX{F:(A->Prop)->Prop}{rd:List Nat}(h:DM F):DK (fun K=>F fun v=>K v [] rd):=fun K hk=>by
 obtain⟨v,h1,h2⟩:=(h _).1 hk;exact⟨⟨v,[],rd⟩,h1,(h _).2 ⟨v,by simp,h2⟩⟩
theorem xc{ti:TI}:∀(ps:List (Nat×A)) (cs:List A) {K:List A->Prop},nc ti ps cs K->∃dc,K dc/\∀K':List A->Prop,K' dc->nc ti ps cs K'
 | [],cs,K,h=>⟨cs,h,fun _ h'=>h'⟩
 | (i,v)::ps,cs,K,h=>by
  simp only[nc] at h ⊢;split at h
  ·rename_i off size vs hp hc;split at h
   ·rename_i e1 e2;rw[ck] at h;obtain⟨dc,h1,h2⟩:=xc ps _ h;refine⟨dc,h1,fun K' h'=>?_⟩;simp only[e1,e2,ck];exact h2 K' h'
   ·exact h.elim
  ·exact h.elim


theorem gb:DK (gv P G tt o s m):=by
 unfold gv;split
 ·rename_i rd hq hr;exact DK.SX (rF (P:=P) (G:=G) (tt:=tt) (s:=s) (m:=m) hq)
 ·exact DK.cH
theorem JU{size:Nat}{cs:List A}{off:Nat}{y:A}{F:List A->KV->Prop}(h:∀dc,DK (F dc)):DK (fun K=>Kd size cs off y fun dc=>F dc K):=fun K hk=>by
 obtain⟨vs,g1,g2,g3,g4⟩:=kF hk;obtain⟨r,h1,h2⟩:=h _ K g4;refine⟨r,h1,?_⟩;simp only;unfold Kd;simp only[g1,g2,ck];have e2:Nat.ble (off+size) cs.length=true:=Nat.ble_eq_true_of_le g3;simp only[e2,Nat.beq_refl];exact h2
theorem JV{f:A}{as:List A}{az:Nat}{F:A->List aq->KV->Prop}(h:∀r mo,DK (F r mo)):DK (fun K=>tw P G f as az fun r mo=>F r mo K):=fun K hk=>by
 unfold tw at hk ⊢;split at hk
 ·rw[cD] at hk;simp only[cD];split at hk
  ·rename_i aU;obtain⟨r,mo,hc,hk⟩:=hk;split at hk
   ·rename_i xL;rw[dX,dF] at hk;obtain⟨x,h1,h2⟩:=h _ _ K hk;refine⟨x,h1,?_⟩;refine⟨r,mo,hc,?_⟩;simp only[xL,dX,dF];exact h2
   ·exact hk.elim
  ·exact hk.elim
 ·exact hk.elim
theorem gi{t:TypeId}{F:Bool->List KS->A->Prop}(h:jX tt t F):∃agg sh z,F agg sh z/\∀F':Bool->List KS->A->Prop,F' agg sh z->jX tt t F':=by
 unfold jX at h ⊢;split at h
 ·exact h.elim
 ·rename_i ti iQ;split at h
  ·rename_i tk te hk TQ xx;split at h
   ·rename_i ns sh dn FM;split at h
    ·rename_i yD hlen;simp only[Nw] at h ⊢;split at h
     ·rename_i ha;rw[ck] at h;refine⟨_,_,_,h,fun F' h'=>?_⟩;simp only[hk,TQ,xx,dn,FM,yD,hlen,ha,ck];exact h'
     ·rename_i ha;split at h
      ·rename_i z hz;rw[db] at h;refine⟨_,_,_,h,fun F' h'=>?_⟩;simp only[hk,TQ,xx,dn,FM,yD,hlen,ha,hz,db];exact h'
      ·exact h.elim
    ·exact h.elim
   ·exact h.elim
  ·exact h.elim
theorem tK(t:TypeId)(x key:A)(ok:Bool):DM (jl tt t x key ok m):=by
 have hl:∀z k has val,DM (zC z k ok has val):=by
  intro z k has val;unfold zC;cases ok<;>simp only[dX]<;>exact DM.two (DM.val _) (DM.val _)
 have hg:∀agg sh z k iX tA has val,DM (vc agg sh z k ok iX tA has val):=by
  intro agg sh z k iX tA has val;unfold vc;split<;>first|exact hl _ _ _ _|exact DM.cH
 intro K;constructor
 ·intro h;unfold jl at h;obtain⟨agg,sh,z,h1,h2⟩:=gi h;split at h1
  ·exact h1.elim
  ·rename_i k hk;split at h1
   ·obtain⟨v,g1,g2⟩:=(hg _ _ _ _ _ _ _ _ K).1 h1;exact⟨v,g1,by unfold jl;refine h2 _ ?_;rw[hk];exact g2⟩
   ·rename_i b;split at h1
    ·rename_i hb;obtain⟨v,g1,g2⟩:=(hg _ _ _ _ _ _ _ _ K).1 h1;exact⟨v,g1,by unfold jl;refine h2 _ ?_;simp only[hk,hb];exact g2⟩
    ·exact h1.elim
   ·cases ok
    ·exact⟨_,h1,by unfold jl;refine h2 _ ?_;rw[hk]⟩
    ·exact⟨_,h1,by unfold jl;refine h2 _ ?_;rw[hk]⟩
   ·exact h1.elim
 ·rintro⟨v,g1,h⟩;unfold jl at h ⊢;obtain⟨agg,sh,z,h1,h2⟩:=gi h;refine h2 _ ?_;split at h1
  ·exact h1.elim
  ·rename_i k hk;split at h1
   ·exact(hg _ _ _ _ _ _ _ _ K).2 ⟨v,g1,h1⟩
   ·rename_i b;split at h1
    ·rename_i hb;exact(hg _ _ _ _ _ _ _ _ K).2 ⟨v,g1,h1⟩
    ·exact h1.elim
   ·cases ok
    ·simp only at h1 ⊢;rw[h1];exact g1
    ·simp only at h1 ⊢;rw[h1];exact g1
   ·exact h1.elim
theorem DW{t:TypeId}{x key v:A}:DK (uA tt t x key v m):=fun K h=>by
 unfold uA at h;obtain⟨agg,sh,z,h1,h2⟩:=gi h;split at h1
 ·rename_i k b hk aU;split at h1
  ·rename_i hb;split at h1
   ·rename_i g1 g2;rw[dX] at h1;refine⟨⟨_,_,_⟩,h1,?_⟩;unfold uA;refine h2 _ ?_;simp only[hk,aU,hb,g1,g2,dX];exact⟨trivial,trivial,trivial⟩
   ·exact h1.elim
  ·exact h1.elim
 ·exact h1.elim
theorem Ft{t:TypeId}{az:Nat}:DK (kQ tt t az m):=fun K h=>by
 unfold kQ at h;obtain⟨agg,sh,z,h1,h2⟩:=gi h;obtain⟨r,h3,h4⟩:=DK.free (DK.val _ _ _) _ h1;exact⟨r,h3,by unfold kQ;exact h2 _ h4⟩
theorem JW{x:Option A}{d y:Nat}{F:Nat->Prop}(h:vW x d y F):∃n,F n/\∀F':Nat->Prop,F' n->vW x d y F':=by
 unfold vW at h ⊢;split at h
 ·exact⟨_,h,fun _ h'=>h'⟩
 ·split at h
  ·exact⟨_,h.2,fun _ h'=>⟨h.1,h'⟩⟩
  ·exact h.elim
theorem Fu{t:TypeId}{b:Nat}{hi:Option A}{az:Nat}:DK (lX tt t b hi az m):=fun K h=>by
 unfold lX at h ⊢;split at h
 ·split at h
  ·rename_i hk hb;obtain⟨n,h1,h2⟩:=JW h;obtain⟨r,h3,h4⟩:=DK.free (DK.val _ _ _) _ h1;refine⟨r,h3,?_⟩;simp only[hk,hb];exact h2 _ h4
  ·exact h.elim
 ·exact h.elim
theorem Qd{t:TypeId}{x:A}{lo hi:Option A}{az:Nat}:DK (SV P G tt o t x lo hi az s m):=by
 unfold SV;split
 ·exact Fu
 ·exact gb
theorem MB{t:TypeId}{x:A}:DK (JS P G tt o t x s m):=by
 unfold JS;split
 ·intro K h;unfold DV at h;obtain⟨agg,sh,z,⟨n,h1,h2⟩,h3⟩:=gi h;refine⟨⟨.int .i64 (n:Int),[],[]⟩,h2,?_⟩;unfold DV;exact h3 _ ⟨n,h1,rfl,rfl,rfl⟩
 ·exact gb
theorem JX{az:Nat}:DK (qq P G tt o az s m):=by
 unfold qq;split
 ·exact Qd
 ·exact DK.SX (tK _ _ _ _)
 ·exact DW
 ·exact DW
 ·exact Ft
 ·unfold xb;split
  ·exact DK.free (DK.val _ _ _)
  ·exact DK.cH
 ·unfold Mx;split
  ·exact DK.free (DK.val _ _ _)
  ·exact DK.cH
 ·unfold oA;split
  ·split
   ·intro K hk;obtain⟨cs,h1,h2⟩:=xc _ _ hk;split at h1
    ·rename_i aU hlen;split at h1
     ·rename_i Aj;simp only[aN] at h1;obtain⟨r,h3,h4⟩:=DK.free (DK.val _ _ _) _ h1;refine⟨r,h3,h2 _ ?_⟩;simp only[aU,hlen,Aj,aN];exact h4
     ·rename_i Aj;simp only[aN] at h1;obtain⟨r,h3,h4⟩:=DK.val _ _ _ _ h1;refine⟨r,h3,h2 _ ?_⟩;simp only[aU,hlen,Aj,aN];exact h4
    ·exact h1.elim
   ·exact DK.cH
  ·exact DK.cH
 ·unfold DU;split
  ·split
   ·simp only[aN,ck];exact DK.and (DK.free (DK.val _ _ _))
   ·exact DK.cH
  ·exact DK.cH
 ·split
  ·split
   ·unfold B0;split
    ·exact DK.cH
    ·split
     ·split
      ·split
       ·split
        ·simp only[aN];exact DK.and (DK.free (DK.val _ _ _))
        ·exact DK.cH
       ·exact DK.cH
      ·exact DK.cH
     ·exact DK.cH
   ·exact DK.cH
  ·exact DK.cH
 ·exact DK.or gb (JV fun r mo=>DK.qp (DK.val _ _ _) _ _)
 ·split
  ·exact MB
  ·exact gb
 ·unfold vn;split
  ·split
   ·unfold vm;split
    ·exact DK.cH
    ·split
     ·exact DK.and (DK.free (DK.val _ _ _))
     ·exact DK.cH
   ·exact gb
  ·exact gb
 ·unfold Fq;split
  ·split
   ·split
    ·split
     ·exact DK.and (DK.val _ _ _)
     ·exact DK.cH
    ·exact DK.cH
   ·exact gb
  ·exact gb
 ·unfold pG;split
  ·split
   ·exact JU fun _=>DK.val _ _ _
   ·exact DK.cH
  ·split
   ·split
    ·simp only[ck];exact DK.and (JU fun _=>DK.val _ _ _)
    ·exact DK.cH
   ·unfold Fs;split
    ·split
     ·split
      ·exact DK.and (DK.val _ _ _)
      ·exact DK.cH
     ·exact DK.cH
    ·exact DK.cH
   ·exact DK.cH
  ·exact DK.cH
 ·exact gb

/-- What an operation comes to. -/
def Out(P:Program)(G:aG)(tt:TT)(o:Oper)(az:Nat)(s:List A)(m:List aq)(r:Oc):Prop :=
 qq P G tt o az s m fun v u rd=>v=r.v/\u=r.u/\rd=r.rd

theorem Fv{az:Nat}{K:KV}(h:qq P G tt o az s m K):∃r:Oc,Out P G tt o az s m r/\K r.v r.u r.rd:=by
 obtain⟨r,h1,h2⟩:=JX K h;exact⟨r,h2,h1⟩
end
section
variable {c:Ctx} {s s2:List A} {m m2:List aq} {a:Act} {w w':World} {ids ab:dp} {P:Program} {im bl:Nat->Prop} {tt:TT} {G:aG}
variable {next:Act->World->Prop} {Q:Exit->Act->World->Prop} {o:Oper} {K:A->Prop}

def Agree(m m2:List aq)(rs:List Nat):Prop:=∀b∈rs,m.getD b .dead=m2.getD b .dead

theorem kS{g g2:A->Option (List Nat)}{h h2:A->A}:∀(xs:List A) (rs:List Nat),(∀x∈xs,∀l,g x=some l->(∀b∈l,b∈rs)->g2 x=some l/\h x=h2 x) ->
  ∀l,tH g xs=some l->(∀b∈l,b∈rs)->tH g2 xs=some l/\xs.map h=xs.map h2
 | [],_,_,l,hl,_=>⟨hl,rfl⟩
 | x::xs,rs,hx,l,hl,hb=>by
  unfold tH at hl ⊢;split at hl
  ·rename_i l1 l2 e1 e2;cases hl;obtain⟨a1,a2⟩:=hx x (by simp) l1 e1 (fun b h=>hb b (by simp[h]));obtain⟨b1,b2⟩:=kS xs rs (fun y hy=>hx y (by simp[hy])) l2 e2 (fun b h=>hb b (by simp[h]));simp[a1,b1,a2,b2]
  ·cases hl
theorem vr{rs:List Nat}(hm:Agree m m2 rs):∀(d:Nat) (x:A) (l:List Nat),kv m d x=some l->(∀b∈l,b∈rs)->kv m2 d x=some l/\wk m d x=wk m2 d x
 | 0,_,_,h,_=>by cases h
 | d+1,x,l,h,hb=>by
  have ih:=fun x l h hb=>vr hm d x l h hb
  have lists:∀cs:List A,tH (kv m d) cs=some l->tH (kv m2 d) cs=some l/\cs.map (wk m d)=cs.map (wk m2 d) :=
   fun cs h=>kS cs rs (fun x _ l h hb=>ih x l h hb) l h hb
  cases x
  case ref b off =>
   simp only[kv,wk] at h ⊢;split at h
   ·rename_i ty cs Jx;split at h
    ·rename_i l' L0;cases h;have e:m2.getD b .dead=.box ty cs:=by rw[<-hm b (hb b (by simp))];exact Jx
     obtain⟨g1,g2⟩:=kS cs rs (fun x _ l h hb=>ih x l h hb) l' L0 (fun b h=>hb b (by simp[h]));rw[Jx,e];simp[g1,g2]
    ·cases h
   ·cases h
  case agg cs=>obtain⟨g1,g2⟩:=lists cs h;exact⟨g1,by simp only[wk,g2]⟩
  case tup cs=>obtain⟨g1,g2⟩:=lists cs h;exact⟨g1,by simp only[wk,g2]⟩
  case fn f cs=>obtain⟨g1,g2⟩:=lists cs h;exact⟨g1,by simp only[wk,g2]⟩
  case oref=>cases h
  case own b =>
   simp only[kv,wk] at h ⊢;split at h
   ·rename_i ty sz n row Jx;cases h;have e:m2.getD b .dead=.row ty sz n row:=by rw[<-hm b (hb b (by simp))];exact Jx
    rw[Jx,e];exact⟨rfl,rfl⟩
   ·cases h
  case omap b =>
   simp only[kv,wk] at h ⊢;split at h
   ·rename_i g n key val Jx;cases h;have e:m2.getD b .dead=.ez g n key val:=by rw[<-hm b (hb b (by simp))];exact Jx
    rw[Jx,e];exact⟨rfl,rfl⟩
   ·cases h
  all_goals exact⟨h,rfl⟩

theorem zO{t:TypeId}{p:A}(hm:Agree m m2 (DT p)):(k9 tt t p m fun v _=>K v)=(k9 tt t p m2 fun v _=>K v):=by
 unfold k9;cases tt.lookup t with
 | none=>rfl
 | some ti=>cases p<;>simp only<;>first|rfl|(rw[hm _ (by simp[DT])])
theorem pH{t:TypeId}{p i:A}(hm:Agree m m2 (DT p)):(dV tt t p i m fun v _=>K v)=(dV tt t p i m2 fun v _=>K v):=by
 unfold dV;cases tt.lookup t with
 | none=>rfl
 | some ti =>
  simp only;split
  ·cases p<;>simp only<;>first|rfl|(rw[hm _ (by simp[DT])])
  ·rfl
  ·rfl
theorem B3{t:TypeId}{p:A}(hm:Agree m m2 (DT p)):za tt t p m K=za tt t p m2 K:=by
 unfold za;cases tt.lookup t with
 | none=>rfl
 | some ti =>
  simp only;split
  ·rfl
  ·rw[hm _ (by simp[DT])]
  ·rfl
  ·rfl
  ·rfl
theorem zP{f:A}{as:List A}{rs:List Nat}(hr:xa m f as=some rs)(hm:Agree m m2 rs):
  (mP P G f as m fun v _=>K v)=(mP P G f as m2 fun v _=>K v)/\xa m2 f as=some rs:=by
 unfold xa at hr ⊢;cases f<;>simp only at hr<;>first|cases hr|skip
 rename_i g cap;obtain⟨g1,g2⟩:=kS (h:=wk m 5) (h2:=wk m2 5) (as++cap) rs (fun x _ l h hb=>vr hm 5 x l h hb) rs hr (fun b h=>h);refine⟨?_,g1⟩;unfold mP;simp only[cD];rw[g2]

theorem B4(hq:quiet o.op=true)(he:∀x∈o.op.operands,ev s x=ev s2 x){rd:List Nat}(hr:tI o.op s m=some rd)(hm:Agree m m2 rd):
  (step P G tt o s m fun v _=>K v)=(step P G tt o s2 m2 fun v _=>K v)/\tI o.op s2 m2=some rd:=by
 unfold step
 have MC:∀xs:Array Operand,(∀x∈xs,ev s x=ev s2 x)->xs.toList.map (ev s)=xs.toList.map (ev s2):=by
  intro xs h;exact List.map_congr_left fun x hx=>h x (by simpa using hx)
 cases TA:o.op<;>rw[TA] at hq he hr<;>first|(exfalso;simp[quiet] at hq;done)|(dsimp only)|skip
 case move x=>simp only[Op.operands] at he;rw[he x (by simp)];exact⟨rfl,hr⟩
 case assign x=>simp only[Op.operands] at he;rw[he x (by simp)];exact⟨rfl,hr⟩
 case pick x y z=>simp only[Op.operands] at he;rw[he x (by simp),he y (by simp),he z (by simp)];exact⟨rfl,hr⟩
 case build t ps =>
  simp only[Op.operands] at he;have:(ps.toList.map fun p=>(p.1,ev s p.2))=ps.toList.map fun p=>(p.1,ev s2 p.2):=List.map_congr_left fun p hp=>by rw[he p.2 (by simp;exact⟨p.1,by simpa using hp⟩)]
  simp only[this];refine⟨?_,hr⟩;unfold po;split<;>rfl
 case load t x =>
  simp only[Op.operands] at he;have e:=he x (by simp);simp only[tI,Option.some.injEq] at hr ⊢;subst hr;rw[<-e];exact⟨zO hm,rfl⟩
 case nilCheck x=>simp only[Op.operands] at he;rw[he x (by simp)];exact⟨rfl,hr⟩
 case binOp op t x y t'=>simp only[Op.operands] at he;rw[he x (by simp),he y (by simp)];exact⟨rfl,hr⟩
 case unOp op t x=>simp only[Op.operands] at he;rw[he x (by simp)];exact⟨rfl,hr⟩
 case convert t t' x=>simp only[Op.operands] at he;rw[he x (by simp)];exact⟨rfl,hr⟩
 case makeFunc fn first cap =>
  simp only[Op.operands] at he;have:=MC cap (fun x hx=>he x (by simp[hx]));cases fn<;>simp only<;>first|exact⟨trivial,hr⟩|(rw[this];exact⟨rfl,hr⟩)
 case fieldAddr t x f =>
  simp only[Op.operands] at he;rw[he x (by simp)];refine⟨?_,hr⟩;unfold gC;split<;>rfl
 case indexAddr t x i =>
  simp only[Op.operands] at he;have e:=he x (by simp);simp only[tI,Option.some.injEq] at hr ⊢;subst hr;rw[<-e,<-he i (by simp)];exact⟨pH hm,rfl⟩
 case index t x i=>simp only[Op.operands] at he;rw[he x (by simp),he i (by simp)];exact⟨rfl,hr⟩
 case field t x f=>simp only[Op.operands] at he;rw[he x (by simp)];exact⟨rfl,hr⟩
 case extract x i=>simp only[Op.operands] at he;rw[he x (by simp)];exact⟨rfl,hr⟩
 case slice t x lo hi mx =>
  cases mx with
  | some _=>simp[quiet] at hq
  | none =>
   simp only[Op.operands] at he;have e0:=he x (by simp)
   have e1:og s lo=og s2 lo:=by
    cases lo with
    | none=>rfl
    | some y=>simp only[og];rw[he y (by simp)]
   have e2:og s hi=og s2 hi:=by
    cases hi with
    | none=>rfl
    | some y=>simp only[og];rw[he y (by simp)]
   rw[e0,e1,e2];exact⟨rfl,hr⟩
 case call cl =>
  obtain⟨callee,args,ts⟩:=cl;simp only[Op.operands,Call.operands] at he;cases callee with
  | invoke r n=>simp[quiet] at hq
  | value f =>
   have e1:=he f (by simp);have e2:=MC args (fun x hx=>he x (by simp[hx]));simp only[tI] at hr ⊢;rw[<-e1,<-e2];exact zP hr hm
  | builtin b =>
   have e2:∀x∈args,ev s x=ev s2 x:=fun x hx=>he x (by simp[hx]);cases b<;>first|(exfalso;simp[quiet] at hq;done)|(dsimp only)|skip
   case len =>
    simp only[tI] at hr ⊢;split at hr
    ·rename_i x hx
     have e := e2 x (by have : x ∈ args.toList := by rw [hx]; simp
                        simpa using this)
     cases hr;rw[hx];cases Qa:ts.toList with
     | nil=>exact⟨rfl,by rw[<-e]⟩
     | cons t1 tl =>
      cases tl with
      | nil=>dsimp only;rw[<-e];exact⟨B3 hm,rfl⟩
      | cons=>exact⟨rfl,by rw[<-e]⟩
    ·cases hr
   case min =>
    cases hx:args.toList with
    | nil=>exact⟨rfl,hr⟩
    | cons x xs =>
     have h1:=MC args e2;rw[hx] at h1;simp only[List.map_cons,List.cons.injEq] at h1
     dsimp only;rw[h1.1,h1.2];exact⟨rfl,hr⟩
   case max =>
    cases hx:args.toList with
    | nil=>exact⟨rfl,hr⟩
    | cons x xs =>
     have h1:=MC args e2;rw[hx] at h1;simp only[List.map_cons,List.cons.injEq] at h1
     dsimp only;rw[h1.1,h1.2];exact⟨rfl,hr⟩
end
section
variable {c:Ctx} {s s2:List A} {m m2:List aq} {a:Act} {w w':World} {ids ab:dp} {P:Program} {im bl:Nat->Prop} {tt:TT} {G:aG}
variable {next:Act->World->Prop} {Q:Exit->Act->World->Prop} {o:Oper}

theorem cT{az:Nat}{X:Prop}(h:dZ m az X):X/\m.getD az .dead=.dead/\Nat.blt az m.length=true:=by
 unfold dZ at h;split at h
 ·rename_i h1 h2;exact⟨h,h1,h2⟩
 ·exact h.elim
theorem iT{az:Nat}{X:Prop}(h1:m.getD az .dead=.dead)(h2:Nat.blt az m.length=true)(h:X):dZ m az X:=by
 unfold dZ;rw[h1,h2];exact h
theorem gM{az:Nat}(h1:m.getD az .dead=.dead)(h2:Nat.blt az m.length=true):m[az]?=some .dead:=by
 have hl:az<m.length:=Nat.le_of_ble_eq_true h2;rw[List.getElem?_eq_getElem hl];simpa[List.getD_eq_getElem?_getD,hl] using h1
def LK(m m2:List aq)(F F2:KV->Prop):Prop:=∀r:Oc,(F fun v u rd=>v=r.v/\u=r.u/\rd=r.rd)->Agree m m2 r.rd->F2 fun v u rd=>v=r.v/\u=r.u/\rd=r.rd
theorem LK.zQ{az:Nat}(hlen:m.length=m2.length)(v:A)(u:List (Nat×aq))(rd:List Nat)(pA:az∈rd):LK m m2 (fun K=>dZ m az (K v u rd)) (fun K=>dZ m2 az (K v u rd)):=by
 intro r h hm;obtain⟨h1,h2,h3⟩:=cT h;exact iT (by rw[<-hm az (by rw[<-h1.2.2];exact pA)];exact h2) (by rw[<-hlen];exact h3) h1
theorem B5{br:Nat}{y:A}(hm:Agree m m2 (DT y)):zn m br y=zn m2 br y:=by
 unfold zn;cases y<;>simp only<;>rw[hm _ (by simp[DT])]
theorem cU(he:∀x∈o.op.operands,ev s x=ev s2 x):LK m m2 (gv P G tt o s m) (gv P G tt o s2 m2):=by
 intro r h hm;unfold gv at h ⊢;split at h
 ·rename_i Qe hq hr;obtain⟨v,h1,h2⟩:=(rF (P:=P) (G:=G) (tt:=tt) (s:=s) (m:=m) hq _).1 h;have FV:_=r.rd:=h1.2.2;rw[<-FV] at hm;obtain⟨g1,g2⟩:=B4 (P:=P) (G:=G) (tt:=tt) (K:=fun v=>v=r.v/\[]=r.u/\Qe=r.rd) hq he hr hm;simp only[hq,g2];rw[<-g1];exact h
 ·exact h.elim
theorem B6{t:TypeId}{x y:A}{az:Nat}(hlen:m.length=m2.length):LK m m2 (B0 tt t x y az m) (B0 tt t x y az m2):=by
 intro r h hm;unfold B0 at h ⊢;split at h
 ·exact h.elim
 ·rename_i ti iQ;split at h
  ·rename_i n2 iy hk hv;split at h
   ·rename_i b;split at h
    ·rename_i ty sz n row hb;split at h
     ·rename_i lZ j8;simp only[aN] at h;obtain⟨hc,h⟩:=h;obtain⟨hX,h2,h3⟩:=cT h;have FV:=hX.2.2;have e1:m2.getD b .dead=.row ty sz n row:=by rw[<-hm b (by rw[<-FV];simp)];exact hb
      have e2:m2.getD az .dead=.dead:=by rw[<-hm az (by rw[<-FV];simp)];exact h2
      have e3:zn m2 ti.br y=some (n2,iy):=by rw[<-B5 (fun b hb=>hm b (by rw[<-FV];simp[hb]))];exact hv
      simp only[hk,e3,e1,lZ,j8,aN];exact⟨hc,iT e2 (by rw[<-hlen];exact h3) hX⟩
     ·exact h.elim
    ·exact h.elim
   ·exact h.elim
  ·exact h.elim
theorem zR{t:TypeId}{x:A}{az:Nat}(he:∀x∈o.op.operands,ev s x=ev s2 x)(hx:∀b i off,x=.oref b i off->∀rd,tI o.op s m=some rd->b∈rd)(hlen:m.length=m2.length):
  LK m m2 (vn P G tt o t x az s m) (vn P G tt o t x az s2 m2):=by
 intro r h hm;unfold vn at h ⊢;split at h
 ·rename_i b i off;split at h
  ·rename_i ty aM sz n hole len row hb;unfold vm at h;split at h
   ·exact h.elim
   ·rename_i ti iQ;split at h
    ·rename_i hk h1 h2;obtain⟨hi,h⟩:=h;obtain⟨hX,h3,h4⟩:=cT h;have FV:=hX.2.2;have e1:m2.getD b .dead=.nest ty aM sz n none len row:=by rw[<-hm b (by rw[<-FV];simp)];exact hb
     have e2:m2.getD az .dead=.dead:=by rw[<-hm az (by rw[<-FV];simp)];exact h3
     simp only[e1];unfold vm;simp only[iQ,hk,h1,h2];exact⟨hi,iT e2 (by rw[<-hlen];exact h4) hX⟩
    ·exact h.elim
  ·rename_i hne;have hq:=h;unfold gv at hq;split at hq
   ·rename_i Qe Vz Q1;obtain⟨v,h1,_⟩:=(rF (P:=P) (G:=G) (tt:=tt) (s:=s) (m:=m) Vz _).1 hq;have hb:b∈r.rd:=by rw[<-h1.2.2];exact hx b i off rfl Qe Q1
    have e1:=hm b hb;have:=cU (P:=P) (G:=G) (tt:=tt) he r h hm;rw[<-e1];split
    ·rename_i hh;exact absurd hh (hne _ _ _ _ _ _ _)
    ·exact this
   ·exact hq.elim
 ·exact cU he r h hm
theorem B'{t:TypeId}{x i:A}(he:∀x∈o.op.operands,ev s x=ev s2 x)(hx:∀b,x=.own b->∀rd,tI o.op s m=some rd->b∈rd):
  LK m m2 (Fq P G tt o t x i s m) (Fq P G tt o t x i s2 m2):=by
 intro r h hm;unfold Fq at h ⊢;split at h
 ·rename_i b;split at h
  ·rename_i ty aM sz n hole len row hb;split at h
   ·rename_i ti kk ix iQ;split at h
    ·rename_i hk h1;have e1:m2.getD b .dead=.nest ty aM sz n hole len row:=by rw[<-hm b (by rw[<-h.2.2.2];simp)];exact hb
     simp only[e1];exact h
    ·exact h.elim
   ·exact h.elim
  ·rename_i hne;have hq:=h;unfold gv at hq;split at hq
   ·rename_i Qe Vz Q1;obtain⟨v,h1,_⟩:=(rF (P:=P) (G:=G) (tt:=tt) (s:=s) (m:=m) Vz _).1 hq;have hb:b∈r.rd:=by rw[<-h1.2.2];exact hx b rfl Qe Q1
    have e1:=hm b hb;have:=cU (P:=P) (G:=G) (tt:=tt) he r h hm;rw[<-e1];split
    ·rename_i hh;exact absurd hh (hne _ _ _ _ _ _ _)
    ·exact this
   ·exact hq.elim
 ·exact cU he r h hm
theorem xd{t:TypeId}{x y:A}:LK m m2 (pG tt t x y m) (pG tt t x y m2):=by
 intro r h hm;unfold pG at h ⊢;split at h
 ·rename_i ti b off ht;split at h
  ·rename_i ty cs hb;obtain⟨vs,g1,g2,g3,g4⟩:=kF h;have:m2.getD b .dead=.box ty cs:=by rw[<-hm b (by rw[<-g4.2.2];simp)];exact hb
   simp only[this];exact h
  ·exact h.elim
 ·rename_i ti b i off ht;split at h
  ·rename_i ty sz n row hb;split at h
   ·rename_i aU;obtain⟨aI,h⟩:=h;have h':=h;rw[ck] at h';obtain⟨vs,g1,g2,g3,g4⟩:=kF h';have:m2.getD b .dead=.row ty sz n row:=by rw[<-hm b (by rw[<-g4.2.2];simp)];exact hb
    simp only[this];exact⟨aI,h⟩
   ·exact h.elim
  ·rename_i ty aM sz n hole len row hb;unfold Fs at h;split at h
   ·rename_i b' ZM j iQ;split at h
    ·rename_i um qQ n' dr h1 gj h2;split at h
     ·rename_i h3 h4;have e1:m2.getD b .dead=.nest ty aM sz n (some j) len row:=by rw[<-hm b (by rw[<-h.2.2.2];simp)];exact hb
      have e2:m2.getD b' .dead=.row um qQ n' dr:=by rw[<-hm b' (by rw[<-h.2.2.2];simp)];exact gj
      simp only[e1];unfold Fs;simp only[iQ,h1,e2,h2,h3,h4];exact h
     ·exact h.elim
    ·exact h.elim
   ·exact h.elim
  ·exact h.elim
 ·exact h.elim
theorem tL:∀(n k i:Nat),i∈nw n k↔k<=i/\i<k+n
 | 0,k,i=>by simp[nw]
 | n+1,k,i=>by rw[nw,List.mem_cons,tL n (k+1) i];omega
theorem pI:∀(xs:List aq) (az:Nat) {X:Prop},qp m az xs X->X/\∀j,j<xs.length->m.getD (az+j) .dead=.dead/\Nat.blt (az+j) m.length=true
 | [],_,X,h=>⟨h,fun j hj=>by simp at hj⟩
 | x::xs,az,X,h=>by
  obtain⟨h1,h2,h3⟩:=cT h;obtain⟨g1,g2⟩:=pI xs (az+1) h1;refine⟨g1,fun j hj=>?_⟩;cases j with
  | zero=>exact⟨h2,h3⟩
  | succ j=>have:=g2 j (by simpa using hj);rwa [show az+1+j=az+(j+1) by omega] at this
theorem qt:∀(xs:List aq) (az:Nat) {X:Prop},X->(∀j,j<xs.length->m.getD (az+j) .dead=.dead/\Nat.blt (az+j) m.length=true)->qp m az xs X
 | [],_,X,h,_=>h
 | x::xs,az,X,h,hj=>by
  refine iT (hj 0 (by simp)).1 (hj 0 (by simp)).2 (qt xs (az+1) h fun j hh=>?_);have:=hj (j+1) (by simpa using hh)
  rwa [show az+1+j=az+(j+1) by omega]
theorem xe{f:A}{as:List A}{az:Nat}(hlen:m.length=m2.length):LK m m2 (tJ P G f as az m) (tJ P G f as az m2):=by
 intro r h hm;unfold tJ at h ⊢;unfold tw at h ⊢;split at h
 ·rw[cD] at h;simp only[cD];split at h
  ·rename_i aU;obtain⟨r0,mo,hc,hk⟩:=h;refine⟨r0,mo,hc,?_⟩;split at hk
   ·rename_i xL;simp only[dX,dF] at hk ⊢;obtain⟨hX,hd⟩:=pI _ _ hk;refine qt _ _ hX fun j hj=>?_;obtain⟨d1,d2⟩:=hd j hj;refine⟨?_,by rw[<-hlen];exact d2⟩;rw[<-hm (az+j) (by rw[<-hX.2.2,tL];omega)];exact d1
   ·exact hk.elim
  ·exact h.elim
 ·exact h.elim
theorem zT{t:TypeId}{x key:A}{ok:Bool}{K:A->Prop}(hm:Agree m m2 (Vy x)):jl tt t x key ok m K=jl tt t x key ok m2 K:=by
 unfold jl;cases x
 case omap b =>
  have e:=hm b (by simp[Vy])
  dsimp only
  rw[e]
 all_goals rfl
theorem zU{t:TypeId}{x key:A}{ok:Bool}:LK m m2 (vo tt t x key ok m) (vo tt t x key ok m2):=by
 intro r h hm;unfold vo at h ⊢;obtain⟨v,h1,_⟩:=(tK (tt:=tt) (m:=m) t x key ok _).1 h;rw[<-zT (by rw[h1.2.2];exact hm)];exact h
theorem tM{t:TypeId}{x key v:A}:LK m m2 (uA tt t x key v m) (uA tt t x key v m2):=by
 intro r h hm;unfold uA at h ⊢;obtain⟨agg,sh,z,h1,h2⟩:=gi h;refine h2 _ ?_;split at h1
 ·rename_i k b hk aU;split at h1
  ·rename_i hb;split at h1
   ·rename_i g1 g2;rw[dX] at h1;have e:m2.getD b .dead=_:=(hm b (by rw[<-h1.2.2];simp)).symm.trans hb;simp only[e,g1,g2,dX];exact h1
   ·exact h1.elim
  ·exact h1.elim
 ·exact h1.elim
theorem xf{t:TypeId}{az:Nat}(hlen:m.length=m2.length):LK m m2 (kQ tt t az m) (kQ tt t az m2):=by
 intro r h hm;unfold kQ at h ⊢;obtain⟨agg,sh,z,h1,h2⟩:=gi h;exact h2 _ (LK.zQ hlen _ _ _ (by simp) r h1 hm)
theorem xg{t:TypeId}{b:Nat}{hi:Option A}{az:Nat}(hlen:m.length=m2.length):LK m m2 (lX tt t b hi az m) (lX tt t b hi az m2):=by
 intro r h hm;unfold lX at h ⊢;split at h
 ·split at h
  ·rename_i hk hb;obtain⟨n,h1,h2⟩:=JW h;obtain⟨hX,h3,h4⟩:=cT h1;have e:m2.getD b .dead=_:=(hm b (by rw[<-hX.2.2];simp)).symm.trans hb;have e2:m2.getD az .dead=.dead:=by rw[<-hm az (by rw[<-hX.2.2];simp)];exact h3
   simp only[hk,e];exact h2 _ (iT e2 (by rw[<-hlen];exact h4) hX)
  ·exact h.elim
 ·exact h.elim
/-- What an operation comes to, in another state that agrees on what it looks at. -/
theorem Out.local{az:Nat}{r:Oc}(h:Out P G tt o az s m r)(he:∀x∈o.op.operands,ev s x=ev s2 x)(hm:Agree m m2 r.rd)(hlen:m.length=m2.length):Out P G tt o az s2 m2 r:=by
 unfold Out qq at h ⊢;split at h
 ·rename_i t x lo hi ho;have gu:=he;rw[ho] at gu;simp only[Op.operands] at gu;have e0:=gu x (by simp)
  have e1:og s lo=og s2 lo:=by
   cases lo with
   | none=>rfl
   | some y=>simp only[og];rw[gu y (by simp)]
  have e2:og s hi=og s2 hi:=by
   cases hi with
   | none=>rfl
   | some y=>simp only[og];rw[gu y (by simp)]
  rw[<-e0,<-e1,<-e2];unfold SV at h ⊢;split at h
  ·exact xg hlen r h hm
  ·exact cU he r h hm
 ·rename_i t x k ok ho;have he:=he;rw[ho] at he;simp only[Op.operands] at he;rw[<-he x (by simp),<-he k (by simp)];exact zU r h hm
 ·rename_i t x k v ho;have he:=he;rw[ho] at he;simp only[Op.operands] at he;rw[<-he x (by simp),<-he k (by simp),<-he v (by simp)];exact tM r h hm
 ·rename_i t x k v ho;have he:=he;rw[ho] at he;simp only[Op.operands] at he;rw[<-he x (by simp),<-he k (by simp),<-he v (by simp)];exact tM r h hm
 ·exact xf hlen r h hm
 ·unfold xb at h ⊢;split at h
  ·exact LK.zQ hlen _ _ _ (by simp) r h hm
  ·exact h.elim
 ·rename_i t x ho;have he:=he;rw[ho] at he;simp only[Op.operands] at he;rw[<-he x (by simp)];unfold Mx at h ⊢;split at h
  ·exact LK.zQ hlen _ _ _ (by simp) r h hm
  ·exact h.elim
 ·rename_i t len ps ho;have he:=he;rw[ho] at he;simp only[Op.operands] at he;have QQ:(ps.toList.map fun p=>(p.1,ev s p.2))=ps.toList.map fun p=>(p.1,ev s2 p.2):=List.map_congr_left fun p hp=>by rw[he p.2 (by simp;exact⟨p.1,by simpa using hp⟩)]
  rw[<-QQ];unfold oA at h ⊢;split at h
  ·split at h
   ·obtain⟨cs,h1,h2⟩:=xc _ _ h;refine h2 _ ?_;split at h1
    ·split at h1
     ·simp only[aN] at h1 ⊢;exact LK.zQ hlen _ _ _ (by simp) r h1 hm
     ·simp only[aN] at h1 ⊢;exact h1
    ·exact h1.elim
   ·exact h.elim
  ·exact h.elim
 ·rename_i t l k ho;have he:=he;rw[ho] at he;simp only[Op.operands] at he;rw[<-he l (by simp),<-he k (by simp)];unfold DU at h ⊢;split at h
  ·split at h
   ·simp only[aN,ck] at h ⊢;exact⟨h.1,LK.zQ hlen _ _ _ (by simp) r h.2 hm⟩
   ·exact h.elim
  ·exact h.elim
 ·rename_i args ts ho;have he:=he;rw[ho] at he;simp only[Op.operands,Call.operands] at he;split at h
  ·rename_i x y t t' hx ht;have hX:∀z∈args.toList,ev s z=ev s2 z:=fun z hz=>he z (by simp at hz;simp[hz]);rw[<-hX x (by rw[hx];simp),<-hX y (by rw[hx];simp)];split at h
   ·exact B6 hlen r h hm
   ·exact h.elim
  ·exact h.elim
 ·rename_i f args ts ho;have gu:=he;rw[ho] at gu;simp only[Op.operands,Call.operands] at gu;rcases h with h|h
  ·exact .inl (cU he r h hm)
  ·right;rw[<-gu f (by simp),<-show args.toList.map (ev s)=args.toList.map (ev s2) from List.map_congr_left fun x hx=>gu x (by simp at hx;simp[hx])];exact xe hlen r h hm
 ·rename_i args ts ho;have gu:=he;rw[ho] at gu;simp only[Op.operands,Call.operands] at gu;split at h
  ·rename_i x t hx ht
   have hX : ev s x = ev s2 x := gu x (by simp; have : x ∈ args.toList := by rw [hx]; simp
                                          simpa using this)
   rw[<-hX];unfold JS at h ⊢;split at h
   ·exact h
   ·exact cU he r h hm
  ·exact cU he r h hm
 ·rename_i t x ho;have gu:=he;rw[ho] at gu;simp only[Op.operands] at gu;rw[<-gu x (by simp)];refine zR he ?_ hlen r h hm;intro b i off e rd hr;rw[ho] at hr;simp only[tI,Option.some.injEq] at hr;subst hr;rw[e];simp[DT]
 ·rename_i t x i ho;have gu:=he;rw[ho] at gu;simp only[Op.operands] at gu;rw[<-gu x (by simp),<-gu i (by simp)];refine B' he ?_ r h hm;intro b e rd hr;rw[ho] at hr;simp only[tI,Option.some.injEq] at hr;subst hr;rw[e];simp[DT]
 ·rename_i t x y ho;have gu:=he;rw[ho] at gu;simp only[Op.operands] at gu;rw[<-gu x (by simp),<-gu y (by simp)];exact xd r h hm
 ·exact cU he r h hm

/-- A new block, at a place that was kept for it. -/
theorem aF.zV(hs:aF c s m a w ids)(b:Nat)(hb:m[b]?=some .dead)(x:aq)(ob:Obj)(kk n sz:Nat)
  (hx:∀ab bl w',(∀b,au c ids w b->bl b)->(∀b,au c ids w b->w'.heap[b]?=w.heap[b]?)->(∀(b:Nat) p,ids[b]?=some p->p≠.dead->ab[b]?=some p) ->
   w'.heap[w.heap.size]?=(w.alloc ob).heap[w.heap.size]?->aV ab bl w' x (.lv (mkId w.heap.size kk n sz))) :
  aF c s (m.set b x) a (w.alloc ob) (ids.set b (.lv (mkId w.heap.size kk n sz))):=by
 have eU:b<m.length:=by
  rcases Nat.lt_or_ge b m.length with h'|h'
  ·exact h'
  ·rw[List.getElem?_eq_none h'] at hb;cases hb
 have eD:b<ids.length:=by rw[hs.aK];exact eU
 have DJ:m[b]=.dead:=by rw[List.getElem?_eq_getElem eU] at hb;exact Option.some.inj hb
 have dB:ids[b]=.dead:=by have:=hs.bu b eU eD;rw[DJ] at this;exact this
 have Qf:=je w ob
 have bM:(w.alloc ob).heap.size=w.heap.size+1:=by
  show(w.heap.push _).size=_;simp
 have jn:∀p,dH.lv p∈ids.set b (.lv (mkId w.heap.size kk n sz))->dH.lv p∈ids\/p=(mkId w.heap.size kk n sz):=by
  intro p hp;rcases List.mem_or_eq_of_mem_set hp with h|h
  ·exact .inl h
  ·cases h;exact .inr rfl
 have hi:∀b',au c ids w b'->au c (ids.set b (.lv (mkId w.heap.size kk n sz))) (w.alloc ob) b':=by
  intro b' h;have aI:=cw hs h;rcases h with h|⟨h1,h2,h3⟩
  ·exact .inl h
  ·refine .inr ⟨h1,by omega,fun p hp=>?_⟩;rcases jn p hp with h|rfl
   ·exact h3 p h
   ·intro hx;have:=cg hx;omega
 have hh:∀b',au c ids w b'->(w.alloc ob).heap[b']?=w.heap[b']?:=fun b' h=>Qf.block b' (cw hs h)
 have hd:∀(b':Nat) p,ids[b']?=some p->p≠.dead->(ids.set b (.lv (mkId w.heap.size kk n sz)))[b']?=some p:=by
  intro b' p h hp;rw[List.getElem?_set];split
  ·rename_i e;subst e;rw[List.getElem?_eq_getElem eD,dB] at h;exact absurd (Option.some.inj h).symm hp
  ·exact h
 refine⟨hs.defers,hs.len,fun i h h'=>(hs.bE i h h').mono hi hh hd,by simp[hs.aK],?_,?_,?_,hs.frame.trans (Qf.mono hs.frame.size),hs.dL,fun du h=>?_⟩
 ·intro i h h';simp only[List.length_set] at h h';rw[List.getElem_set,List.getElem_set];split
  ·exact hx _ _ _ hi hh hd rfl
  ·refine(hs.bu i h h').mono hi hh hd ?_;intro q hq k hk;exact Qf.block _ (hs.ar q (by rw[<-hq];exact List.getElem_mem _) k hk).2
 ·intro i j p q x h1 h2 h3 Dt;rw[List.getElem?_set] at h1 h2;split at h1
  ·rename_i e1;split at h2
   ·rename_i e2;omega
   ·cases h1;have:=(hs.ar q (List.mem_of_getElem? h2) x Dt).2;have:=cg h3;omega
  ·split at h2
   ·cases h2;have:=(hs.ar p (List.mem_of_getElem? h1) x h3).2;have:=cg Dt;omega
   ·exact hs.ah i j p q x h1 h2 h3 Dt
 ·intro p hp x hx;rcases jn p hp with h|rfl
  ·have:=hs.ar p h x hx;exact⟨this.1,by omega⟩
  ·rw[cg hx];exact⟨.inl hs.frame.size,by simp[bM]⟩
 ·rcases List.mem_or_eq_of_mem_set h with h|h
  ·exact hs.cz du h
  ·cases h
theorem aF.MD(hs:aF c s m a w ids)(b:Nat)(hb:m[b]?=some .dead)(x:aq)(vs:Array Value)(ty:TypeId)(n sz:Nat)
  (hx:∀ab bl w',(∀b,au c ids w b->bl b)->(∀b,au c ids w b->w'.heap[b]?=w.heap[b]?)->(∀(b:Nat) p,ids[b]?=some p->p≠.dead->ab[b]?=some p) ->
   w'.heap[w.heap.size]?=some (.cells vs ty (0,0))->aV ab bl w' x (.lv (mkId w.heap.size vs.size n sz))) :
  aF c s (m.set b x) a (w.alloc (.cells vs ty)) (ids.set b (.lv (mkId w.heap.size vs.size n sz))) :=
 hs.zV b hb x (.cells vs ty) vs.size n sz fun ab bl w' h1 h2 h3 h4=>hx ab bl w' h1 h2 h3 (h4.trans (by
  show(w.heap.push _)[w.heap.size]?=_;simp))

def DX:Op->Bool
 | .alloc _=>true
 | .box _ _=>true
 | .buildSlice _ _ _=>true
 | .makeSlice _ _ _=>true
 | .call { callee:=.builtin .append,.. }=>true
 | .makeMap _ none=>true
 | _=>false
theorem zW(m:List aq):∀(xs:List aq) (k:Nat),gr m (My k xs)=setAt m k xs
 | [],_=>rfl
 | x::xs,k=>by rw[My,gr,zW m xs (k+1)];rfl

/-- A new block at a kept place. -/
theorem oB(hs:aF c s m a w ids){az:Nat}(dB:m[az]?=some .dead)(x:aq)(vs:Array Value)(ty:TypeId)(n sz:Nat){r:A}{v:Value}
  (bR:(execOp a.eval o).run P w=.ok (.value v) (w.alloc (.cells vs ty)))
  (hx:∀ab bl w',(∀b,au c ids w b->bl b)->(∀b,au c ids w b->w'.heap[b]?=w.heap[b]?)->(∀(b:Nat) p,ids[b]?=some p->p≠.dead->ab[b]?=some p) ->
   w'.heap[w.heap.size]?=some (.cells vs ty (0,0))->aV ab bl w' x (.lv (mkId w.heap.size vs.size n sz)))
  (hr:∀ab bl w',ab[az]?=some (.lv (mkId w.heap.size vs.size n sz))->Rel ab bl w' r v)
  (hn:∀a' w' ab,aF c (aZ s o.dst r) (m.set az x) a' w' ab->next a' w'):o.wp P a w next Q:=by
 have bH:=hs.MD az dB x vs ty n sz hx;refine aQ bR (hn _ _ _ (bH.aZ o.dst (hr _ _ _ ?_)));have hl:=(List.getElem?_eq_some_iff.1 dB).1;have:az<ids.length:=by rw[hs.aK];exact hl
 rw[List.getElem?_set_self this]

theorem Ca(aJ:bo P tt)(hs:aF c s m a w ids){t:TypeId}{X Y:Operand}(ho:o.op=.call { callee:=.builtin .append,args:=#[X,Y],argTypes:=#[t,t] }){az:Nat}{r:Oc}
  (h:B0 tt t (ev s X) (ev s Y) az m fun v u rd=>v=r.v/\u=r.u/\rd=r.rd)
  (hn:∀a' w' ab,aF c (aZ s o.dst r.v) (gr m r.u) a' w' ab->next a' w'):o.wp P a w next Q:=by
 have hx:=hs.ev X;have hy:=hs.ev Y
 have e:(execOp a.eval o)=(do pure (.value (<-Builtin.append_ #[t,t] o.type #[a.eval X,a.eval Y]))):=by
  obtain⟨dst,op,ty,pos,after,guard⟩:=o;simp only at ho;subst ho;simp[execOp,resolve,invoke,builtin]
 unfold B0 at h;split at h
 ·exact h.elim
 ·rename_i ti iQ;obtain⟨i0,d,z0,_,hd,_,_,_,_,_,_,_,_,_,iU,_⟩:=aJ.facts iQ;split at h
  ·rename_i n2 iy hk hv;obtain⟨ie,ze,gZ,iw,bM,Al,hz,oG,hne⟩:=iU hk;subst gZ;obtain⟨news,L8,PH⟩:=tm hs hv hy
   have L9:(a.eval Y=.slice none 0 0/\n2=0/\news=[])\/∃ad cp,a.eval Y=.slice (some ad) n2 cp/\news.length=n2*ie.size/\(∀j u,news[j]?=some u->w.cell? (ad.add j)=some u):=by
    rcases PH with h|⟨ad,cp,h1,h2⟩
    ·exact .inl h
    ·exact .inr ⟨ad,cp,h1,by rw[bM];exact L8.1,h2⟩
   have Fb:ze.cells.size=ie.size:=by rw[oG,bM]
   split at h
   ·rename_i b LZ;rw[LZ] at hx;split at h
    ·rename_i ty sz n row hb;split at h
     ·rename_i lZ j8;have lZ:=Nat.eq_of_beq_eq_true lZ;have j8:=Nat.eq_of_beq_eq_true j8;subst lZ;subst j8;simp only[aN] at h;obtain⟨⟨Ay,qS⟩,h⟩:=h;obtain⟨⟨r1,r2,_⟩,fp,zX⟩:=cT h;have dB:=gM fp zX;obtain⟨aI,hm⟩:=iS hb;have eD:b<ids.length:=by rw[hs.aK];exact aI
      have Ki:az<m.length:=(List.getElem?_eq_some_iff.1 dB).1;have kH:m[b]?≠some .dead:=by rw[List.getElem?_eq_getElem aI,hm];simp
      have AL:az≠b:=fun e=>by subst e;exact kH dB
      have hB:=hs.bu b aI eD;rw[hm] at hB;have SY:gr m [(az,aq.row ti.aM ti.br (n+n2) (bN n row iy)),(b,.gone)]=(m.set b .gone).set az (.row ti.aM ti.br (n+n2) (bN n row iy)):=rfl
      have L5:∃xs,dz (au c ids w) w n ti.br row xs/\((a.eval X=.slice none 0 0/\n=0/\xs=[])\/∃g cap cur,a.eval X=.slice (some ⟨g,0,none⟩) n cap/\w.heap[g]?=some (.cells cur ti.aM (0,0))/\n<=cap/\cap<=maxLen/\cur.size=cap*ie.size/\cur.toList.take (n*ie.size)=xs) /\
        ((a.eval X).ownBlock=none\/∃p,ids[b]?=some (.lv p)/\(a.eval X).ownBlock=some p.ao):=by
       rcases hs.fk hx (by rw[hb];simp) with⟨h1,h2⟩|⟨p,cap,h1,h2,h3,h4⟩
       ·have:ids[b]=.aP:=by rw[List.getElem?_eq_getElem eD] at h1;exact Option.some.inj h1
        rw[this] at hB;have hB:n=0:=hB;subst hB;exact⟨[],dz.nil _ _ _ _,.inl ⟨h2,rfl,rfl⟩,.inl (by rw[h2];rfl)⟩
       ·have:ids[b]=.lv p:=by rw[List.getElem?_eq_getElem eD] at h1;exact Option.some.inj h1
        rw[this] at hB;obtain⟨cur,e1,e2,g1,g2,g3,hR⟩:=hB.Dy;subst e2;exact⟨_,hR,.inr ⟨p.ao,cap,cur,h4,g1,h2.1,h2.2,by rw[g2,<-h3,e1,bM],by rw[bM]⟩,.inr ⟨p,h1,by rw[h4];rfl⟩⟩
      obtain⟨xs,U5,PN,aU⟩:=L5;obtain⟨v',w',bR,o1,o2,o3,o4,o5,L',o6⟩:=kJ (P:=P) (w:=w) t o.type ti.aM ie ze hd iw hz Fb (a.eval X) n xs PN (a.eval Y) n2 news L9 L8.2.1 Ay (by rw[Al];exact qS);have U6:=U5.cat L8
      have hblk:∀k,k<w.heap.size->(∀p,ids[b]?=some (.lv p)->¬p.has k)->w'.heap[k]?=w.heap[k]?:=by
       intro k hk hp;refine o5 k hk (fun e=>?_);rcases aU with h|⟨p,h1,h2⟩
       ·rw[h] at e;cases e
       ·rw[h2] at e;exact hp p h1 (.inl (Option.some.inj e).symm)
      rcases o6 with⟨rfl,ua⟩|⟨g,cap,cur,rfl,q1,q2,q3,q4,q5,q6,q7⟩
      ·have bH:=hs.wU (w':=w') b az aI kH dB .aP (.row ti.aM ti.br (n+n2) (bN n row iy)) o1 o2 o3 o4 hblk (fun _ h=>by cases h) (fun p' h=>by cases h) (fun _=>ua) L'
       refine aQ (v:=.slice none 0 0) (w':=w') (by rw[e];simp[bR]) (hn _ _ _ (by
        rw[<-r1,<-r2,SY];refine bH.aZ o.dst (.fH az ?_);rw[List.getElem?_set_self (by simp;rw[hs.aK];exact Ki)]))
      ·rw[bM] at q4 q5
       have bH:=hs.wU (w':=w') b az aI kH dB (.lv (mkId g cur.size (n+n2) ti.br)) (.row ti.aM ti.br (n+n2) (bN n row iy)) o1 o2 o3 o4 hblk (fun _ h=>by cases h)
        (fun p' h x hx=>by
         cases h;have:=cg hx;subst this;refine⟨q6,?_⟩;rcases q7 with h|h
         ·exact .inl h
         ·rcases aU with h'|⟨p,h1,h2⟩
          ·rw[h'] at h;cases h
          ·rw[h2] at h;exact .inr ⟨p,h1,.inl (Option.some.inj h).symm⟩)
        (fun hm=>aV.mB q1 q4 q2 q5 (U6.mono hm)) L'
       refine aQ (v:=.slice (some ⟨g,0,none⟩) (n+n2) cap) (w':=w') (by rw[e];simp[bR]) (hn _ _ _ (by
        rw[<-r1,<-r2,SY];refine bH.aZ o.dst (.own az cap (mkId g cur.size (n+n2) ti.br) ?_ ⟨q2,q3⟩ q4.symm);rw[List.getElem?_set_self (by simp;rw[hs.aK];exact Ki)]))
     ·exact h.elim
    ·exact h.elim
   ·exact h.elim
  ·exact h.elim

theorem zY(aJ:bo P tt)(hs:aF c s m a w ids){t:TypeId}{X:Operand}(ho:o.op=.load t X){b i off:Nat}(hX:ev s X=.oref b i off){ty aM:TypeId}{sz n:Nat}{hole:Option Nat}{len:Nat->Nat}{row:Nat->Nat->List A}
  (hb:m.getD b .dead=.nest ty aM sz n hole len row) {az:Nat} {r:Oc} (h:vm tt t b i off ty aM sz n hole len row az m fun v u rd=>v=r.v/\u=r.u/\rd=r.rd)
  (hn:∀a' w' ab,aF c (aZ s o.dst r.v) (gr m r.u) a' w' ab->next a' w'):o.wp P a w next Q:=by
 unfold vm at h;split at h
 ·exact h.elim
 ·rename_i ti iQ;split at h
  ·rename_i hk xC gu;obtain⟨pA,h⟩:=h;obtain⟨⟨r1,r2,_⟩,fp,zX⟩:=cT h;have dB:=gM fp zX;obtain⟨i0,d,z,hi,hd,_,_,_,_,_,FR,_,_,nz,iU,_⟩:=aJ.facts iQ;obtain⟨ie,ze,BG,iw,ng,_⟩:=iU hk;subst BG;obtain⟨p,vs,ab,v,q1,q2,q3,q4,q5,q6⟩:=hs.P1 dB hb pA;have hx:=hs.ev X;rw[hX] at hx;obtain⟨p',g1,g2⟩:=hs.kB hx (by rw[hb];simp);rw[q1] at g1;cases g1
   have hc:w.cell? ⟨p.ao,i*p.sz+0,none⟩=some v:=by
    rw[q4,cell_of_row w p.ao _ vs ty (0,0) q2];simpa using q3
   have bR:=ic (P:=P) (w:=w) hd (by rfl) p.ao (i*p.sz+0) v hc;refine aQ (v:=v) (w':=w) ?_ (hn _ _ ab (by rw[<-r1,<-r2];exact q5.aZ o.dst q6))
   have e1:execOp a.eval o=(do let z <-loadVar t ⟨p.ao,i*p.sz+0,none⟩;pure (.value z)):=by
    unfold execOp;rw[ho];simp only[g2];rfl
   rw[e1];simp at bR;simp[bR]
  ·exact h.elim

theorem Cb(aJ:bo P tt)(hs:aF c s m a w ids){t:TypeId}{X Y:Operand}(ho:o.op=.store t X Y){b i off:Nat}(hX:ev s X=.oref b i off){ty aM:TypeId}{sz n:Nat}{hole:Option Nat}{len:Nat->Nat}{row:Nat->Nat->List A}
  (hb:m.getD b .dead=.nest ty aM sz n hole len row) {r:Oc} (h:Fs tt t b i off (ev s Y) ty aM sz n hole len row m fun v u rd=>v=r.v/\u=r.u/\rd=r.rd)
  (hn:∀a' w' ab,aF c (aZ s o.dst r.v) (gr m r.u) a' w' ab->next a' w'):o.wp P a w next Q:=by
 unfold Fs at h;split at h
 ·rename_i b' ti j hY iQ;split at h
  ·rename_i um qQ n' dr qR gj rf;split at h
   ·rename_i xC gu;have qR:ti.size=1:=Nat.eq_of_beq_eq_true qR;have xC:=Nat.eq_of_beq_eq_true xC;have gu:=Nat.eq_of_beq_eq_true gu;subst xC;subst gu;obtain⟨⟨kU,pA⟩,r1,r2,_⟩:=h;subst kU;have hne:b≠b':=fun e=>by subst e;rw[Nat.beq_refl] at rf;cases rf
    have hx:=hs.ev X;have hy:=hs.ev Y;rw[hX] at hx;rw[hY] at hy;obtain⟨i0,d,z,hi,hd,_,PS,_⟩:=aJ.facts iQ;obtain⟨p,vs,ab,q1,q2,q3,q4,q5⟩:=hs.Jy hb gj hne pA hy;obtain⟨p',g1,g2⟩:=hs.kB hx (by rw[hb];simp);rw[q1] at g1;cases g1;obtain⟨o1,o2⟩:=oe (by rfl) hy;have qL:=fO (P:=P) (w:=w) hi p.ao (i*p.sz+0) ty vs (a.eval Y) [a.eval Y] o2 (by rw[PS,qR];rfl) (by intro u hu;rw[List.mem_singleton.1 hu];exact o1) q2 (by rw[q4];simp;omega);rw[q4] at qL;simp only[Nat.mul_one,Nat.add_zero] at qL;rw[zt vs i _ q3] at qL;refine gB (w':=w.setRow p.ao (vs.setIfInBounds i (a.eval Y))) ?_ (hn _ _ ab (by rw[<-r1,<-r2];exact q5.jS o.dst _))
    have e1:execOp a.eval o=(do storeVar t ⟨p.ao,i*p.sz+0,none⟩ (a.eval Y);pure .skip):=by
     unfold execOp;rw[ho];simp only[g2];rfl
    rw[e1,q4];simp[qL]
   ·exact h.elim
  ·exact h.elim
 ·exact h.elim

theorem cV(aJ:bo P tt)(hG:G.ok c)(hs:aF c s m a w ids){r:Oc}(h:gv P G tt o s m fun v u rd=>v=r.v/\u=r.u/\rd=r.rd)
  (hn:∀a' w' ab,aF c (aZ s o.dst r.v) (gr m r.u) a' w' ab->next a' w'):o.wp P a w next Q:=by
 unfold gv at h;split at h
 ·rename_i Qe hq hr;refine nh (K:=fun v m'=>(v=r.v/\[]=r.u/\Qe=r.rd)/\m'=m) aJ hG hs ?_ ?_
  ·rw[Qc hq];simpa using h
  ·rintro v m' a' w' ab ⟨⟨rfl,e2,_⟩,rfl⟩ bH;refine hn a' w' ab ?_;rw[<-e2];exact bH
 ·exact h.elim

theorem xh(aJ:bo P tt)(hs:aF c s m a w ids){t:TypeId}{X:Operand}{hi:Option Operand}{b:Nat}(ho:o.op=.slice t X none hi none)(hX:ev s X=.own b){az:Nat}{r:Oc}
  (h:lX tt t b (og s hi) az m fun v u rd=>v=r.v/\u=r.u/\rd=r.rd)
  (hn:∀a' w' ab,aF c (aZ s o.dst r.v) (gr m r.u) a' w' ab->next a' w'):o.wp P a w next Q:=by
 have hx:=hs.ev X;rw[hX] at hx;have e:execOp a.eval o=(do let z <-Instr.sliceAt t (a.eval X) ((none:Option Operand).map a.eval) (hi.map a.eval) none;pure (.value z)):=by unfold execOp;rw[ho];rfl
 unfold lX at h;split at h
 ·rename_i ti iQ;obtain⟨i0,d,z0,_,hd,_,_,_,_,_,_,_,_,_,iU,_⟩:=aJ.facts iQ;split at h
  ·rename_i ty sz n row hk hb;obtain⟨ie,ze,gZ,iw,bM,Al,hz,oG,hne⟩:=iU hk;subst gZ
   have u6:P.underlying t=some (.slice (P.elem t)):=by
    have:P.elem t=ti.aM:=by simp[Program.elem,hd]
    rw[this];exact hd
   have Fa:P.elem t=ti.aM:=by simp[Program.elem,hd]
   obtain⟨aI,hm⟩:=iS hb;have eD:b<ids.length:=by rw[hs.aK];exact aI
   have kH:m[b]?≠some .dead:=by rw[List.getElem?_eq_getElem aI,hm];simp
   have hB:=hs.bu b aI eD;rw[hm] at hB;rcases hs.fk hx (by rw[hb];simp) with⟨h1,h2⟩|⟨p,cap,h1,h2,h3,h4⟩
   ·have:ids[b]=.aP:=by rw[List.getElem?_eq_getElem eD] at h1;exact Option.some.inj h1
    rw[this] at hB;have hB:n=0:=hB;subst hB;obtain⟨gj,h,b1,b2,b3⟩:=fg hs h (Nat.le_refl _)
    have h0:gj=0:=by
     cases hi with
     | none=>exact b1 rfl
     | some L=>have:=b2 rfl;omega
    subst h0;obtain⟨⟨r1,r2,_⟩,fp,zX⟩:=cT h;have dB:=gM fp zX;have Ki:az<m.length:=(List.getElem?_eq_some_iff.1 dB).1;have bH:=hs.wU (w':=w) b az aI kH dB .aP (.row ty sz 0 row) rfl rfl rfl (Nat.le_refl _) (fun _ _ _=>rfl) (fun _ h=>by cases h) (fun p' h=>by cases h) (fun _=>rfl)
    refine aQ (v:=.slice none 0 0) (w':=w) ?_ (hn _ _ _ (by
     rw[<-r1,<-r2];refine bH.aZ o.dst (.fH az ?_);rw[List.getElem?_set_self (by simp;rw[hs.aK];exact Ki)]))
    rw[e,h2,Sem.run_bind,run_sliceAt_slice _ _ _ _ _ _ u6,run_slice_any _ _ _ _ _ u6];have:=dq (P:=P) (w:=w) (a:=a) (Kf:=true) (len:=0) (cap:=0) (lo:=none) b1 (fun _=>rfl) b3 (fun X h=>by cases h);simp only[Option.map_none] at this;simp[this,Fa,sizeOf,typeInfo,iw,bM,sliced]
   ·have:ids[b]=.lv p:=by rw[List.getElem?_eq_getElem eD] at h1;exact Option.some.inj h1
    rw[this] at hB;obtain⟨gj,h,b1,b2,b3⟩:=fg hs h (show n<=cap by have:=hB.2.1;omega);obtain⟨e1,e2,vs,g1,g2,g3,g4,g5⟩:=hB
    have hle:gj<=n:=by
     cases hi with
     | none=>have:=b1 rfl;omega
     | some L=>exact b2 rfl
    obtain⟨⟨r1,r2,_⟩,fp,zX⟩:=cT h;have dB:=gM fp zX;have Ki:az<m.length:=(List.getElem?_eq_some_iff.1 dB).1
    have bH:=hs.wU (w':=w) b az aI kH dB (.lv (mkId p.ao p.k gj p.sz)) (.row ty sz gj row) rfl rfl rfl (Nat.le_refl _) (fun _ _ _=>rfl) (fun _ h=>by cases h)
     (fun p' h x hx=>by cases h;rw[cg hx];exact⟨(hs.fresh p (List.mem_of_getElem? h1)).2,.inr ⟨p,h1,.inl rfl⟩⟩)
     (fun Gn=>⟨e1,rfl,vs,g1,g2,Nat.le_trans (Nat.mul_le_mul_right _ hle) g3,fun i hi=>g4 i (by omega),fun i j hi h h'=>⟨Gn _ _ (g5 i j (by omega) h h').1,(g5 i j (by omega) h h').2⟩⟩)
    refine aQ (v:=.slice (some ⟨p.ao,0,none⟩) gj cap) (w':=w) ?_ (hn _ _ _ (by
     rw[<-r1,<-r2];refine bH.aZ o.dst (.own az cap (mkId p.ao p.k gj p.sz) ?_ ⟨by show gj<=cap;omega,h2.2⟩ h3);rw[List.getElem?_set_self (by simp;rw[hs.aK];exact Ki)]))
    rw[e,h4,Sem.run_bind,run_sliceAt_slice _ _ _ _ _ _ u6,run_slice_any _ _ _ _ _ u6,e2];have:=dq (P:=P) (w:=w) (a:=a) (Kf:=true) (len:=n) (cap:=cap) (lo:=none) b1 (fun _=>rfl) b3 (fun X h=>by cases h);simp only[Option.map_none] at this;have e3:(⟨p.ao,0,none⟩:Addr).add 0=⟨p.ao,0,none⟩:=rfl;simp[this,Fa,sizeOf,typeInfo,iw,bM,sliced,e3]
  ·exact h.elim
 ·exact h.elim
theorem zZ(aJ:bo P tt)(hs:aF c s m a w ids){t:TypeId}{X Y:Operand}{ok:Bool}(ho:o.op=.lookup t X Y ok){r:Oc}(h:vo tt t (ev s X) (ev s Y) ok m fun v u rd=>v=r.v/\u=r.u/\rd=r.rd)
  (hn:∀a' w' ab,aF c (aZ s o.dst r.v) (gr m r.u) a' w' ab->next a' w'):o.wp P a w next Q:=by
 unfold vo at h;obtain⟨v,⟨rfl,e2,_⟩,h1⟩:=(tK (tt:=tt) (m:=m) t _ _ ok _).1 h;refine qn (K:=fun v' m'=>v'=r.v/\m'=m) aJ hs ho ?_ ?_
 ·simpa using h1
 ·rintro v' m' a' w' ab ⟨rfl,rfl⟩ bH;refine hn a' w' ab ?_;rw[<-e2];exact bH
theorem tN(aJ:bo P tt)(hs:aF c s m a w ids){t:TypeId}{X Y Z:Operand}(ho:o.op=.mapUpdate t X Y Z\/o.op=.insert t X Y Z){r:Oc}(h:uA tt t (ev s X) (ev s Y) (ev s Z) m fun v u rd=>v=r.v/\u=r.u/\rd=r.rd)
  (hn:∀a' w' ab,aF c (aZ s o.dst r.v) (gr m r.u) a' w' ab->next a' w'):o.wp P a w next Q:=by
 unfold uA at h;obtain⟨agg,sh,z,h1,h2⟩:=gi h;refine nr (K:=fun v' m'=>v'=r.v/\m'=gr m r.u) aJ hs ho ?_ ?_
 ·unfold JB;refine h2 _ ?_;split at h1
  ·rename_i k b hk hx aU;split at h1
   ·rename_i hb;split at h1
    ·rename_i g1 g2;rw[dX] at h1;simp only[hk,hx,aU,hb,g1,g2,dX,eC];exact⟨h1.1,by rw[<-h1.2.1];rfl⟩
    ·exact h1.elim
   ·exact h1.elim
  ·exact h1.elim
 ·rintro v' m' a' w' ab ⟨rfl,rfl⟩ bH;exact hn a' w' ab bH
theorem xi(aJ:bo P tt)(hs:aF c s m a w ids){t:TypeId}(ho:o.op=.makeMap t none){az:Nat}{r:Oc}(h:kQ tt t az m fun v u rd=>v=r.v/\u=r.u/\rd=r.rd)
  (hn:∀a' w' ab,aF c (aZ s o.dst r.v) (gr m r.u) a' w' ab->next a' w'):o.wp P a w next Q:=by
 have e:execOp a.eval o=(do pure (.value (<-Instr.makeMap t none))):=by
  obtain⟨dst,op,ty,pos,after,guard⟩:=o;simp only at ho;subst ho;rfl
 unfold kQ at h;obtain⟨kt,et,agg,sh,z,zv,h1,h2,_,_,h⟩:=jY aJ h (au c ids w) w;obtain⟨⟨r1,r2,_⟩,fp,zX⟩:=cT h;have dB:=gM fp zX
 have bH:=hs.zV az dB (.ez agg sh (fun _=>false) (fun _=>.ae)) (.map #[] 0) 0 0 0 (fun ab bl w' _ _ _ h4=>by
  have h4:w'.heap[w.heap.size]?=some (.map #[] 0):=h4.trans (by
   show(w.heap.push _)[w.heap.size]?=_;simp)
  exact⟨#[],0,fun _=>[],h4,(fun i h=>by simp at h),(fun i j h=>by simp at h),(fun k _ h=>by simp at h),(fun i h=>by simp at h),(fun i h=>by simp at h),(fun i j h=>by simp at h)⟩)
 have hl:=(List.getElem?_eq_some_iff.1 dB).1;have UE:az<ids.length:=by rw[hs.aK];exact hl
 refine aQ (v:=.map (some w.heap.size)) (w':=w.alloc (.map #[] 0)) (by rw[e];simp only[Sem.run_bind,RowKit.run_makeMap,Result.andThen_ok];rfl) (hn _ _ (ids.set az (.lv (mkId w.heap.size 0 0 0))) ?_);rw[<-r1,<-r2];exact bH.aZ o.dst (.omap az (mkId w.heap.size 0 0 0) (by rw[List.getElem?_set_self UE]))
theorem Fw(aJ:bo P tt)(hG:G.ok c)(hs:aF c s m a w ids){az:Nat}{r:Oc}(h:Out P G tt o az s m r)
  (hn:∀a' w' ab,aF c (aZ s o.dst r.v) (gr m r.u) a' w' ab->next a' w'):o.wp P a w next Q:=by
 unfold Out qq at h;split at h
 ·rename_i t x lo hi ho;unfold SV at h;split at h
  ·rename_i b hX qH;have qH:lo=none:=by cases lo with|none=>rfl|some=>simp[og] at qH
   subst qH;exact xh aJ hs ho hX h hn
  ·exact cV aJ hG hs h hn
 ·rename_i ho;exact zZ aJ hs ho h hn
 ·rename_i ho;exact tN aJ hs (.inl ho) h hn
 ·rename_i ho;exact tN aJ hs (.inr ho) h hn
 ·rename_i ho;exact xi aJ hs ho h hn
 ·rename_i t ho;unfold xb at h;split at h
  ·rename_i ti ht;obtain⟨⟨e1,e2,_⟩,fp,zX⟩:=cT h;obtain⟨i,d,z,hi,hd,hz,bM,fG,oG,hzero,_⟩:=aJ.facts ht;refine oB hs (gM fp zX) (.box t ti.zero) z.cells t 0 0 (r:=r.v) (v:=.pointer (some ⟨w.heap.size,0,none⟩)) ?_ ?_ ?_ (fun a' w' ab bH=>hn a' w' ab (by rw[<-e2];exact bH))
   ·unfold execOp;rw[ho];simp[Instr.alloc,zeroValue,typeInfo,hi,hz,newVar,newRow]
   ·intro ab bl w' g1 g2 g3 g4;refine⟨z.cells,g4,rfl,by simp[hzero],?_⟩;intro j hj bW;refine⟨?_,fG _ (by simp)⟩;simp only[hzero,List.getElem_map,Array.getElem_toList];exact .aH (dT _ _ _)
   ·intro ab bl w' g;rw[<-e1];exact .ref az 0 _ g
  ·exact h.elim
 ·rename_i t x ho;unfold Mx at h;split at h
  ·rename_i cs hc;obtain⟨⟨e1,e2,_⟩,fp,zX⟩:=cT h;obtain⟨vs,h1,h2,h3,h4⟩:=mz hc (hs.ev x);refine oB hs (gM fp zX) (.box t cs) vs.toArray t 0 0 (r:=r.v) (v:=.pointer (some ⟨w.heap.size,0,none⟩)) ?_ ?_ ?_ (fun a' w' ab bH=>hn a' w' ab (by rw[<-e2];exact bH))
   ·unfold execOp;rw[ho];simp[Instr.box,newVar,newRow,h1]
   ·intro ab bl w' g1 g2 g3 g4;refine⟨vs.toArray,g4,rfl,by simp[h2],?_⟩;intro j hj bW;simp at bW;refine⟨(by simpa using(h4 j hj bW).mono g1 g2 g3),?_⟩;simpa using h3 _ (List.getElem_mem bW)
   ·intro ab bl w' g;rw[<-e1];exact .ref az 0 _ g
  ·exact h.elim
 ·rename_i t len ps ho;unfold oA at h;split at h
  ·rename_i ti ht;split at h
   ·rename_i te hk xx Ma;obtain⟨dc,du,f2,DD⟩:=DB (P:=P) aJ hs ht hk xx (Nat.le_of_ble_eq_true Ma) h;split at f2
    ·rename_i aU hlen;split at f2
     ·simp only[aN] at f2;obtain⟨⟨e1,e2,_⟩,fp,zX⟩:=cT f2;obtain⟨bR,uC,TJ,hB⟩:=DD aU (Nat.eq_of_beq_eq_true hlen);refine oB hs (gM fp zX) _ du ti.aM len ti.br (r:=r.v) (v:=.slice (some ⟨w.heap.size,0,none⟩) len len) ?_ hB ?_ (fun a' w' ab bH=>hn a' w' ab (by rw[<-e2];exact bH))
      ·unfold execOp;rw[ho];simp only[Sem.run_bind,bR];rfl
      ·intro ab bl w' g;rw[<-e1];exact .own az len _ g ⟨Nat.le_refl _,TJ⟩ uC.symm
     ·simp only[aN] at f2;obtain⟨e1,e2,_⟩:=f2;obtain⟨bR,uC,TJ,hB⟩:=DD aU (Nat.eq_of_beq_eq_true hlen);have Qf:=je w (.cells du ti.aM);have bH:=hs.same Qf;have lh:(w.alloc (.cells du ti.aM)).heap[w.heap.size]?=some (.cells du ti.aM (0,0)):=heap_alloc_new w _
      have uc:∀b,au c ids w b->au c ids (w.alloc (.cells du ti.aM)) b:=by
       intro b hb;rcases hb with hb|⟨h1,h2,h3⟩
       ·exact .inl hb
       ·exact .inr ⟨h1,Nat.lt_of_lt_of_le h2 Qf.size,h3⟩
      have FT:=hB ids (au c ids (w.alloc (.cells du ti.aM))) (w.alloc (.cells du ti.aM)) uc (fun b hb=>Qf.block b (cw hs hb)) (fun _ _ h _=>h) lh;refine aQ (w':=w.alloc (.cells du ti.aM)) (v:=.slice (some ⟨w.heap.size,0,none⟩) len len) (by unfold execOp;rw[ho];simp only[Sem.run_bind,bR];rfl) (hn _ _ ids ?_);rw[<-e1,<-e2];refine bH.aZ o.dst (.aH ?_);obtain⟨_,_,W4,q1,q2,q3,q4,q5⟩:=FT;have q1:(w.alloc (.cells du ti.aM)).heap[w.heap.size]?=some (.cells W4 ti.aM (0,0)):=q1;rw[lh] at q1;have q1:du=W4:=by simpa using q1
      subst q1
      have aI:∀i j,i<len->j<(fT ti.br (dc.drop (i*ti.br))).length->i*ti.br+j<du.size:=by
       intro i j hi hj;rw[q4 i hi] at hj;have:=Nat.mul_le_mul_right ti.br (show i+1<=len from hi);rw[Nat.add_mul] at this;omega
      refine .sl len ti.br _ w.heap.size 0 len (fun i j=>du.getD (i*ti.br+j) undef) (.inr ⟨.inl hs.frame.size,by simp,fun p hp hx=>?_⟩) (Nat.le_refl _) q4 ?_ ?_ ?_
      ·have:=(hs.ar p hp _ hx).2;omega
      ·intro i j hi hj;have bW:j<(fT ti.br (dc.drop (i*ti.br))).length:=by rw[q4 i hi];exact hj
       rw[Nat.zero_add,cell_of_row _ _ _ _ _ (0,0) lh,Array.getElem?_eq_getElem (aI i j hi bW),Array.getD_eq_getD_getElem?,Array.getElem?_eq_getElem (aI i j hi bW)];rfl
      ·intro i j hi hj;have bW:j<(fT ti.br (dc.drop (i*ti.br))).length:=by rw[q4 i hi];exact hj
       have:=(q5 i j hi bW (aI i j hi bW)).2;rw[Array.getD_eq_getD_getElem?,Array.getElem?_eq_getElem (aI i j hi bW)];exact this
      ·intro i j hi hj;have:=(q5 i j hi hj (aI i j hi hj)).1;rw[Array.getD_eq_getD_getElem?,Array.getElem?_eq_getElem (aI i j hi hj)];exact this
    ·exact f2.elim
   ·exact h.elim
  ·exact h.elim
 ·rename_i t L C ho;have hl:=hs.ev L;have hc:=hs.ev C;unfold DU at h;split at h
  ·rename_i ti k1 l k2 k iQ hL hC;rw[hL] at hl;rw[hC] at hc;obtain⟨i0,d,z0,_,hd,_,_,_,_,_,_,_,_,_,iU,_⟩:=aJ.facts iQ;split at h
   ·rename_i te hk xx;obtain⟨ie,ze,gZ,iw,bM,Al,hz,oG,hne⟩:=iU hk;subst gZ;obtain⟨i1,d1,z1,dt,_,Nn,_,fG,_,hzero,_⟩:=aJ.facts xx;have e1:i1=ie:=by rw[iw] at dt;exact(Option.some.inj dt).symm
    subst e1;have e2:z1=ze:=by rw[hz] at Nn;exact(Option.some.inj Nn).symm
    subst e2;simp only[aN,ck] at h;obtain⟨⟨c1,c2,c3,c4⟩,h⟩:=h;obtain⟨⟨f1,f2,_⟩,fp,zX⟩:=cT h;have bR:=run_make (P:=P) w t ti.aM i1 z1 hd iw hz k1 k2 l k c1 c2 (by rw[Al,Int.mul_comm];omega) (by omega);refine oB hs (gM fp zX) (.row ti.aM ti.br l.toNat fun _=>te.zero) (madeCells z1.cells (k.toNat*i1.size)) ti.aM l.toNat ti.br (r:=r.v) (v:=.slice (some ⟨w.heap.size,0,none⟩) l.toNat k.toNat) ?_ ?_ ?_ (fun a' w' ab bH=>hn a' w' ab (by rw[<-f2];exact bH))
    ·unfold execOp;rw[ho];simp only[hl.bS,hc.bS,Sem.run_bind,bR];rfl
    ·intro ab bl w' g1 g2 g3 g4;rw[bM] at g4 ⊢;refine aV.mB (cap:=k.toNat) g4 (by simp[size_madeCells]) (by omega) rfl ?_;rw[hzero];exact ni oG (by omega) fG
    ·intro ab bl w' g;rw[<-f1];refine .own _ k.toNat _ g ⟨by show l.toNat<=k.toNat;omega,by simp only[maxLen];omega⟩ ?_;simp[size_madeCells,bM]
   ·exact h.elim
  ·exact h.elim
 ·rename_i args ts ho;split at h
  ·rename_i x y t t' hx ht;split at h
   ·rename_i he;have he:=Nat.eq_of_beq_eq_true he;subst he;have e1:args = #[x,y]:=by apply Array.ext';simpa using hx
    have e2:ts = #[t',t']:=by apply Array.ext';simpa using ht
    subst e1;subst e2;exact Ca aJ hs ho h hn
   ·exact h.elim
  ·exact h.elim
 ·rename_i f args ts ho;rcases h with h|h
  ·exact cV aJ hG hs h hn
  ·unfold tJ at h;refine qm hs hG ho h ?_;intro r' iC hk;obtain⟨⟨e1,e2,_⟩,hd⟩:=pI _ _ hk;refine⟨m,ids,hs,?_,?_⟩
   ·intro j hj;exact gM (hd j hj).1 (hd j hj).2
   ·intro a' w' ab bH;refine hn a' w' ab ?_;rw[<-e1,<-e2,zW];exact bH
 ·rename_i args ts ho;split at h
  ·rename_i x t hx ht;have e1:args = #[x]:=by apply Array.ext';simpa using hx
   have e2:ts = #[t]:=by apply Array.ext';simpa using ht
   subst e1;subst e2;unfold JS at h;split at h
   ·rename_i g sh has val hX;unfold DV at h;obtain⟨agg,tA,z,⟨n,h1,h2,h3,_⟩,h4⟩:=gi h;refine jy (K:=fun v' m'=>v'=r.v/\m'=m) aJ hs ho ?_ ?_
    ·unfold oz;refine h4 _ ?_;rw[hX];exact fun keys k1 k2 k3=>⟨by rw[h1 keys k1 k2 k3];exact h2,rfl⟩
    ·rintro v' m' a' w' ab ⟨rfl,rfl⟩ bH;refine hn a' w' ab ?_;rw[<-h3];exact bH
   ·exact cV aJ hG hs h hn
  ·exact cV aJ hG hs h hn
 ·rename_i t x ho;unfold vn at h;split at h
  ·rename_i b i off hx;split at h
   ·rename_i hb;exact zY aJ hs ho hx hb h hn
   ·exact cV aJ hG hs h hn
  ·exact cV aJ hG hs h hn
 ·rename_i t x i ho;unfold Fq at h;split at h
  ·rename_i b hx;split at h
   ·rename_i ty aM sz n hole len row hb;split at h
    ·rename_i ti kk ix iQ hY;split at h
     ·rename_i hk he;obtain⟨TK,e1,e2,_⟩:=h;refine cG (K:=fun s1 v m'=>s1=s/\v=r.v/\m'=m) aJ hG hs ?_ ?_
      ·unfold lf;rw[ho];simp only[hx,hb,iQ,hY];rw[hk,he];exact⟨TK,trivial,e1,trivial⟩
      ·rintro s1 v m' a' w' ab ⟨rfl,rfl,rfl⟩ bH;refine hn a' w' ab ?_;rw[<-e2];exact bH
     ·exact h.elim
    ·exact h.elim
   ·exact cV aJ hG hs h hn
  ·exact cV aJ hG hs h hn
 ·rename_i t x y ho;unfold pG at h;split at h
  ·rename_i ti b off ht hx;split at h
   ·rename_i ty cs hb;refine kG (K:=fun v m'=>v=r.v/\m'=gr m r.u) aJ hs ho ?_ ?_
    ·obtain⟨vs,g1,g2,g3,g4⟩:=kF h;unfold s8;simp only[ht,hx,hb];unfold Kd;have e2:Nat.ble (off+ti.size) cs.length=true:=Nat.ble_eq_true_of_le g3;simp only[g1,g2,ck,eC,Nat.beq_refl,e2];exact⟨g4.1,by rw[<-g4.2.1];rfl⟩
    ·rintro v m' a' w' ab ⟨rfl,rfl⟩ bH;exact hn a' w' ab bH
   ·exact h.elim
  ·rename_i ti b i off ht hx;split at h
   ·rename_i ty sz n row hb;split at h
    ·rename_i aU;obtain⟨aI,h⟩:=h;rw[ck] at h;refine kG (K:=fun v m'=>v=r.v/\m'=gr m r.u) aJ hs ho ?_ ?_
     ·obtain⟨vs,g1,g2,g3,g4⟩:=kF h;unfold s8;simp only[ht,hx,hb,aU];unfold Kd;have e2:Nat.ble (off+ti.size) (row i).length=true:=Nat.ble_eq_true_of_le g3;simp only[g1,g2,ck,eC,Nat.beq_refl,e2];exact⟨aI,g4.1,by rw[<-g4.2.1];rfl⟩
     ·rintro v m' a' w' ab ⟨rfl,rfl⟩ bH;exact hn a' w' ab bH
    ·exact h.elim
   ·rename_i hb;exact Cb aJ hs ho hx hb h hn
   ·exact h.elim
  ·exact h.elim
 ·exact cV aJ hG hs h hn
end
structure Rc where
 ex:Bool
 oc:Oc
 v:A
abbrev fu:=List (Oper×Rc)

def fK(S:Nat->Bool):Nat->fu->List A->List A
 | _,[],s=>s
 | i,(o,r)::l,s=>fK S (i+1) l (if S i then aZ s o.dst r.v else s)
def jz(S:Nat->Bool):Nat->fu->List aq->List aq
 | _,[],m=>m
 | i,(_,r)::l,m=>jz S (i+1) l (if S i then gr m r.oc.u else m)

theorem j0(s:List A)(d:Option Nat)(v:A)(t:Nat):(aZ s d v).getD t .ae=if d=some t/\t<s.length then v else s.getD t .ae:=by
 cases d with
 | none=>simp[aZ]
 | some d =>
  simp only[aZ,List.getD_eq_getElem?_getD,List.getElem?_set,Option.some.injEq];by_cases h:d=t
  ·subst h;by_cases h2:d<s.length
   ·simp[h2]
   ·simp[h2]
  ·simp[h]
theorem oD(s:List A)(d:Option Nat)(v:A):(aZ s d v).length=s.length:=by cases d<;>simp[aZ]
theorem j4(m:List aq):∀u:List (Nat×aq),(gr m u).length=m.length
 | []=>rfl
 | (b,x)::u=>by rw[gr,List.length_set,j4 m u]
theorem iD(m:List aq)(t:Nat):∀u:List (Nat×aq),(gr m u).getD t .dead=match u.lookup t with|some x=>if t<m.length then x else m.getD t .dead|none=>m.getD t .dead
 | []=>rfl
 | (b,x)::u=>by
  rw[gr,List.getD_eq_getElem?_getD,List.getElem?_set,j4,List.lookup_cons];by_cases h:b=t
  ·subst h;simp only[beq_self_eq_true,if_true];by_cases h2:b<m.length
   ·simp[h2]
   ·simp[h2]
  ·have h':(t==b)=false:=by simpa using fun e=>h e.symm
   rw[if_neg h,h'];have:=iD m t u;rw[List.getD_eq_getElem?_getD] at this;exact this
theorem oE(S:Nat->Bool):∀(l:fu) (i:Nat) (s:List A),(fK S i l s).length=s.length
 | [],_,_=>rfl
 | (o,r)::l,i,s=>by rw[fK,oE];split<;>simp[oD]
theorem mD(S:Nat->Bool):∀(l:fu) (i:Nat) (m:List aq),(jz S i l m).length=m.length
 | [],_,_=>rfl
 | (o,r)::l,i,m=>by rw[jz,mD];split<;>simp[j4]

theorem j5(S S':Nat->Bool)(t:Nat):∀(l:fu) (i:Nat) (s s':List A),s.length=s'.length->s.getD t .ae=s'.getD t .ae ->
  (∀j o r,l[j]?=some (o,r)->o.dst=some t->S (i+j)=S' (i+j))->(fK S i l s).getD t .ae=(fK S' i l s').getD t .ae
 | [],_,_,_,_,h,_=>h
 | (o,r)::l,i,s,s',hl,h,hw=>by
  rw[fK,fK];refine j5 S S' t l (i+1) _ _ ?_ ?_ ?_
  ·split<;>split<;>simp[oD,hl]
  ·by_cases hd:o.dst=some t
   ·have:=hw 0 o r rfl hd;simp only[Nat.add_zero] at this;rw[this];split
    ·rw[j0,j0,hl,h]
    ·exact h
   ·have e1:∀s:List A,(aZ s o.dst r.v).getD t .ae=s.getD t .ae:=by
     intro s;rw[j0,if_neg (fun hh=>hd hh.1)]
    split<;>split<;>simp only[e1,h]
  ·intro j o' r' hj hd;have:=hw (j+1) o' r' (by simpa using hj) hd
   rwa [show i+(j+1)=i+1+j by omega] at this
theorem j6(S S':Nat->Bool)(t:Nat):∀(l:fu) (i:Nat) (m m':List aq),m.length=m'.length->m.getD t .dead=m'.getD t .dead ->
  (∀j o r x,l[j]?=some (o,r)->r.oc.u.lookup t=some x->S (i+j)=S' (i+j))->(jz S i l m).getD t .dead=(jz S' i l m').getD t .dead
 | [],_,_,_,_,h,_=>h
 | (o,r)::l,i,m,m',hl,h,hw=>by
  rw[jz,jz];refine j6 S S' t l (i+1) _ _ ?_ ?_ ?_
  ·split<;>split<;>simp[j4,hl]
  ·cases hu:r.oc.u.lookup t with
   | some x =>
    have:=hw 0 o r x rfl hu;simp only[Nat.add_zero] at this;rw[this];split
    ·rw[iD,iD,hu];simp only[hl,h]
    ·exact h
   | none =>
    have e0:∀m:List aq,(gr m r.oc.u).getD t .dead=m.getD t .dead:=fun m=>by rw[iD,hu]
    split<;>split<;>simp only[e0,h]
  ·intro j o' r' x hj hd;have:=hw (j+1) o' r' x (by simpa using hj) hd
   rwa [show i+(j+1)=i+1+j by omega] at this

theorem z8(S:Nat->Bool)(t:Nat):∀(l:fu) (i k:Nat) (s:List A) (o:Oper) (r:Rc),t<s.length->l[k]?=some (o,r)->o.dst=some t->S (i+k)=true ->
  (∀j o' r',k<j->l[j]?=some (o',r')->o'.dst=some t->S (i+j)=false)->(fK S i l s).getD t .ae=r.v
 | [],_,_,_,_,_,_,h,_,_,_=>by simp at h
 | (o1,r1)::l,i,k,s,o,r,ht,hk,hd,hS,hl=>by
  rw[fK];cases k with
  | zero =>
   simp only[List.getElem?_cons_zero,Option.some.injEq,Prod.mk.injEq] at hk;obtain⟨rfl,rfl⟩:=hk;simp only[Nat.add_zero] at hS
   have:=j5 S (fun _=>false) t l (i+1) (if S i then aZ s o1.dst r1.v else s) (if S i then aZ s o1.dst r1.v else s) rfl rfl (fun j o' r' hj fp=>by
    have:=hl (j+1) o' r' (by omega) (by simpa using hj) fp
    rwa [show i+(j+1)=i+1+j by omega] at this)
   rw[this]
   have bQ:∀(l:fu) (i:Nat) (s:List A),fK (fun _=>false) i l s=s:=by
    intro l;induction l with
    | nil=>intro i s;rfl
    | cons p l ih=>intro i s;rw[fK];simp[ih]
   rw[bQ,hS];simp only[if_true];rw[j0,if_pos ⟨hd,ht⟩]
  | succ k =>
   refine z8 S t l (i+1) k _ o r ?_ (by simpa using hk) hd ?_ ?_
   ·split<;>simp[oD,ht]
   ·rwa [show i+1+k=i+(k+1) by omega]
   ·intro j o' r' hj nQ fp;have:=hl (j+1) o' r' (by omega) (by simpa using nQ) fp
    rwa [show i+(j+1)=i+1+j by omega] at this
theorem Aa(S:Nat->Bool)(t:Nat):∀(l:fu) (i k:Nat) (m:List aq) (o:Oper) (r:Rc) (x:aq),t<m.length->l[k]?=some (o,r)->r.oc.u.lookup t=some x->S (i+k)=true ->
  (∀j o' r' x',k<j->l[j]?=some (o',r')->r'.oc.u.lookup t=some x'->S (i+j)=false)->(jz S i l m).getD t .dead=x
 | [],_,_,_,_,_,_,_,h,_,_,_=>by simp at h
 | (o1,r1)::l,i,k,m,o,r,x,ht,hk,hd,hS,hl=>by
  rw[jz];cases k with
  | zero =>
   simp only[List.getElem?_cons_zero,Option.some.injEq,Prod.mk.injEq] at hk;obtain⟨rfl,rfl⟩:=hk;simp only[Nat.add_zero] at hS
   have:=j6 S (fun _=>false) t l (i+1) (if S i then gr m r1.oc.u else m) (if S i then gr m r1.oc.u else m) rfl rfl (fun j o' r' x' hj fp=>by
    have:=hl (j+1) o' r' x' (by omega) (by simpa using hj) fp
    rwa [show i+(j+1)=i+1+j by omega] at this)
   rw[this]
   have bQ:∀(l:fu) (i:Nat) (m:List aq),jz (fun _=>false) i l m=m:=by
    intro l;induction l with
    | nil=>intro i m;rfl
    | cons p l ih=>intro i m;rw[jz];simp[ih]
   rw[bQ,hS];simp only[if_true];rw[iD,hd];simp[ht]
  | succ k =>
   refine Aa S t l (i+1) k _ o r x ?_ (by simpa using hk) hd ?_ ?_
   ·split<;>simp[j4,ht]
   ·rwa [show i+1+k=i+(k+1) by omega]
   ·intro j o' r' x' hj nQ fp;have:=hl (j+1) o' r' x' (by omega) (by simpa using nQ) fp
    rwa [show i+(j+1)=i+1+j by omega] at this

theorem Ab{s s':List A}(hl:s.length=s'.length)(h:∀t,s.getD t .ae=s'.getD t .ae):s=s':=by
 apply List.ext_getElem hl;intro i h1 h2;have:=h i;simpa[List.getD_eq_getElem?_getD,h1,h2] using this
theorem Ac{s s':List aq}(hl:s.length=s'.length)(h:∀t,s.getD t .dead=s'.getD t .dead):s=s':=by
 apply List.ext_getElem hl;intro i h1 h2;have:=h i;simpa[List.getD_eq_getElem?_getD,h1,h2] using this

/-- One more of the operations. -/
theorem ME(S S':Nat->Bool)(l:fu)(k:Nat)(s:List A)(o:Oper)(r:Rc)(hk:l[k]?=some (o,r))(hS:∀j,S' j=(S j||j==k))(hn:S k=false)
  (hc:∀j o' r',k<j->l[j]?=some (o',r')->o'.dst=o.dst->o.dst≠none->S j=false):fK S' 0 l s=aZ (fK S 0 l s) o.dst r.v:=by
 apply Ab (by simp[oE,oD]);intro t;rw[j0,oE];by_cases hd:o.dst=some t
 ·by_cases ht:t<s.length
  ·rw[if_pos ⟨hd,ht⟩];refine z8 S' t l 0 k s o r ht hk hd (by simp[hS]) ?_;intro j o' r' hj nQ fp;have:=hc j o' r' hj nQ (by rw[fp,hd]) (by rw[hd];simp);simp[hS,this];omega
  ·rw[if_neg (fun h=>ht h.2)]
   have e1:∀(S:Nat->Bool),(fK S 0 l s).getD t .ae=.ae:=by
    intro S;rw[List.getD_eq_getElem?_getD,List.getElem?_eq_none (by rw[oE];omega)];rfl
   rw[e1,e1]
 ·rw[if_neg (fun h=>hd h.1)];refine j5 S' S t l 0 s s rfl rfl ?_;intro j o' r' hj fp;simp only[Nat.zero_add,hS];have:j≠k:=by rintro rfl;rw[hk] at hj;cases hj;exact hd fp
  simp[this]
theorem MF(S S':Nat->Bool)(l:fu)(k:Nat)(m:List aq)(o:Oper)(r:Rc)(hk:l[k]?=some (o,r))(hS:∀j,S' j=(S j||j==k))(hn:S k=false)
  (hc:∀j o' r' b x x',k<j->l[j]?=some (o',r')->r.oc.u.lookup b=some x->r'.oc.u.lookup b=some x'->S j=false):jz S' 0 l m=gr (jz S 0 l m) r.oc.u:=by
 apply Ac (by simp[mD,j4]);intro t;rw[iD,mD];split
 ·rename_i x hu;by_cases ht:t<m.length
  ·rw[if_pos ht];refine Aa S' t l 0 k m o r x ht hk hu (by simp[hS]) ?_;intro j o' r' x' hj nQ fp;have:=hc j o' r' t x x' hj nQ hu fp;simp[hS,this];omega
  ·rw[if_neg ht]
   have e1:∀(S:Nat->Bool),(jz S 0 l m).getD t .dead=.dead:=by
    intro S;rw[List.getD_eq_getElem?_getD,List.getElem?_eq_none (by rw[mD];omega)];rfl
   rw[e1,e1]
 ·rename_i hu;refine j6 S' S t l 0 m m rfl rfl ?_;intro j o' r' x hj fp;simp only[Nat.zero_add,hS];have:j≠k:=by rintro rfl;rw[hk] at hj;cases hj;rw[hu] at fp;cases fp
  simp[this]
def tO(acc:List Nat)(o:Oper):Nat :=
 o.after.toList.foldl (fun s e=>match Region.binds .any e with
  | true=>s ||| 2 ^ e.on ||| acc.getD e.on 0
  | false=>s) 0
def jm:List Nat->List Oper->List Nat
 | acc,[]=>acc
 | acc,o::os=>jm (acc++[tO acc o]) os
abbrev Fp:=List Nat×List Nat
def MG(d:Option Nat)(l:List Nat):Bool:=match d with
 | some d=>BW d l
 | none=>false
def Ny(d e:Option Nat):Bool:=match d,e with
 | some d,some e=>Nat.beq d e
 | _,_=>false
def qu:List Nat->List Nat->Bool
 | [],_=>false
 | b::bs,l=>match BW b l with
  | true=>true
  | false=>qu bs l
def uB(ops:Array Oper)(oi oj:Oper)(fi fj:Fp):Bool :=
 MG oj.dst (oi.looksAt ops)||Ny oj.dst oi.dst||MG oi.dst (oj.looksAt ops)||qu fj.2 fi.1||qu fj.2 fi.2||qu fi.2 fj.1
/-- All pairs (i, j), i ahead, that meet are bound one behind the other. -/
def xj(ops:Array Oper)(mask:Nat)(oj:Oper)(fj:Fp):Nat->List (Oper×Fp)->Bool
 | _,[]=>true
 | i,(oi,fi)::l=>(!uB ops oi oj fi fj||mask.testBit i)&&xj ops mask oj fj (i+1) l
def xk(ops:Array Oper):List (Oper×Fp)->List (Oper×Fp×Nat)->Bool
 | _,[]=>true
 | done,(oj,fj,mk)::l=>xj ops mk oj fj 0 done&&xk ops (done++[(oj,fj)]) l
def Ad:Nat->List Oper->Bool
 | _,[]=>true
 | j,o::os=>(o.after.toList.all fun e=>!Region.binds .any e||decide (e.on<j))&&Ad (j+1) os
def bG(ops:List Oper)(xl:List Fp):Bool :=
 Ad 0 ops&&xk ops.toArray [] (ops.zip (xl.zip (jm [] ops)))

def DC(S:Nat->Bool)(ops:List Oper):Prop:=∀(j:Nat) o,ops[j]?=some o->S j=true->∀e∈o.after,Region.binds .any e=true->S e.on=true

theorem xm{acc:List Nat}{S:Nat->Bool}(Fx:∀j i,(acc.getD j 0).testBit i=true->S j=true->S i=true)(o:Oper)
  (ho:∀e∈o.after,Region.binds .any e=true->S e.on=true) (i:Nat) (h:(tO acc o).testBit i=true):S i=true:=by
 unfold tO at h
 have key:∀(l:List Edge) (z:Nat),(∀e∈l,Region.binds .any e=true->S e.on=true)->(z.testBit i=true->S i=true) ->
   (l.foldl (fun s e=>match Region.binds .any e with|true=>s ||| 2 ^ e.on ||| acc.getD e.on 0|false=>s) z).testBit i=true->S i=true:=by
  intro l
  induction l with
  | nil=>intro z _ hz h;exact hz h
  | cons e l ih =>
   intro z hl hz h;rw[List.foldl_cons] at h;refine ih _ (fun e' YL=>hl e' (by simp[YL])) ?_ h;intro Aq;split at Aq
   ·rename_i hb;have W5:=hl e (by simp) hb;rw[Nat.testBit_or,Nat.testBit_or,Bool.or_eq_true,Bool.or_eq_true] at Aq;rcases Aq with(Aq|Aq)|Aq
    ·exact hz Aq
    ·rw[Nat.testBit_two_pow] at Aq;have:e.on=i:=by simpa using Aq
     rw[<-this];exact W5
    ·exact Fx _ _ Aq W5
   ·exact hz Aq
 exact key o.after.toList 0 (fun e he=>ho e (by simpa using he)) (by simp) h

theorem vt{S:Nat->Bool}:∀(os:List Oper) (acc:List Nat),(∀j i,(acc.getD j 0).testBit i=true->S j=true->S i=true) ->
  (∀(j:Nat) o,os[j]?=some o->S (acc.length+j)=true->∀e∈o.after,Region.binds .any e=true->S e.on=true) ->
  ∀j i,((jm acc os).getD j 0).testBit i=true->S j=true->S i=true
 | [],acc,Fx,_=>Fx
 | o::os,acc,Fx,Nl=>by
  rw[jm];refine vt os _ ?_ ?_
  ·intro j i hb hS;by_cases hj:j<acc.length
   ·rw[List.getD_eq_getElem?_getD,List.getElem?_append_left hj,<-List.getD_eq_getElem?_getD] at hb;exact Fx j i hb hS
   ·by_cases uH:j=acc.length
    ·subst uH;rw[List.getD_eq_getElem?_getD,List.getElem?_append_right (Nat.le_refl _)] at hb;simp at hb;exact xm Fx o (Nl 0 o rfl (by simpa using hS)) i hb
    ·rw[List.getD_eq_getElem?_getD,List.getElem?_eq_none (by simp;omega)] at hb;simp at hb
  ·intro j o' hj hS;have:=Nl (j+1) o' (by simpa using hj) (by simp at hS;rwa [show acc.length+(j+1)=acc.length+1+j by omega]);exact this

theorem lY{i:Nat}:∀ {l:List Nat},BW i l=true↔i∈l
 | []=>by simp[BW]
 | j::l=>by
  unfold BW;split
  ·rename_i h;simp[Nat.eq_of_beq_eq_true h]
  ·rename_i h;have:i≠j:=by rintro rfl;rw[Nat.beq_refl] at h;cases h
   simp[lY,this]

theorem qv{ops:Array Oper}{mask:Nat}{oj:Oper}{fj:Fp}:∀(l:List (Oper×Fp)) (k:Nat),xj ops mask oj fj k l=true->∀i oi fi,l[i]?=some (oi,fi)->uB ops oi oj fi fj=true->mask.testBit (k+i)=true
 | [],_,_,i,_,_,h,_=>by simp at h
 | (o1,f1)::l,k,h,i,oi,fi,hi,hc=>by
  simp only[xj,Bool.and_eq_true,Bool.or_eq_true,Bool.not_eq_true'] at h;cases i with
  | zero =>
   simp at hi;obtain⟨rfl,rfl⟩:=hi;rcases h.1 with h1|h1
   ·rw[hc] at h1;cases h1
   ·exact h1
  | succ i =>
   have:=qv l (k+1) h.2 i oi fi (by simpa using hi) hc
   rwa [show k+(i+1)=k+1+i by omega]
theorem qw{ops:Array Oper}:∀(l:List (Oper×Fp×Nat)) (done:List (Oper×Fp)),xk ops done l=true ->
  ∀i j oi fi oj fj mj,(done++l.map fun p=>(p.1,p.2.1))[i]?=some (oi,fi)->l[j]?=some (oj,fj,mj)->i<done.length+j->uB ops oi oj fi fj=true->mj.testBit i=true
 | [],_,_,_,_,_,_,_,_,_,_,h,_,_=>by simp at h
 | (o1,f1,m1)::l,done,h,i,j,oi,fi,oj,fj,mj,hi,hj,aI,hc=>by
  simp only[xk,Bool.and_eq_true] at h;cases j with
  | zero =>
   simp at hj;obtain⟨rfl,rfl,rfl⟩:=hj;have:=qv done 0 h.1 i oi fi (by rw[List.getElem?_append_left (by omega)] at hi;exact hi) hc;simpa using this
  | succ j =>
   refine qw l (done++[(o1,f1)]) h.2 i j oi fi oj fj mj ?_ (by simpa using hj) (by simp;omega) hc;simpa using hi
def VA(g:Bool)(v:A)(K:A->Prop):Prop :=
 match g,v with
 | true,.sb b=>(b=true->K (.bool true))/\(b=false->K (.bool false))
 | _,v=>fv v K
def TX(i:Nat):List Oper->Bool
 | []=>false
 | o::os=>match o.guard with
  | some (j,_)=>match Nat.beq i j with
   | true=>true
   | false=>TX i os
  | none=>TX i os
def JY(g:Option Nat)(want:Bool)(s:List A)(X Y:Prop):Prop :=
 match g with
 | none=>False
 | some d=>match s.getD d .ae with
  | .bool b=>match b,want with
   | true,true=>X
   | false,false=>X
   | true,false=>Y
   | false,true=>Y
  | .tup vs=>match vs with
   | []=>Y
   | _=>False
  | _=>False
def SZ:List (Nat×Nat)->Nat->Nat
 | [],_=>0
 | (j,n)::l,i=>match Nat.beq j i with
  | true=>n
  | false=>SZ l i
def oF(rv:List (Nat×Nat))(i:Nat)(o:Op)(az:Nat):Nat:=match DX o with
 | true=>az+1
 | false=>az+SZ rv i
def tP(P:Program)(G:aG)(tt:TT)(ops:List Oper)(rv:List (Nat×Nat)):List Oper->Nat->Nat->List A->List aq->(List A->List aq->List Fp->Prop)->Prop
 | [],_,_,s,m,K=>K s m []
 | o::rest,i,az,s,m,K =>
  let X:Prop:=qq P G tt o az s m fun v u rd=>VA (TX i ops) v fun v'=>tC s o.dst v' fun s'=>Fo m u fun m' =>
   dj (oF rv i o.op az) fun tQ=>tP P G tt ops rv rest (i+1) tQ s' m' fun s m xl=>K s m ((rd,u.map (·.1))::xl)
  match o.guard with
  | none=>X
  | some (j,want)=>JY (mS ops j) want s X
    (tC s o.dst (.tup []) fun s'=>dj (oF rv i o.op az) fun tQ=>tP P G tt ops rv rest (i+1) tQ s' m fun s m xl=>K s m (([],[])::xl))

/-- A value told more closely. -/
def Ref(x y:A):Prop:=y=x\/∃b,x=.sb b/\y=.bool b
def Gd(ops:List Oper)(o:Oper)(r:Rc)(s:List A):Prop :=
 match o.guard with
 | none=>r.ex=true
 | some (j,want)=>(∃d b,mS ops j=some d/\s.getD d .ae=.bool b/\r.ex=(b==want))\/∃d,mS ops j=some d/\s.getD d .ae=.tup []/\r.ex=false
def Ch(P:Program)(G:aG)(tt:TT)(ops:List Oper):fu->List A->List aq->Prop
 | [],_,_=>True
 | (o,r)::l,s,m=>Gd ops o r s/\(r.ex=true->(∃az,Out P G tt o az s m r.oc)/\Ref r.oc.v r.v)/\(r.ex=false->r.v=.tup []/\r.oc.u=[]/\r.oc.rd=[]) /\
   Ch P G tt ops l (aZ s o.dst r.v) (gr m r.oc.u)
def iY:Nat->Bool:=fun _=>true
def ll(r:Rc):Fp:=(r.oc.rd,r.oc.u.map (·.1))

section
variable {c:Ctx} {P:Program} {tt:TT} {G:aG} {ops:List Oper}

theorem xn(rv:List (Nat×Nat)):∀(rest:List Oper) (i az:Nat) (s:List A) (m:List aq) (K:List A->List aq->List Fp->Prop),tP P G tt ops rv rest i az s m K ->
  ∃l:fu,l.map (·.1)=rest/\Ch P G tt ops l s m/\K (fK iY 0 l s) (jz iY 0 l m) (l.map fun p=>ll p.2)
 | [],i,az,s,m,K,h=>⟨[],rfl,trivial,h⟩
 | o::rest,i,az,s,m,K,h=>by
  have JZ:∀(l:fu) (a b:Nat) (s:List A),fK iY a l s=fK iY b l s:=by
   intro l;induction l with
   | nil=>intros;rfl
   | cons p l ih=>intro a b s;rw[fK,fK];simp only[iY];exact ih _ _ _
  have J0:∀(l:fu) (a b:Nat) (m:List aq),jz iY a l m=jz iY b l m:=by
   intro l;induction l with
   | nil=>intros;rfl
   | cons p l ih=>intro a b s;rw[jz,jz];simp only[iY];exact ih _ _ _
  have exec:(qq P G tt o az s m fun v u rd=>VA (TX i ops) v fun v'=>tC s o.dst v' fun s'=>Fo m u fun m' =>
    dj (oF rv i o.op az) fun tQ=>tP P G tt ops rv rest (i+1) tQ s' m' fun s m xl=>K s m ((rd,u.map (·.1))::xl))->(∀r:Rc,r.ex=true->Gd ops o r s) ->
    ∃l:fu,l.map (·.1)=o::rest/\Ch P G tt ops l s m/\K (fK iY 0 l s) (jz iY 0 l m) (l.map fun p=>ll p.2):=by
   intro h hg;obtain⟨oc,h1,h2⟩:=Fv h
   have key:∀v',Ref oc.v v'->(tC s o.dst v' fun s'=>Fo m oc.u fun m' =>
     dj (oF rv i o.op az) fun tQ=>tP P G tt ops rv rest (i+1) tQ s' m' fun s m xl=>K s m ((oc.rd,oc.u.map (·.1))::xl)) ->
     ∃l:fu,l.map (·.1)=o::rest/\Ch P G tt ops l s m/\K (fK iY 0 l s) (jz iY 0 l m) (l.map fun p=>ll p.2):=by
    intro v' hr hh;rw[rB,DS,aN] at hh;obtain⟨l,g1,g2,g3⟩:=xn rv rest (i+1) _ _ _ _ hh;refine⟨(o,⟨true,oc,v'⟩)::l,by simp[g1],⟨hg _ rfl,fun _=>⟨⟨az,h1⟩,hr⟩,(fun h=>by cases h),g2⟩,?_⟩;rw[fK,jz];simp only[iY,if_true,List.map_cons];rw[JZ l (0+1) 0,J0 l (0+1) 0];exact g3
   unfold VA at h2;split at h2
   ·rename_i b hb he;cases b
    ·exact key _ (.inr ⟨false,he,rfl⟩) (h2.2 rfl)
    ·exact key _ (.inr ⟨true,he,rfl⟩) (h2.1 rfl)
   ·rw[db] at h2;exact key _ (.inl rfl) h2
  have skip:(tC s o.dst (.tup []) fun s'=>dj (oF rv i o.op az) fun tQ=>tP P G tt ops rv rest (i+1) tQ s' m fun s m xl=>K s m (([],[])::xl))->(∀r:Rc,r.ex=false->Gd ops o r s) ->
    ∃l:fu,l.map (·.1)=o::rest/\Ch P G tt ops l s m/\K (fK iY 0 l s) (jz iY 0 l m) (l.map fun p=>ll p.2):=by
   intro hh hg;rw[rB,aN] at hh;obtain⟨l,g1,g2,g3⟩:=xn rv rest (i+1) _ _ _ _ hh;refine⟨(o,⟨false,⟨.ae,[],[]⟩,.tup []⟩)::l,by simp[g1],⟨hg _ rfl,(fun h=>by cases h),fun _=>⟨rfl,rfl,rfl⟩,g2⟩,?_⟩;rw[fK,jz];simp only[iY,if_true,List.map_cons];rw[JZ l (0+1) 0,J0 l (0+1) 0];exact g3
  unfold tP at h;simp only at h;split at h
  ·rename_i hg;exact exec h (fun r hr=>by unfold Gd;rw[hg];exact hr)
  ·rename_i j want hg;unfold JY at h;split at h
   ·exact h.elim
   ·rename_i d hd;split at h
    ·rename_i b hb
     have gd:∀r:Rc,r.ex=(b==want)->Gd ops o r s:=by
      intro r hr;unfold Gd;rw[hg];exact .inl ⟨d,b,hd,hb,hr⟩
     split at h
     ·exact exec h (fun r hr=>gd r (by simp[hr]))
     ·exact exec h (fun r hr=>gd r (by simp[hr]))
     ·exact skip h (fun r hr=>gd r (by simp[hr]))
     ·exact skip h (fun r hr=>gd r (by simp[hr]))
    ·rename_i vs hb;split at h
     ·exact skip h (fun r hr=>by unfold Gd;rw[hg];exact .inr ⟨d,hd,hb,hr⟩)
     ·exact h.elim
    ·exact h.elim

/-- The chain at a place. -/
theorem Qg(l:fu)(s:List A)(m:List aq)(h:Ch P G tt ops l s m)(k:Nat)(o:Oper)(r:Rc)(hk:l[k]?=some (o,r)):
  Gd ops o r (fK (fun j=>decide (j<k)) 0 l s)/\(r.ex=true->(∃az,Out P G tt o az (fK (fun j=>decide (j<k)) 0 l s) (jz (fun j=>decide (j<k)) 0 l m) r.oc)/\Ref r.oc.v r.v)/\(r.ex=false->r.v=.tup []/\r.oc.u=[]/\r.oc.rd=[]):=by
 have gen:∀(l:fu) (i:Nat) (s:List A) (m:List aq),Ch P G tt ops l s m->∀k o r,l[k]?=some (o,r) ->
   Gd ops o r (fK (fun j=>decide (j<i+k)) i l s)/\(r.ex=true->(∃az,Out P G tt o az (fK (fun j=>decide (j<i+k)) i l s) (jz (fun j=>decide (j<i+k)) i l m) r.oc)/\Ref r.oc.v r.v)/\(r.ex=false->r.v=.tup []/\r.oc.u=[]/\r.oc.rd=[]):=by
  intro l
  induction l with
  | nil=>intro i s m _ k o r h;simp at h
  | cons p l ih =>
   obtain⟨o1,r1⟩:=p;intro i s m YM k o r hk;obtain⟨h1,h2,h3,h4⟩:=YM;cases k with
   | zero =>
    simp at hk;obtain⟨rfl,rfl⟩:=hk
    have e1:∀(l:fu) (j:Nat) (s:List A),i<=j->fK (fun j=>decide (j<i+0)) j l s=s:=by
     intro l;induction l with
     | nil=>intros;rfl
     | cons p l ih=>intro j s hj;rw[fK];simp only[show ¬j<i+0 by omega,decide_false];exact ih _ _ (by omega)
    have e2:∀(l:fu) (j:Nat) (m:List aq),i<=j->jz (fun j=>decide (j<i+0)) j l m=m:=by
     intro l;induction l with
     | nil=>intros;rfl
     | cons p l ih=>intro j s hj;rw[jz];simp only[show ¬j<i+0 by omega,decide_false];exact ih _ _ (by omega)
    rw[e1 _ _ _ (Nat.le_refl _),e2 _ _ _ (Nat.le_refl _)];exact⟨h1,h2,h3⟩
   | succ k =>
    have g1:=ih (i+1) _ _ h4 k o r (by simpa using hk);rw[fK,jz];simp only[show i<i+(k+1) by omega,decide_true,if_true];rw[show i+(k+1)=i+1+k by omega];exact g1
 have:=gen l 0 s m h k o r hk;simpa using this
end
section
variable {c:Ctx} {P:Program} {tt:TT} {G:aG} {ops:List Oper}

def aX(L:Array Bool):Nat->Bool:=fun j=>L.getD j false

structure Hyp (P:Program) (G:aG) (tt:TT) (ops:List Oper) (l:fu) (s:List A) (m:List aq):Prop where
 xo:l.map (·.1)=ops
 ch:Ch P G tt ops l s m
 indep:bG ops (l.map fun p=>ll p.2)=true

theorem Hyp.Qh{l:fu}{s:List A}{m:List aq}(h:Hyp P G tt ops l s m){k:Nat}{o:Oper}(hk:ops[k]?=some o):∃r:Rc,l[k]?=some (o,r):=by
 rw[<-h.xo,List.getElem?_map] at hk;cases hl:l[k]? with
 | none=>rw[hl] at hk;cases hk
 | some p =>
  rw[hl] at hk;simp at hk;exact⟨p.2,by rw[<-hk]⟩
theorem Hyp.J1{l:fu}{s:List A}{m:List aq}(h:Hyp P G tt ops l s m){k:Nat}{o:Oper}{r:Rc}(hk:l[k]?=some (o,r)):ops[k]?=some o:=by
 rw[<-h.xo,List.getElem?_map,hk];rfl

theorem vu:∀(os:List Oper) (acc:List Nat),(jm acc os).length=acc.length+os.length
 | [],acc=>by simp[jm]
 | o::os,acc=>by rw[jm,vu os];simp;omega

/-- Two operations that meet: the later one only behind the earlier one. -/
theorem Hyp.bound{l:fu}{s:List A}{m:List aq}(h:Hyp P G tt ops l s m){S:Nat->Bool}(hS:DC S ops){i j:Nat}{oi oj:Oper}{ri rj:Rc}
  (hi:l[i]?=some (oi,ri)) (hj:l[j]?=some (oj,rj)) (aI:i<j) (hc:uB ops.toArray oi oj (ll ri) (ll rj)=true) (tR:S j=true):S i=true:=by
 have Qi:=h.indep;unfold bG at Qi;rw[Bool.and_eq_true] at Qi;have hlen:l.length=ops.length:=by rw[<-h.xo];simp
 have Kc:j<l.length:=by
  rcases Nat.lt_or_ge j l.length with h'|h'
  ·exact h'
  ·rw[List.getElem?_eq_none h'] at hj;cases hj
 have W6:j<(jm [] ops).length:=by rw[vu];simp;omega
 have e1:(ops.zip ((l.map fun p=>ll p.2).zip (jm [] ops)))[j]?=some (oj,ll rj,(jm [] ops)[j]):=by
  rw[List.getElem?_zip_eq_some.2];refine⟨h.J1 hj,?_⟩;rw[List.getElem?_zip_eq_some.2];refine⟨?_,List.getElem?_eq_getElem W6⟩;rw[List.getElem?_map,hj];rfl
 have e2:([]++(ops.zip ((l.map fun p=>ll p.2).zip (jm [] ops))).map fun p=>(p.1,p.2.1))[i]?=some (oi,ll ri):=by
  have YN:i<(jm [] ops).length:=by omega
  have:(ops.zip ((l.map fun p=>ll p.2).zip (jm [] ops)))[i]?=some (oi,ll ri,(jm [] ops)[i]):=by
   rw[List.getElem?_zip_eq_some.2];refine⟨h.J1 hi,?_⟩;rw[List.getElem?_zip_eq_some.2];refine⟨?_,List.getElem?_eq_getElem YN⟩;rw[List.getElem?_map,hi];rfl
  rw[List.nil_append,List.getElem?_map,this];rfl
 have VB:=qw _ [] Qi.2 i j oi (ll ri) oj (ll rj) _ e2 e1 (by simpa using aI) hc;refine vt ops [] (by intro j i hb;simp at hb) (fun j o ho tR=>hS j o ho (by simpa using tR)) j i ?_ tR;rw[List.getD_eq_getElem?_getD,List.getElem?_eq_getElem W6];exact VB

/-- A place that is ready, in a state of some executed ones: the state's slots that it looks at are those of the text's order. -/
theorem Hyp.looks{l:fu}{s:List A}{m:List aq}(h:Hyp P G tt ops l s m){S:Nat->Bool}(hS:DC S ops){k:Nat}{o:Oper}{r:Rc}(hk:l[k]?=some (o,r))(hn:S k=false)
  (J2:∀i,(∀S':Nat->Bool,DC S' ops->S' k=true->S' i=true)->i≠k->S i=true) :
  (∀t,t∈o.looksAt ops.toArray->(fK S 0 l s).getD t .ae=(fK (fun j=>decide (j<k)) 0 l s).getD t .ae) /\
  (∀b,b∈r.oc.rd\/(∃x,r.oc.u.lookup b=some x)->(jz S 0 l m).getD b .dead=(jz (fun j=>decide (j<k)) 0 l m).getD b .dead):=by
 constructor
 ·intro t ht;refine j5 _ _ t l 0 s s rfl rfl ?_;intro j o' r' hj hd;rw[Nat.zero_add];rcases Nat.lt_trichotomy j k with aI|rfl|aI
  ·simp only[aI,decide_true];refine J2 j (fun S' MH gn=>h.bound MH hj hk aI ?_ gn) (by omega);simp only[uB,Bool.or_eq_true];refine .inl (.inl (.inl (.inr ?_)));simp only[MG,hd];exact lY.2 ht
  ·simp[hn]
  ·simp only[show ¬j<k by omega,decide_false];cases tR:S j with
   | false=>rfl
   | true =>
    have:=h.bound hS hk hj aI (by
     simp only[uB,Bool.or_eq_true];refine .inl (.inl (.inl (.inl (.inl ?_))));simp only[MG,hd];exact lY.2 ht) tR
    rw[hn] at this;cases this
 ·intro b hb;refine j6 _ _ b l 0 m m rfl rfl ?_;intro j o' r' x hj hd;rw[Nat.zero_add]
  have mem:∀ {r:Rc} {b:Nat} {x:aq},r.oc.u.lookup b=some x->b∈(ll r).2:=by
   intro r b x hx
   have key:∀u:List (Nat×aq),u.lookup b=some x->b∈u.map (·.1):=by
    intro u
    induction u with
    | nil=>intro h;cases h
    | cons p u ih =>
     obtain⟨b0,x0⟩:=p;intro h;rw[List.lookup_cons] at h;split at h
     ·rename_i he;simp[eq_of_beq he]
     ·simp[ih h]
   exact key _ hx
  have meet:∀ {l1 l2:List Nat} {b:Nat},b∈l1->b∈l2->qu l1 l2=true:=by
   intro l1
   induction l1 with
   | nil=>intro l2 b h;cases h
   | cons a l1 ih =>
    intro l2 b h1 h2;unfold qu;split
    ·rfl
    ·rename_i hn;rcases List.mem_cons.1 h1 with rfl|h1
     ·rw[lY.2 h2] at hn;cases hn
     ·exact ih h1 h2
  have iA:b∈(ll r').2:=mem hd;rcases Nat.lt_trichotomy j k with aI|rfl|aI
  ·simp only[aI,decide_true];refine J2 j (fun S' MH gn=>h.bound MH hj hk aI ?_ gn) (by omega);simp only[uB,Bool.or_eq_true];rcases hb with hb|⟨x',hb⟩
   ·exact .inr (meet iA hb)
   ·exact .inl (.inr (meet (mem hb) iA))
  ·simp[hn]
  ·simp only[show ¬j<k by omega,decide_false];cases tR:S j with
   | false=>rfl
   | true =>
    have:=h.bound hS hk hj aI (by
     simp only[uB,Bool.or_eq_true];rcases hb with hb|⟨x',hb⟩
     ·exact .inl (.inl (.inr (meet iA hb)))
     ·exact .inl (.inr (meet iA (mem hb)))) tR
    rw[hn] at this;cases this
theorem Fy:∀ {l1 l2:List Nat} {b:Nat},b∈l1->b∈l2->qu l1 l2=true:=by
 intro l1
 induction l1 with
 | nil=>intro l2 b h;cases h
 | cons a l1 ih =>
  intro l2 b h1 h2;unfold qu;split
  ·rfl
  ·rename_i hn;rcases List.mem_cons.1 h1 with rfl|h1
   ·rw[lY.2 h2] at hn;cases hn
   ·exact ih h1 h2
theorem vw{r:Rc}{b:Nat}{x:aq}(hx:r.oc.u.lookup b=some x):b∈(ll r).2:=by
 have key:∀u:List (Nat×aq),u.lookup b=some x->b∈u.map (·.1):=by
  intro u
  induction u with
  | nil=>intro h;cases h
  | cons p u ih =>
   obtain⟨b0,x0⟩:=p;intro h;rw[List.lookup_cons] at h;split at h
   ·rename_i he;simp[eq_of_beq he]
   ·simp[ih h]
 exact key _ hx
end
section
variable {c:Ctx} {P:Program} {tt:TT} {G:aG} {ops:List Oper} {Q:Exit->Act->World->Prop}

theorem aF.refine{s:List A}{m:List aq}{a:Act}{w:World}{ids:dp}{d:Option Nat}{x y:A}(hs:aF c (_root_.Go.Proofs.YtijddijloelacaaGreat.Am.aZ s d x) m a w ids)(hr:Ref x y):aF c (_root_.Go.Proofs.YtijddijloelacaaGreat.Am.aZ s d y) m a w ids:=by
 rcases hr with rfl|⟨b,rfl,rfl⟩
 ·exact hs
 ·cases d with
  | none=>exact hs
  | some d =>
   have e:_root_.Go.Proofs.YtijddijloelacaaGreat.Am.aZ s (some d) (.bool b)=(_root_.Go.Proofs.YtijddijloelacaaGreat.Am.aZ s (some d) (.sb b)).set d (.bool b):=by simp[_root_.Go.Proofs.YtijddijloelacaaGreat.Am.aZ]
   rw[e];by_cases hd:d<s.length
   ·refine hs.BU d ?_;have:=hs.ev (.tmp d);simp only[Am.ev,Act.eval] at this;rw[show(_root_.Go.Proofs.YtijddijloelacaaGreat.Am.aZ s (some d) (.sb b)).getD d .ae=.sb b by simp[_root_.Go.Proofs.YtijddijloelacaaGreat.Am.aZ,List.getD_eq_getElem?_getD,hd]] at this;rw[this.iL];exact .aH (.bool _)
   ·rw[List.set_eq_of_length_le (by simp[_root_.Go.Proofs.YtijddijloelacaaGreat.Am.aZ];omega)];exact hs

def S0(L:Array Bool):Nat:=L.toList.countP (!·)
theorem countP_set:∀(l:List Bool) (i:Nat) (hi:i<l.length),l[i]=false->(l.set i true).countP (!·)+1=l.countP (!·)
 | [],_,hi,_=>by simp at hi
 | x::l,0,_,hf=>by simp at hf;subst hf;simp
 | x::l,i+1,hi,hf=>by
  have:=countP_set l i (by simpa using hi) (by simpa using hf);rw[List.set_cons_succ,List.countP_cons,List.countP_cons];omega
theorem DY{L:Array Bool}{i:Nat}(hi:i<L.size)(hf:L[i]=false):S0 (L.setIfInBounds i true)+1=S0 L:=by
 unfold S0;rw[Array.toList_setIfInBounds];exact countP_set L.toList i (by simpa using hi) (by simpa using hf)

theorem tS:∀(os:List Oper) (k:Nat),Ad k os=true->∀j o,os[j]?=some o->∀e∈o.after,Region.binds .any e=true->e.on<k+j
 | [],_,_,j,o,h,_,_,_=>by simp at h
 | o1::os,k,h,j,o,hj,e,he,hb=>by
  simp only[Ad,Bool.and_eq_true,List.all_eq_true] at h;cases j with
  | zero =>
   simp at hj;subst hj;have:=h.1 e (by simpa using he);simp[hb] at this;omega
  | succ j =>
   have:=tS os (k+1) h.2 j o (by simpa using hj) e he hb;omega

theorem Fz(aJ:bo P tt)(hG:G.ok c){l:fu}{s:List A}{m:List aq}(h:Hyp P G tt ops l s m)
  (hQ:∀a w ids,aF c (fK iY 0 l s) (jz iY 0 l m) a w ids->Q .normal a w) :
  ∀(fuel:Nat) (L:Array Bool) (a:Act) (w:World) (ids:dp),L.size=ops.length->S0 L<=fuel->DC (aX L) ops ->
   aF c (fK (aX L) 0 l s) (jz (aX L) 0 l m) a w ids->wpAny P .any ops.toArray Q fuel L a w:=by
 have hlen:l.length=ops.length:=by rw[<-h.xo];simp
 have Ta:Ad 0 ops=true:=by have:=h.indep;unfold bG at this;rw[Bool.and_eq_true] at this;exact this.1
 have done:∀(L:Array Bool) (a:Act) (w:World) (ids:dp),L.size=ops.length->Region.ready .any ops.toArray L=[] ->
   aF c (fK (aX L) 0 l s) (jz (aX L) 0 l m) a w ids->Q .normal a w:=by
  intro L a w ids hL hr hs
  have all:∀j,j<ops.length->aX L j=true:=by
   intro j
   induction j using Nat.strongRecOn with
   | _ j ih =>
    intro hj;cases tR:aX L j with
    | true=>rfl
    | false =>
     exfalso
     have:j∈Region.ready .any ops.toArray L:=by
      rw[mem_ready];have YO:j<L.size:=by omega
      refine⟨?_,ops[j],by simp[hj],?_⟩
      ·unfold aX at tR;simp[Array.getD_eq_getD_getElem?,YO] at tR ⊢;exact tR
      ·intro e he hb;have:=tS ops 0 Ta j ops[j] (List.getElem?_eq_getElem hj) e he hb;exact ih e.on (by omega) (by omega)
     rw[hr] at this;cases this
  have e1:fK (aX L) 0 l s=fK iY 0 l s:=by
   apply Ab (by simp[oE]);intro t;refine j5 _ _ t l 0 s s rfl rfl ?_;intro j o r hj _
   have:j<l.length:=by
    rcases Nat.lt_or_ge j l.length with h'|h'
    ·exact h'
    ·rw[List.getElem?_eq_none h'] at hj;cases hj
   simp only[Nat.zero_add,iY];exact all j (by omega)
  have e2:jz (aX L) 0 l m=jz iY 0 l m:=by
   apply Ac (by simp[mD]);intro t;refine j6 _ _ t l 0 m m rfl rfl ?_;intro j o r x hj _
   have:j<l.length:=by
    rcases Nat.lt_or_ge j l.length with h'|h'
    ·exact h'
    ·rw[List.getElem?_eq_none h'] at hj;cases hj
   simp only[Nat.zero_add,iY];exact all j (by omega)
  rw[e1,e2] at hs;exact hQ a w ids hs
 have one:∀(L:Array Bool) (a:Act) (w:World) (ids:dp) (i:Nat),L.size=ops.length->DC (aX L) ops ->
   aF c (fK (aX L) 0 l s) (jz (aX L) 0 l m) a w ids->i∈Region.ready .any ops.toArray L->∀K:Act->World->Prop,
   (∀a w ids,DC (aX (L.setIfInBounds i true)) ops->aF c (fK (aX (L.setIfInBounds i true)) 0 l s) (jz (aX (L.setIfInBounds i true)) 0 l m) a w ids->K a w)->wpOp P ops.toArray Q i K a w:=by
  intro L a w ids i hL Qj hs hi K hK;rw[mem_ready] at hi;obtain⟨MI,o,ho,QD⟩:=hi
  have Ae:i<L.size:=by
   rcases Nat.lt_or_ge i L.size with h'|h'
   ·exact h'
   ·simp[Array.getD_eq_getD_getElem?,h'] at MI
  have Tb:aX L i=false:=by
   unfold aX;simp[Array.getD_eq_getD_getElem?,Ae] at MI ⊢;exact MI
  have L4:ops[i]?=some o:=by simpa using ho
  obtain⟨r,hk⟩:=h.Qh L4
  have MH:∀j,aX (L.setIfInBounds i true) j=(aX L j||j==i):=by
   intro j;unfold aX;by_cases hj:j=i
   ·subst hj;simp[Array.getD_eq_getD_getElem?,Ae]
   ·simp[Array.getD_eq_getD_getElem?,hj,Ne.symm hj]
  have J3:DC (aX (L.setIfInBounds i true)) ops:=by
   intro j oj hj tR e he hb;rw[MH] at tR ⊢;rw[Bool.or_eq_true] at tR ⊢;rcases tR with tR|tR
   ·exact .inl (Qj j oj hj tR e he hb)
   ·have:j=i:=by simpa using tR
    subst this;rw[L4] at hj;cases hj;exact .inl (QD e he hb)
  obtain⟨VC,YP⟩:=h.looks Qj hk Tb (fun i' cr hne=>by
   have:=cr _ J3 (by rw[MH];simp);rw[MH,Bool.or_eq_true] at this;rcases this with h1|h1
   ·exact h1
   ·exact absurd (by simpa using h1) hne)
  obtain⟨Qs,hex,Vx⟩:=Qg l s m h.ch i o r hk
  have Nz:fK (aX (L.setIfInBounds i true)) 0 l s=aZ (fK (aX L) 0 l s) o.dst r.v :=
   ME _ _ l i s o r hk MH Tb (fun j o' r' hj nQ fp hne=>by
    cases tR:aX L j with
    | false=>rfl
    | true =>
     have:=h.bound Qj hk nQ hj (by
      simp only[uB,Bool.or_eq_true];refine .inl (.inl (.inl (.inl (.inr ?_))));rw[fp];cases hd:o.dst with
      | none=>exact absurd hd hne
      | some d=>simp only[Ny];exact Nat.beq_refl _) tR
     rw[Tb] at this;cases this)
  have NA:jz (aX (L.setIfInBounds i true)) 0 l m=gr (jz (aX L) 0 l m) r.oc.u :=
   MF _ _ l i m o r hk MH Tb (fun j o' r' b x x' hj nQ hu UR=>by
    cases tR:aX L j with
    | false=>rfl
    | true =>
     have:=h.bound Qj hk nQ hj (by
      simp only[uB,Bool.or_eq_true];exact .inl (.inr (Fy (vw UR) (vw hu)))) tR
     rw[Tb] at this;cases this)
  unfold wpOp;rw[ho];simp only
  have wanted:Region.wanted o (yielded ops.toArray a.tmps)=r.ex:=by
   unfold Region.wanted;unfold Gd at Qs;split at Qs
   ·rename_i hg;rw[hg];simp[Qs]
   ·rename_i j want hg
    have W7:∀d,mS ops j=some d->d∈o.looksAt ops.toArray:=by
     intro d g1;unfold Oper.looksAt;rw[hg];have:(ops.toArray[j]?).bind (·.dst)=some d:=by simpa[mS] using g1
     simp only[this];simp
    rcases Qs with⟨d,b,g1,g2,g3⟩|⟨d,g1,g2,g3⟩
    ·rw[hg];simp only;have tD:=hs.ev (.tmp d);simp only[ev,Act.eval] at tD;rw[VC d (W7 d g1),g2] at tD;rw[nu g1 tD.dR,g3];cases b<;>cases want<;>rfl
    ·rw[hg];simp only;have tD:=hs.ev (.tmp d);simp only[ev,Act.eval] at tD;rw[VC d (W7 d g1),g2] at tD;obtain⟨us,hu,Ar,_⟩:=tD.kA;have Ke:us=[]:=by simpa using Ar
     subst Ke
     have hy:yielded ops.toArray a.tmps j=none:=by
      unfold yielded;have h1:(ops.toArray[j]?).bind (·.dst)=some d:=by simpa[mS] using g1
      rw[h1];rcases Nat.lt_or_ge d a.tmps.size with h|h
      ·have h2:a.tmps[d]?=some (.tuple #[]):=by simpa[Array.getD_eq_getD_getElem?,h] using hu
       simp[h2]
      ·simp[h]
     rw[hy,g3];rfl
  rw[wanted];cases Tc:r.ex with
  | false =>
   obtain⟨q1,q2,q3⟩:=Vx Tc;rw[if_neg (by simp)];refine hK _ w ids J3 ?_;rw[Nz,NA,q1,q2];exact hs.aZ o.dst (.aH (.tup [] [] rfl (fun _ h=>by simp at h)))
  | true =>
   rw[if_pos rfl];obtain⟨⟨tQ,VD⟩,VE⟩:=hex Tc;left
   have VF:Out P G tt o tQ (fK (aX L) 0 l s) (jz (aX L) 0 l m) r.oc:=by
    refine VD.local ?_ ?_ (by simp[mD])
    ·intro x hx;cases x with
     | tmp t =>
      have:t∈o.looksAt ops.toArray:=by
       unfold Oper.looksAt;refine List.mem_append.2 (.inl ?_);rw[List.mem_filterMap];exact⟨.tmp t,by simpa using hx,rfl⟩
      simp only[ev];exact(VC t this).symm
     | const v=>rfl
     | global g=>rfl
     | func f=>rfl
    ·intro b hb;exact(YP b (.inl hb)).symm
   refine Fw aJ hG hs VF ?_;intro a' w' ab bH;refine hK a' w' ab J3 ?_;rw[Nz,NA];exact bH.refine VE
 intro fuel
 induction fuel with
 | zero =>
  intro L a w ids hL hu Qj hs
  have hr:Region.ready .any ops.toArray L=[]:=by
   apply List.eq_nil_iff_forall_not_mem.2;intro i hi;rw[mem_ready] at hi;obtain⟨MI,_⟩:=hi
   have Ae:i<L.size:=by
    rcases Nat.lt_or_ge i L.size with h'|h'
    ·exact h'
    ·simp[Array.getD_eq_getD_getElem?,h'] at MI
   have hf:L[i]=false:=by simpa[Array.getD_eq_getD_getElem?,Ae] using MI
   have:=DY Ae hf;omega
  exact⟨hr,done L a w ids hL hr hs⟩
 | succ fuel ih =>
  intro L a w ids hL hu Qj hs;refine⟨fun hr=>done L a w ids hL hr hs,?_⟩;intro i hi;refine one L a w ids i hL Qj hs hi _ ?_;intro a' w' ab J3 bH;refine ih _ a' w' ab (by simp[hL]) ?_ J3 bH;rw[mem_ready] at hi;obtain⟨MI,_⟩:=hi
  have Ae:i<L.size:=by
   rcases Nat.lt_or_ge i L.size with h'|h'
   ·exact h'
   ·simp[Array.getD_eq_getD_getElem?,h'] at MI
  have hf:L[i]=false:=by simpa[Array.getD_eq_getD_getElem?,Ae] using MI
  have:=DY Ae hf;omega

def kT:List Oper->Nat
 | []=>0
 | o::os=>match DX o.op with
  | true=>kT os+1
  | false=>kT os
def Td:List (Nat×Nat)->Nat
 | []=>0
 | (_,n)::l=>n+Td l
def Af:Nat->List aq->(List aq->Prop)->Prop
 | 0,m,K=>K m
 | n+1,m,K=>E4 m .dead fun m'=>Af n m' K
theorem DZ:∀(n:Nat) (m:List aq) (K:List aq->Prop),Af n m K=K (m++List.replicate n .dead)
 | 0,m,K=>by simp[Af]
 | n+1,m,K=>by rw[Af,rp,DZ n];simp[List.replicate_succ]

theorem sO(rv:List (Nat×Nat))(aJ:bo P tt)(hm:P.follows .mixedOrders=true){QA:Exit->List A->List aq->Prop}{s:List A}{m:List aq}{id:Nat}{l:List Oper}
  (h:Af (kT l+Td rv) m fun m'=>dj m.length fun b=>tP P G tt l rv l 0 b s m' fun s' Mb xl=>bG l xl=true/\QA .normal s' Mb):WA P G (.region id l.toArray true) QA s m:=by
 rw[DZ,aN] at h;obtain⟨VG,h1,h2,h3,h4⟩:=xn rv l 0 _ _ _ _ h;unfold WA;intro c a w ids hG hs;refine wp_region_any hm ?_;have hb:Bw w.heap.size w { w with drawn:=w.drawn+1 }:=⟨rfl,rfl,rfl,Nat.le_refl _,fun _ _=>rfl,en.succ _⟩
 have bH:aF c s (m++List.replicate (kT l+Td rv) .dead) a { w with drawn:=w.drawn+1 } (ids++List.replicate (kT l+Td rv) .dead):=by
  refine hs.grow hb _ _ (by simp) ?_ ?_ ?_ ?_
  ·intro i g1 g2;simp only[List.getElem_replicate];rfl
  ·intro p hp;rw[List.mem_replicate] at hp;cases hp.2
  ·intro p hp;rw[List.mem_replicate] at hp;cases hp.2
  ·intro i j p q x g1 g2 _ _;rw[List.getElem?_replicate] at g1;split at g1<;>cases g1
 have hyp:Hyp P G tt l VG s (m++List.replicate (kT l+Td rv) .dead):=⟨h1,h2,h3⟩
 have hz:∀j,aX (Array.replicate l.toArray.size false) j=false:=by
  intro j;unfold aX;simp[Array.getD_eq_getD_getElem?,Array.getElem?_replicate];split<;>rfl
 have vC:∀(r:fu) (i:Nat) (s:List A),fK (aX (Array.replicate l.toArray.size false)) i r s=s:=by
  intro r;induction r with
  | nil=>intros;rfl
  | cons p r ih=>intro i s;rw[fK];simp only[hz];exact ih _ _
 have VH:∀(r:fu) (i:Nat) (m:List aq),jz (aX (Array.replicate l.toArray.size false)) i r m=m:=by
  intro r;induction r with
  | nil=>intros;rfl
  | cons p r ih=>intro i s;rw[jz];simp only[hz];exact ih _ _
 refine Fz aJ hG hyp (fun a w ids hs=>⟨_,_,ids,h4,hs⟩) _ _ a _ _ (by simp) ?_ ?_ (by rw[vC,VH];exact bH)
 ·unfold S0;simp;rw[List.countP_replicate];simp
 ·intro j o _ hS;rw[hz] at hS;cases hS
theorem bI(aJ:bo P tt)(hm:P.follows .mixedOrders=true){QA:Exit->List A->List aq->Prop}{s:List A}{m:List aq}{id:Nat}{l:List Oper}
  (h:Af (kT l) m fun m'=>dj m.length fun b=>tP P G tt l [] l 0 b s m' fun s' Mb xl=>bG l xl=true/\QA .normal s' Mb):WA P G (.region id l.toArray true) QA s m:=sO [] aJ hm h
end
section
variable {c:Ctx} {s:List A} {m:List aq} {a:Act} {w w':World} {ids ab:dp} {P:Program} {im bl:Nat->Prop} {tt:TT} {G:aG}
variable {next:Act->World->Prop} {Q:Exit->Act->World->Prop} {o:Oper}
/-- A row of ours is written no more: it is a value. -/
theorem me{code:Code}{Q:Exit->List A->List aq->Prop}(b:Nat)(h:Mh b s m fun s' m'=>WA P G code Q s' m'):WA P G code Q s m:=by
 unfold WA;intro c a w ids hG hs;obtain⟨s',m',ab,h',bH⟩:=tv hs h;unfold WA at h';exact h' c a w ab hG bH

/-- A row of nil slices is a nest. -/
theorem Lv{code:Code}{Q:Exit->List A->List aq->Prop}(b:Nat)(aM:TypeId)(sz:Nat){ty:TypeId}{n:Nat}{row:Nat->List A}(hb:m.getD b .dead=.row ty 1 n row)
  (hz:∀i,i<n->row i=[.aR]) (h:pn m b (.nest ty aM sz n none (fun _=>0) (fun _ _=>[])) fun m'=>WA P G code Q s m'):WA P G code Q s m:=by
 rw[eC] at h;unfold WA at h ⊢;intro c a w ids hG hs;obtain⟨kH,hm⟩:=getD_some (by simp) hb;have eD:b<ids.length:=by rw[hs.aK];exact kH
 have hB:=hs.bu b kH eD;rw[hm] at hB;cases hp:ids[b] with
 | dead=>rw[hp] at hB;exact hB.elim
 | av=>rw[hp] at hB;exact hB.elim
 | cz vs=>rw[hp] at hB;exact hB.elim
 | aP =>
  rw[hp] at hB;refine h c a w ids hG ⟨hs.defers,hs.len,hs.bE,by simp[hs.aK],?_,hs.ah,hs.ar,hs.frame,hs.dL,hs.cz⟩;intro k hk gn;rw[List.getElem_set];split
  ·rename_i he;subst he;rw[hp];exact hB
  ·exact hs.bu k (by simpa using hk) gn
 | lv p =>
  rw[hp] at hB;have bQ:ids[b]?=some (.lv p):=by rw[List.getElem?_eq_getElem eD,hp]
  let p':Id:=⟨p.ao,p.k,p.n,p.sz,fun _=>False,p.sY⟩
  have Nk:∀x,p'.has x->x=p.ao:=fun x h=>by
   rcases h with h|h
   ·exact h
   ·exact False.elim h
  have mem:∀(k:Nat) r,(ids.set b (.lv p'))[k]?=some (dH.lv r)->(k=b/\r=p')\/(k≠b/\ids[k]?=some (.lv r)):=by
   intro k r h;rw[List.getElem?_set] at h;split at h
   ·rename_i e;subst e;cases h;exact .inl ⟨rfl,rfl⟩
   ·rename_i hne;exact .inr ⟨fun e=>hne e.symm,h⟩
  have aU:∀r,dH.lv r∈ids.set b (.lv p')->∀x,r.has x->x<w.heap.size/\(w.heap.size<=x\/∃(b:Nat) (p:Id),ids[b]?=some (.lv p)/\p.has x):=by
   intro r hr x hx;obtain⟨k,hk⟩:=List.getElem?_of_mem hr;rcases mem k r hk with⟨_,rfl⟩|⟨_,e⟩
   ·rw[Nk x hx];exact⟨(hs.fresh p (List.mem_of_getElem? bQ)).2,.inr ⟨b,p,bQ,.inl rfl⟩⟩
   ·exact⟨(hs.ar r (List.mem_of_getElem? e) x hx).2,.inr ⟨k,r,e,hx⟩⟩
  obtain⟨dt,dI⟩:=hs.cI (w':=w) (ab:=ids.set b (.lv p')) (Nat.le_refl _) (fun _ _ _=>rfl) aU
  have hd:∀(k:Nat) r,ids[k]?=some r->r≠.dead->∃q,(ids.set b (.lv p'))[k]?=some q/\iq r q:=by
   intro k r hr _;rw[List.getElem?_set];split
   ·rename_i e;subst e;rw[bQ] at hr;cases hr;exact⟨_,rfl,p',rfl,rfl,rfl,rfl,rfl,fun _ _ h=>h⟩
   ·exact⟨r,hr,eE r⟩
  refine h c a w _ hG (hs.ln (ab:=ids.set b (.lv p')) rfl rfl rfl (Nat.le_refl _) (fun _ _ _=>rfl) aU (fun vs h=>by
   rcases List.mem_or_eq_of_mem_set h with h|h
   ·exact h
   ·cases h) ?_ rfl (by simp[hs.aK]) (fun i h h'=>(hs.bE i h h').lR dt dI hd) ?_)
  ·intro k k' r r' x e1 e2 x1 x2;rcases mem k r e1 with⟨rfl,rfl⟩|⟨ne,e⟩<;>rcases mem k' r' e2 with⟨rfl,rfl⟩|⟨ne',e'⟩
   ·rfl
   ·exact absurd (hs.ah _ _ p r' x bQ e' (.inl (Nk x x1)) x2).symm ne'
   ·exact absurd (hs.ah _ _ r p x e bQ x1 (.inl (Nk x x2))) ne
   ·exact hs.ah k k' r r' x e e' x1 x2
  ·intro k hk gn;simp only[List.length_set] at hk gn;rw[List.getElem_set,List.getElem_set];split
   ·obtain⟨g1,g2,vs,h1,h2,h3,h4,h5⟩:=hB;refine⟨g1,g2,(fun h=>h.elim),vs,h1,h2,by rw[Nat.mul_one] at h3;exact h3,fun _=>none,?_⟩;intro i hi _ ZN;refine⟨.inl ⟨?_,rfl,rfl⟩,(fun x h=>by cases h),(fun j _ _ _ h=>absurd rfl h)⟩;have:=(h5 i 0 hi (by rw[h4 i hi];omega) (by omega)).1;simp only[hz i hi,List.getElem_cons_zero,Nat.mul_one,Nat.add_zero] at this;exact(Rel.aH (ids:=[]) this).df
   ·exact(hs.bu k hk gn).lR dt dI hd (fun _ _ _ _=>rfl)
end
def MJ(tt:TT)(rv:ResultVar)(s:List A)(m:List aq)(K:A->Prop):Prop :=
 match rv with
 | .tmp t=>fd 3 (s.getD t .ae) K
 | .cell p t=>k9 tt t (s.getD p .ae) m fun v _=>fd 3 v K
def J4(tt:TT):List ResultVar->List A->List aq->(List A->Prop)->Prop
 | [],_,_,K=>K []
 | r::rs,s,m,K=>MJ tt r s m fun v=>J4 tt rs s m fun vs=>K (v::vs)
def TY(m:List aq):List Nat->Bool
 | []=>true
 | b::bs=>match Nat.blt b m.length with
  | true=>TY m bs
  | false=>false
theorem vz{m:List aq}:∀ {l:List Nat},TY m l=true->∀b∈l,b<m.length
 | [],_,b,hb=>by simp at hb
 | x::xs,h,b,hb=>by
  unfold TY at h;split at h
  ·rename_i hx;rcases List.mem_cons.1 hb with rfl|hb
   ·exact Nat.le_of_ble_eq_true hx
   ·exact vz h b hb
  ·cases h
def Ag(k:Nat)(m:List aq)(rv:A)(r:A)(mo:List aq):Prop :=
 QF (nw k 0++Kh (nw k 0) (reach m 8 rv)) fun ρ=>match TY m ρ,nm ρ with
  | true,true=>fd 4 (ij (bP (eF ρ 0)) 5 rv) fun YS=>pz (ρ.map fun b=>gE (bP (eF ρ 0)) 4 (m.getD b .dead)) fun m'=>rT [YS] m' [r] mo
  | _,_=>False
def VI(tt:TT)(fn:Func)(k:Nat)(r:A)(mo:List aq):Exit->List A->List aq->Prop
 | .ret,s,m=>J4 tt fn.results.toList s m fun vs=>match vs with
  | [v]=>Ag k m v r mo
  | vs=>Ag k m (.tup vs) r mo
 | .normal,s,m=>J4 tt fn.results.toList s m fun vs=>match vs with
  | [v]=>Ag k m v r mo
  | vs=>Ag k m (.tup vs) r mo
 | _,_,_=>False

section
variable {c:Ctx} {s:List A} {m:List aq} {a:Act} {w w':World} {ids ab:dp} {P:Program} {im bl:Nat->Prop} {tt:TT} {G:aG}

theorem J5(aJ:bo P tt)(hs:aF c s m a w ids)(rv:ResultVar){K:A->Prop}(h:MJ tt rv s m K):
  ∃r v,(tE a.tmps rv).run P w=.ok v w/\K r/\Rel ids (au c ids w) w r v:=by
 cases rv with
 | tmp t =>
  simp only[MJ,dX] at h;exact⟨_,a.tmps.getD t undef,rfl,h,hs.ev (.tmp t)⟩
 | cell p t =>
  simp only[MJ,dX] at h;obtain⟨ad,r,u,h1,h2,h3,h4⟩:=vj (P:=P) aJ hs (hs.ev (.tmp p)) h;refine⟨_,u,?_,h3,h4⟩;have h1:a.tmps.getD p undef=.pointer (some ad):=h1;show(do loadVar t (<-asAddr (a.tmps.getD p undef)):Sem Value).run P w=_;rw[h1];simp[asAddr,h2]
theorem Ah(aJ:bo P tt)(hs:aF c s m a w ids):∀(rs:List ResultVar) {K:List A->Prop},J4 tt rs s m K ->
  ∃(xs:List A) (vs:List Value),(rs.mapM (tE a.tmps)).run P w=.ok vs w/\K xs /\
   vs.length=xs.length/\∀j (h:j<xs.length) (h':j<vs.length),Rel ids (au c ids w) w xs[j] vs[j]
 | [],K,h=>⟨[],[],by simp,h,rfl,fun j h=>absurd h (Nat.not_lt_zero _)⟩
 | rv::rs,K,h=>by
  obtain⟨r,v,h1,h2,h3⟩:=J5 (P:=P) aJ hs rv h;obtain⟨xs,vs,g1,g2,g3,g4⟩:=Ah aJ hs rs h2;refine⟨r::xs,v::vs,?_,g2,by simp[g3],?_⟩
  ·rw[List.mapM_cons];simp only[Sem.run_bind,h1,Result.andThen_ok,g1];rfl
  ·intro j hj bW;cases j with
   | zero=>exact h3
   | succ j=>exact g4 j (by simpa using hj) (by simpa using bW)

/-- Some blocks alone, and one value. -/
theorem aF.sub(hs:aF c s m a w ids){ρ:List Nat}(oK:ρ.Nodup)(yD:∀b∈ρ,b<m.length){x:A}{v:Value}(hx:Rel ids (au c ids w) w x v):
  aF c [ij (bP (eF ρ 0)) 5 x] (ρ.map fun b=>gE (bP (eF ρ 0)) 4 (m.getD b .dead)) ⟨#[v],[]⟩ w (ρ.map fun b=>ids.getD b .dead):=by
 have wR:∀b,b∈ρ->∃p,ids[b]?=some p/\ids.getD b .dead=p/\aV ids (au c ids w) w (m.getD b .dead) p:=by
  intro b hb;obtain⟨p,h1,h2⟩:=hs.BM (yD b hb);exact⟨p,h1,by rw[List.getD_eq_getElem?_getD,h1];rfl,h2⟩
 have qk:∀(j:Nat) b,ρ[j]?=some b->(ρ.map fun b=>ids.getD b .dead)[j]?=ids[b]?:=by
  intro j b hj;obtain⟨p,h1,h2,_⟩:=wR b (List.mem_of_getElem? hj);rw[List.getElem?_map,hj,h1];simp only[Option.map_some,h2]
 have jx:∀(i:Nat) p,(ρ.map fun b=>ids.getD b .dead)[i]?=some p->∃b,ρ[i]?=some b/\ids[b]?=some p:=by
  intro i p hi;cases hj:ρ[i]? with
  | none=>rw[List.getElem?_map,hj] at hi;cases hi
  | some b=>exact⟨b,rfl,by rw[<-qk i b hj];exact hi⟩
 have hτ:qj (bP (eF ρ 0)) ids (ρ.map fun b=>ids.getD b .dead):=by
  have key:∀b b',eF ρ 0 b=some b'->(ρ.map fun b=>ids.getD b .dead)[b']?=ids[b]?:=by
   intro b b' hb;obtain⟨h1,h2⟩:=fE _ _ _ _ hb;exact qk _ _ (by simpa using h2)
  exact⟨fun b b' p h1 h2=>⟨p,by rw[key b b' h1];exact h2,rfl⟩,fun b b' p h1 h2 _=>⟨p,by rw[key b b' h1];exact h2,gD p⟩,fun b b' p h1 h2=>⟨p,by rw[key b b' h1];exact h2,rfl⟩,fun b b' h1 h2=>by rw[key b b' h1];exact h2,fun b b' h1 h2=>by rw[key b b' h1];exact h2⟩
 have hi:∀b,au c ids w b->au c (ρ.map fun b=>ids.getD b .dead) w b:=by
  rintro b (h|⟨h1,h2,h3⟩)
  ·exact .inl h
  ·refine .inr ⟨h1,h2,fun p hp=>?_⟩;obtain⟨i,hi⟩:=List.getElem?_of_mem hp;obtain⟨b',_,h5⟩:=jx i _ hi;exact h3 p (List.mem_of_getElem? h5)
 refine⟨rfl,rfl,?_,by simp,?_,?_,?_,hs.frame,hs.dL,?_⟩
 ·intro i h1 h2;have:i=0:=by simp at h1;omega
  subst this;exact dA hi (fun _ _=>rfl) hτ 5 _ _ hx
 ·intro i h1 h2;have dE:i<ρ.length:=by simpa using h1
  obtain⟨p,q1,q2,q3⟩:=wR ρ[i] (List.getElem_mem dE);rw[List.getElem_map,List.getElem_map,q2];exact jT hi (fun _ _=>rfl) hτ 4 (fun _ _ _ _=>rfl) q3
 ·intro i j p q x h1 h2 h3 h4;obtain⟨b1,e1,e2⟩:=jx i _ h1;obtain⟨b2,e3,e4⟩:=jx j _ h2;have:=hs.ah b1 b2 p q x e2 e4 h3 h4;subst this;exact(List.getElem?_inj (aT e1) oK).1 (e1.trans e3.symm)
 ·intro p hp x hx;obtain⟨i,hi⟩:=List.getElem?_of_mem hp;obtain⟨b,_,h3⟩:=jx i _ hi;exact hs.ar p (List.mem_of_getElem? h3) x hx
 ·intro vs hv;obtain⟨i,hi⟩:=List.getElem?_of_mem hv;obtain⟨b,_,h3⟩:=jx i _ hi;exact hs.cz vs (List.mem_of_getElem? h3)

theorem tT(hs:aF c s m a w ids){k:Nat}{rv r:A}{mo:List aq}{v:Value}(hx:Rel ids (au c ids w) w rv v)(h:Ag k m rv r mo):∃ab,aF c [r] mo ⟨#[v],[]⟩ w ab:=by
 unfold Ag at h;rw[wN] at h;split at h
 ·rename_i h1 h2;rw[dX,dF] at h;exact kO h _ _ _ _ (hs.sub (iz h2) (vz h1) hx)
 ·exact h.elim

theorem vA(aJ:bo P tt)(hs:aF c s m a w ids){fn:Func}{k:Nat}{r:A}{mo:List aq}(h:J4 tt fn.results.toList s m fun vs=>match vs with
  | [v]=>Ag k m v r mo
  | vs=>Ag k m (.tup vs) r mo):∃v ab,(results fn a.tmps).run P w=.ok v w/\aF c [r] mo ⟨#[v],[]⟩ w ab:=by
 obtain⟨xs,vs,h1,h2,h3,h4⟩:=Ah (P:=P) aJ hs _ h;have bR:=qo (P:=P) (a:=a) h1;split at h2
 ·rename_i x;have:vs.length=1:=by simpa using h3
  match vs,this with
  | [v],_ =>
   obtain⟨ab,bH⟩:=tT hs (h4 0 (by simp) (by simp)) h2;exact⟨v,ab,bR,bH⟩
 ·rename_i hne
  have hne:¬vs.length=1:=by
   intro e;rw[e] at h3
   match xs,h3 with
   | [x],_=>exact hne x rfl
  rw[dif_neg (by simpa using hne)] at bR;obtain⟨ab,bH⟩:=tT hs (.tup xs vs h3 h4) h2;exact⟨_,ab,bR,bH⟩

theorem aL.aj(aJ:bo P tt){f:FuncId}{fn:Func}{cd:Code}{args:List A}{mi:List aq}{r:A}{mo:List aq}(hf:P.funcs[f]?=some fn)(hb:fn.body=some cd)
  (hn : (fn.name == "runtime.NumGoroutine") = false) (k : Nat) (hk : fn.ntmps - args.length = k)
  (h:fl (args++List.replicate k .ae) fun s=>dj mi.length fun n=>WA P G cd (VI tt fn n r mo) s mi):aL P G f args mi r mo:=by
 rw[ck,aN] at h;refine⟨⟨fn,cd,hf,hb,hn⟩,?_⟩;intro im w vs gs ids hG hs;refine calls_of_wp hf hb ?_;unfold WA at h;have hl:vs.length=args.length:=by have:=hs.len;simpa using this
 have uo:aF ⟨w,im,fN ids,gs⟩ (args++List.replicate k .ae) mi ⟨vs.toArray++Array.replicate (fn.ntmps-vs.toArray.size) undef,[]⟩ w ids:=by
  refine⟨rfl,by simp[hl,hk],?_,hs.aK,hs.bu,hs.ah,hs.ar,hs.frame,hs.dL,hs.cz⟩;intro i h1 h2;by_cases hi:i<args.length
  ·rw[List.getElem_append_left hi,Array.getElem_append_left (by simp;omega)];exact hs.bE i hi (by simp;omega)
  ·rw[List.getElem_append_right (by omega)];simp only[List.getElem_replicate];exact .aH (.ae _)
 refine wp_mono (h ⟨w,im,fN ids,gs⟩ _ w ids hG uo) ?_;rintro e a' w' ⟨s',m',ab,hq,bH⟩;cases e with
 | ret =>
  obtain⟨v,iW,h1,h2⟩:=vA (P:=P) aJ bH hq;exact⟨bH.defers,v,h1,v,iW,rfl,h2⟩
 | normal =>
  obtain⟨v,iW,h1,h2⟩:=vA (P:=P) aJ bH hq;exact⟨bH.defers,v,h1,v,iW,rfl,h2⟩
 | _=>exact hq.elim

/-- A contract serves a state that may be taken for its own. -/
theorem aL.fit{f:FuncId}{args sv:List A}{mi VJ:List aq}{r:A}{mo:List aq}(h:aL P G f args mi r mo)(hl:VJ.length=mi.length)(hf:rT sv VJ args mi):aL P G f sv VJ r mo:=by
 refine⟨h.1,?_⟩;intro im w vs gs ids hG hs;have bH:=hs.fit hf;rw[List.take_of_length_le (by rw[hs.aK,hl];exact Nat.le_refl _)] at bH;exact h.2 im w vs gs ids hG bH
end
end Go.Proofs.YtijddijloelacaaGreat.Am
namespace Go.Proofs.YtijddijloelacaaGreat.Am
variable [Inhabited bY]
/-- What a branch's test says, in plain words: all rules as one. -/
theorem af:(∀(p:Prop) [Decidable p],(decide p=true)=p)/\(∀(p:Prop) [Decidable p],(decide p=false)=¬p)/\(∀(α:Type) [BEq α] [LawfulBEq α] (a b:α),((a==b)=true)=(a=b)) /\
  (∀(α:Type) [BEq α] [LawfulBEq α] (a b:α),((a==b)=false)=(a≠b))/\(∀(α:Type) [BEq α] [LawfulBEq α] (a b:α),((a != b)=true)=(a≠b))/\(∀(α:Type) [BEq α] [LawfulBEq α] (a b:α),((a != b)=false)=(a=b)) /\
  (∀(α:Type) (a b:α),(a≠b)=¬(a=b))/\(∀b:Bool,((!b)=true)=(b=false))/\(∀b:Bool,((!b)=false)=(b=true))/\(∀b:Bool,(¬b=true)=(b=false))/\(∀(p:Prop) [Decidable p],(¬¬p)=p) :=
 ⟨fun _ _=>by simp,fun _ _=>by simp,fun _ _ _ _ _=>by simp,fun _ _ _ _ _=>by simp,fun _ _ _ _ _=>by simp,fun _ _ _ _ _=>by simp,fun _ _ _=>rfl,fun _=>by simp,fun _=>by simp,fun _=>by simp,fun _ _=>by simp⟩
theorem RV:(∀n:Nat,(n:Int).toNat=n)/\(∀a b:Bool,((a&&b)=true)=(a=true/\b=true))/\(∀a b:Bool,((a||b)=true)=(a=true\/b=true))/\(∀b:Bool,((!b)=true)=(b=false)) /\
  (∀a b:Bool,((a&&b)=false)=(a=false\/b=false))/\(∀a b:Bool,((a||b)=false)=(a=false/\b=false))/\(∀(p:Prop) [Decidable p],(decide p=true)=p)/\(∀(p:Prop) [Decidable p],(decide p=false)=¬p) :=
 ⟨fun _=>by simp,fun _ _=>by simp,fun _ _=>by simp,fun _=>by simp,fun a b=>by cases a<;>cases b<;>simp,fun _ _=>by simp,fun _ _=>by simp,fun _ _=>by simp⟩
theorem rL:(∀a b:Int,(a==b)=decide (a=b))/\(∀a b:Int,(a != b) = !decide (a=b))/\(∀a b:Bool,((a&&b)=true)=(a=true/\b=true))/\(∀a b:Bool,((a||b)=true)=(a=true\/b=true))/\(∀b:Bool,((!b)=true)=(b=false))/\(∀b:Bool,((!b)=false)=(b=true)) /\
  (∀a b:Bool,((a&&b)=false)=(a=false\/b=false))/\(∀a b:Bool,((a||b)=false)=(a=false/\b=false))/\(∀(p:Prop) [Decidable p],(decide p=true)=p)/\(∀(p:Prop) [Decidable p],(decide p=false)=¬p)/\((true=true)=True)/\((false=true)=False)/\((true=false)=False)/\((false=false)=True)/\(∀p:Prop,(p/\True)=p)/\(∀p:Prop,(p\/False)=p) :=
 ⟨fun _ _=>rfl,fun _ _=>rfl,fun _ _=>by simp,fun _ _=>by simp,fun _=>by simp,fun _=>by simp,fun a b=>by cases a<;>cases b<;>simp,fun _ _=>by simp,fun _ _=>by simp,fun _ _=>by simp,by simp,by simp,by simp,by simp,by simp,by simp⟩
section
variable {P:Program} {G:aG} {tt:TT} {Q:Exit->List A->List aq->Prop} {s:List A} {m:List aq}
theorem sq{x y:Code}(h:WA P G x (JH (WA P G y Q) Q) s m):WA P G (.seq x y) Q s m:=cB h
theorem bk{id:Nat}{x:Code}(h:WA P G x (w7 id Q) s m):WA P G (.block id x) Q s m:=bm h
theorem cd{t:Operand}{x y:Code}(h:DP (ev s t) (WA P G x Q s m) (WA P G y Q s m)):WA P G (.cond t x y) Q s m:=bJ h
theorem sk(h:Q .normal s m):WA P G .skip Q s m:=bK h
theorem xt{id:Nat}(h:Q (.exit id) s m):WA P G (.exit id) Q s m:=bL h
theorem rt(h:Q .ret s m):WA P G .ret Q s m:=cC h
theorem rg(aJ:bo P tt){id:Nat}{l:List Oper}(h:ur P G tt l l s m (Q .normal)):WA P G (.region id l.toArray false) Q s m:=aS aJ h
theorem dw(aJ:bo P tt)(hm:P.follows .mixedOrders=true){id:Nat}{l:List Oper}
  (h:Af (kT l) m fun m'=>dj m.length fun b=>tP P G tt l [] l 0 b s m' fun s' Mb xl=>bG l xl=true/\Q .normal s' Mb):WA P G (.region id l.toArray true) Q s m:=bI aJ hm h
end
theorem wf{k:IntKind}{n:Int}{K:A->Prop}(h2:K (.int k n))(h1:k.wrap n=n:=by first|exact cN (by omega)|exact cO (by omega)|exact eG (by omega)|exact cW (by omega)|exact cX (by omega)):WR k n K:=cM h1 h2
theorem aA{k:IntKind}{n:Int}{K:A->Prop}(h:K (.int k (k.wrap n))):WR k n K:=b9 h
theorem ai{l:List Oper}{f:List Fp}{q:Prop}(h2:q)(h1:bG l f=true:=by kernel_rfl):bG l f=true/\q:=⟨h1,h2⟩
theorem an{p q:Prop}(h2:q)(h1:p:=by first|omega|decide|(dsimp only;omega)|(simp at *;omega)):p/\q:=⟨h1,h2⟩
theorem fa{p:Prop}(h:p:=by first|exact rfl|exact trivial|exact Or.inl (fun _ _=>rfl)|exact(fun _=>rfl)|exact(fun _ _=>rfl)|exact Or.inl (fun _ hi=>absurd hi (Nat.not_lt_zero _))):p:=h
theorem fb{p q:Prop}(h2:q)(h:p:=by first|exact rfl|exact Or.inl (fun _ _=>rfl)|exact(fun _=>rfl)|exact(fun _ _=>rfl)):p/\q:=⟨h,h2⟩
def T7(P:Program)(G:aG)(tt:TT)(Q:Exit->List A->List aq->Prop)(s:List A)(m:List aq):Code->Prop
 | .seq x y=>WA P G x (JH (WA P G y Q) Q) s m
 | .block id x=>WA P G x (w7 id Q) s m
 | .cond t x y=>DP (ev s t) (WA P G x Q s m) (WA P G y Q s m)
 | .skip=>Q .normal s m
 | .exit id=>Q (.exit id) s m
 | .ret=>Q .ret s m
 | .region _ ⟨l⟩ false=>ur P G tt l l s m (Q .normal)
 | .region _ ⟨l⟩ true=>Af (kT l) m fun m'=>dj m.length fun b=>tP P G tt l [] l 0 b s m' fun s' Mb xl=>bG l xl=true/\Q .normal s' Mb
 | _=>False
def T8:Code->Bool
 | .loop _=>false
 | .rangeFunc ..=>false
 | _=>true
theorem NJ{P:Program}{G:aG}{tt:TT}{Q:Exit->List A->List aq->Prop}{s:List A}{m:List aq}(aJ:bo P tt)(hm:P.follows .mixedOrders=true){c:Code}(h:T7 P G tt Q s m c):WA P G c Q s m:=by
 unfold T7 at h;split at h
 ·exact cB h
 ·exact bm h
 ·exact bJ h
 ·exact bK h
 ·exact bL h
 ·exact cC h
 ·exact aS aJ h
 ·exact bI aJ hm h
 ·exact h.elim
/-- A state that says less, ahead of a region. -/
theorem Iz{P:Program}{G:aG}{Q:Exit->List A->List aq->Prop}{s:List A}{m:List aq}{id:Nat}{l:Array Oper}{d:Bool}(ov:List (Nat×A))(M:List aq)
  (h0:fl (TU ov s) fun s'=>rT s m s' M) (h:fl (TU ov s) fun s'=>WA P G (.region id l d) Q s' M):WA P G (.region id l d) Q s m:=by
 rw[ck] at h0 h;exact ve (kO h0) h
theorem ik{l:List Oper}{f:List Fp}(h:bG l f=true):bG l f=true:=h
theorem nn{p q:Prop}(h2:q)(h1:p:=by first|exact ik (by kernel_rfl)|rfl|omega|decide|(dsimp only;omega)|(simp at *;omega)):p/\q:=⟨h1,h2⟩
theorem ff{p:Prop}(h:p:=by (conv=>whnf);repeat (first|exact fa|((first|refine fb ?_|(refine And.intro ?_ ?_;rotate_left));conv=>whnf))):p:=h
theorem nx{ι:Type}{I:ι->Prop}{μ:ι->Nat}{i:ι}{K:ι->Prop}(j:ι)(hI:I j)(h:K j)(hm:μ j<μ i:=by dsimp only;omega):∃j,I j/\μ j<μ i/\K j:=⟨j,hI,hm,h⟩
end Go.Proofs.YtijddijloelacaaGreat.Am
namespace Go.Proofs.YtijddijloelacaaGreat.Am
variable [Inhabited bY]
open Go.RowKit (Below)
/-- A contract serves arguments that may be taken for its own. -/
theorem aa.fit{P:Program}{G:aG}{f:FuncId}{args sv:List A}{r:A}(h:aa P G f args r)(hf:fL (jZ.lW 6 0 sv args)):aa P G f sv r:=by
 refine⟨h.1,?_⟩;intro im w vs uc hG hl hr;have hlen:=eR _ _ _ _ hf;refine h.2 im w vs uc hG (by omega) ?_;intro j h1 h2;have:=gW (ids:=[]) (im:=im) (bl:=im) (w:=w) (fun _ h=>h) 6 0 _ _ _ (gV _ _ _ _ hf j (by omega) h1) (.aH (hr j (by omega) h2));exact Rel.rE (by simpa using this)
end Go.Proofs.YtijddijloelacaaGreat.Am
namespace Go.Proofs.YtijddijloelacaaGreat.Am
theorem MK{i j:Inhabited bY}(h:(@default bY j).ns){n:Nat}{w w':World}(k : @Bw i n w w'): @Bw j n w w':=by
 cases k with
 | mk a b c d e f=>exact @Bw.mk j n w w' a b c d e (Or.inl h)
theorem rW{i j:Inhabited bY}{P:Program}{G:aG}{f:FuncId}{args:List A}{r:A}(h:(@default bY j).ns)(c : @aa i P G f args r): @aa j P G f args r:=by
 refine And.intro c.1 (fun im w vs h1 h2 h3 h4=>bg (c.2 im w vs h1 h2 h3 h4) ?_);rintro e w' ⟨v,k1,k2,k3⟩;exact⟨v,k1,k2,MK h k3⟩
abbrev FE:Inhabited bY:=⟨⟨False⟩⟩
theorem pX{i j:Inhabited bY}{P:Program}{G:aG}{f:FuncId}{args:List A}{mi:List aq}{r:A}{mo:List aq}(h:(@default bY j).ns)(c : @aL i P G f args mi r mo): @aL j P G f args mi r mo:=by
 refine And.intro c.1 (fun im w vs gs ids hG hs=>bg (c.2 im w vs gs ids hG ?_) ?_)
 ·cases hs with
  | mk a b c d e f g h2 k l=>exact @aF.mk i _ _ _ _ _ _ a b c d e f g (@Fr.refl i w im (fN ids) gs) k l
 ·rintro e w' ⟨v,ab,e1,bH⟩;refine⟨v,ab,e1,?_⟩;cases bH with
  | mk a b c d e f g h2 k l =>
   refine @aF.mk j _ _ _ _ _ _ a b c d e f g ?_ k l;cases h2 with
   | mk o1 o2 o3 o4 o5 o6=>exact @Fr.mk j _ _ o1 o2 o3 o4 o5 (Or.inl h)
end Go.Proofs.YtijddijloelacaaGreat.Am

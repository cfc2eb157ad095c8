/-
  THE ENGINE, part 3: an abstract machine of symbolic values, each step proved sound.
-/
import Derived.Test.YtijddijloelacaaGreatNetPiecesm2
import Derived.ProofKit
import Derived.LaidMore
import Derived.OpenShut
import Derived.Stop.Joined
import Derived.Orders
set_option linter.unusedSimpArgs false
set_option linter.unusedSectionVars false
set_option linter.unusedVariables false
namespace Go.Proofs.YtijddijloelacaaGreat.Am
variable [Inhabited cc]
open Go.RowKit (Below)
def Oo(tt:TT)(rv:ResultVar)(s:List A)(m:List aq)(K:A->Prop):Prop :=
 match rv with
 | .tmp t=>fd 3 (wk m 5 (s.getD t .af)) K
 | .cell p t=>lM tt t (s.getD p .af) m fun v _=>fd 3 (wk m 5 v) K
def Lc(tt:TT):List ResultVar->List A->List aq->(List A->Prop)->Prop
 | [],_,_,K=>K []
 | r::rs,s,m,K=>Oo tt r s m fun v=>Lc tt rs s m fun vs=>K (v::vs)
def Oq(vs:List A)(r:A):Prop :=
 match vs with
 | [v]=>ga (kF 6 0 v r)
 | vs=>ga (kF 6 0 (.tup vs) r)
def Ym(tt:TT)(fn:Func)(r:A):Exit->List A->List aq->Prop
 | .ret,s,m=>Lc tt fn.results.toList s m fun vs=>Oq vs r
 | .normal,s,m=>Lc tt fn.results.toList s m fun vs=>Oq vs r
 | _,_,_=>False

def uH(tmps:Array Value):ResultVar->Sem Value
 | .tmp t=>pure (tmps.getD t undef)
 | .cell p t=>do loadVar t (<-asAddr (tmps.getD p undef))

section
variable {c:Ctx} {s:List A} {m:List aq} {a:Act} {w w':World} {ids ab:dE} {P:Program} {im bo:Nat->Prop} {tt:TT} {G:aG}

theorem wA(aJ:bp P tt)(hs:aF c s m a w ids){t:TypeId}{x:A}{v:Value}(hx:Rel ids (au c ids w) w x v){K:KT}(h:lM tt t x m K):
  ∃ad r u,v=.pointer (some ad)/\(loadVar t ad).run P w=.ok u w/\K r m/\Rel ids (au c ids w) w r u:=by
 unfold lM at h;split at h
 ·exact h.elim
 ·rename_i ti ht;split at h
  ·rename_i b off;split at h
   ·rename_i ty cs hb;obtain⟨p,bZ,hv⟩:=hs.xA hx (by rw[hb];simp);obtain⟨r,v,h1,h2,h3⟩:=iX (P:=P) aJ ht (base:=0) (hs.sS bZ hb) h;rw[Nat.zero_add] at h1;exact⟨_,r,v,hv,h1,h2,h3⟩
   ·exact h.elim
  ·rename_i b i off;split at h
   ·rename_i ty sz n row hb;obtain⟨p,bZ,hv⟩:=hs.ll hx (by rw[hb];simp);obtain⟨hi,h⟩:=h;rw[ck] at h;obtain⟨r,v,h1,h2,h3⟩:=iX (P:=P) aJ ht (hs.EY bZ hb hi) h;exact⟨_,r,v,hv,h1,h2,h3⟩
   ·exact h.elim
  ·rename_i cs off;cases hx with
   | aI hx =>
    cases hx with
    | bref ao base _ _ vs hb hc UH hr =>
     have bW:UG ids (au c ids w) w cs ao base:=by
      refine⟨(List.range cs.length).map vs,by simp,?_,?_,?_⟩
      ·intro j hj;simp at hj;simpa using hc j hj
      ·intro v hv;simp at hv;obtain⟨j,hj,rfl⟩:=hv;exact UH j hj
      ·intro j hj cj;simpa using Rel.aI (hr j hj)
     obtain⟨r,v,h1,h2,h3⟩:=iX (P:=P) aJ ht bW h;exact⟨_,r,v,rfl,h1,h2,h3⟩
  ·exact h.elim

theorem Ld(aJ:bp P tt)(hs:aF c s m a w ids)(rv:ResultVar){K:A->Prop}(h:Oo tt rv s m K):
  ∃r v,(uH a.tmps rv).run P w=.ok v w/\K r/\aw (rl c ids w) w r v:=by
 cases rv with
 | tmp t =>
  simp only[Oo,eI] at h;exact⟨_,a.tmps.getD t undef,rfl,h,jQ hs 5 _ _ (hs.ev (.tmp t))⟩
 | cell p t =>
  simp only[Oo,eI] at h;obtain⟨ad,r,u,h1,h2,h3,h4⟩:=wA (P:=P) aJ hs (hs.ev (.tmp p)) h;refine⟨_,u,?_,h3,jQ hs 5 _ _ h4⟩;have h1:a.tmps.getD p undef=.pointer (some ad):=h1;show(do loadVar t (<-asAddr (a.tmps.getD p undef)):Sem Value).run P w=_;rw[h1];simp[asAddr,h2]

theorem A1(aJ:bp P tt)(hs:aF c s m a w ids):∀(rs:List ResultVar) {K:List A->Prop},Lc tt rs s m K ->
  ∃(xs:List A) (vs:List Value),(rs.mapM (uH a.tmps)).run P w=.ok vs w/\K xs /\
   vs.length=xs.length/\∀j (h:j<xs.length) (h':j<vs.length),aw (rl c ids w) w xs[j] vs[j]
 | [],K,h=>⟨[],[],by simp,h,rfl,fun j h=>absurd h (Nat.not_lt_zero _)⟩
 | rv::rs,K,h=>by
  obtain⟨r,v,h1,h2,h3⟩:=Ld (P:=P) aJ hs rv h;obtain⟨xs,vs,g1,g2,g3,g4⟩:=A1 aJ hs rs h2;refine⟨r::xs,v::vs,?_,g2,by simp[g3],?_⟩
  ·rw[List.mapM_cons];simp only[Sem.run_bind,h1,Result.andThen_ok,g1];rfl
  ·intro j hj cj;cases j with
   | zero=>exact h3
   | succ j=>exact g4 j (by simpa using hj) (by simpa using cj)

theorem Dl(fn:Func)(tmps:Array Value):results fn tmps=(do let vs <-fn.results.mapM (uH tmps);pure (if h:vs.size=1 then vs[0] else .tuple vs)):=by
 unfold results
 have:∀f g:ResultVar->Sem Value,f=g->(do let vs <-fn.results.mapM f;pure (if h:vs.size=1 then vs[0] else .tuple vs))=(do let vs <-fn.results.mapM g;pure (if h:vs.size=1 then vs[0] else .tuple vs)):=by
  rintro f _ rfl;rfl
 apply this
 funext x;cases x<;>rfl
theorem rC{fn:Func}{vs:List Value}(h:(fn.results.toList.mapM (uH a.tmps)).run P w=.ok vs w):
  (results fn a.tmps).run P w=.ok (if h:vs.toArray.size=1 then vs.toArray[0] else .tuple vs.toArray) w:=by
 rw[Dl]
 have e:(fn.results.mapM (uH a.tmps)).run P w=.ok vs.toArray w:=by
  rw[Array.mapM_eq_mapM_toList,map_eq_pure_bind];simp only[Sem.run_bind,h,Result.andThen_ok];rfl
 simp only[Sem.run_bind,e,Result.andThen_ok];rfl

theorem wB(aJ:bp P tt)(hs:aF c s m a w ids){fn:Func}{r:A}(h:Lc tt fn.results.toList s m fun vs=>Oq vs r):
  ∃v,(results fn a.tmps).run P w=.ok v w/\aw (fun b=>c.SP b\/(c.new b/\b<w.heap.size)) w r v:=by
 obtain⟨xs,vs,h1,h2,h3,h4⟩:=A1 (P:=P) aJ hs _ h;refine⟨_,rC h1,?_⟩
 have hi:∀b,rl c ids w b->c.SP b\/(c.new b/\b<w.heap.size):=by
  rintro b ((h|⟨q1,q2,_⟩)|⟨p,hp,hx⟩)
  ·exact .inl h
  ·exact .inr ⟨q1,q2⟩
  ·exact .inr (hs.ar p hp b hx)
 have fin:∀x v,ga (kF 6 0 x r)->aw (rl c ids w) w x v->aw (fun b=>c.SP b\/(c.new b/\b<w.heap.size)) w r v:=by
  intro x v hf hr;have:=iC (ids:=[]) (n:=0) hi 6 x r v hf (.aI hr);exact this.sV
 unfold Oq at h2;split at h2
 ·rename_i x;have:vs.length=1:=by simpa using h3
  match vs,this with
  | [v],_=>exact fin x v h2 (h4 0 (by simp) (by simp))
 ·rename_i hne
  have hne:¬vs.length=1:=by
   intro e;rw[e] at h3
   match xs,h3 with
   | [x],_=>exact hne x rfl
  rw[dif_neg (by simpa using hne)];exact fin _ _ h2 (.tup xs vs h3 h4)

theorem aa.ah(aJ:bp P tt){f:FuncId}{fn:Func}{cd:Code}{args:List A}{r:A}(hf:P.funcs[f]?=some fn)(hb:fn.body=some cd)
  (hn : (fn.name == "runtime.NumGoroutine") = false) (k : Nat) (hk : fn.ntmps - args.length = k)
  (h:fl (args++List.replicate k .af) fun s=>WA P G cd (Ym tt fn r) s []):aa P G f args r:=by
 rw[ck] at h;refine⟨⟨fn,cd,hf,hb,hn⟩,?_⟩;intro im w vs nC hG hl hr;refine calls_of_wp hf hb ?_;unfold WA at h
 have og:aF ⟨w,im,fun _=>False,[]⟩ (args++List.replicate k .af) [] ⟨vs.toArray++Array.replicate (fn.ntmps-vs.toArray.size) undef,[]⟩ w []:=by
  refine⟨rfl,by simp[hl,hk],?_,rfl,fun b h=>absurd h (Nat.not_lt_zero _),(fun b b' p q x h=>by simp at h),(fun p h=>by cases h),Fr.refl _ _ _ _,fun b hb=>⟨nC b hb,fun h=>h⟩,(fun vs h=>by cases h)⟩;intro i h1 h2;by_cases hi:i<args.length
  ·rw[List.getElem_append_left hi,Array.getElem_append_left (by simp;omega)];have:=hr i hi (by omega);exact .aI (by simpa using this.up (fun b hb=>.inl hb))
  ·rw[List.getElem_append_right (by omega)];simp only[List.getElem_replicate];exact .aI (.af _)
 have lQ:∀(w':World) (b:Nat),im b\/(Ctx.new ⟨w,im,fun _=>False,[]⟩ b/\b<w'.heap.size)->im b\/(w.heap.size<=b/\b<w'.heap.size):=by
  rintro w' b (h|⟨h|h,h2⟩)
  ·exact .inl h
  ·exact .inr ⟨h,h2⟩
  ·exact h.elim
 refine wp_mono (h ⟨w,im,fun _=>False,[]⟩ _ w [] ⟨hG,fun _ h=>h.elim⟩ og) ?_;rintro e a' w' ⟨s',m',ab,hq,bH⟩;cases e with
 | ret =>
  obtain⟨v,h1,h2⟩:=wB (P:=P) aJ bH hq;exact⟨bH.defers,v,h1,v,rfl,h2.up (lQ w'),bH.frame.below fun _ h=>h⟩
 | normal =>
  obtain⟨v,h1,h2⟩:=wB (P:=P) aJ bH hq;exact⟨bH.defers,v,h1,v,rfl,h2.up (lQ w'),bH.frame.below fun _ h=>h⟩
 | _=>exact hq.elim

def writes:Code->List Nat
 | .region _ ops _=>ops.toList.filterMap (·.dst)
 | .seq x y=>writes x++writes y
 | .cond _ x y=>writes x++writes y
 | .block _ x=>writes x
 | .loop x=>writes x
 | _=>[]
def Dm(i:Nat):List Nat->Bool
 | []=>false
 | j::js=>match Nat.beq i j with
  | true=>true
  | false=>Dm i js
def jk(ws:List Nat):Nat->List A->List A
 | _,[]=>[]
 | i,x::xs=>(match Dm i ws with|true=>.af|false=>x)::jk ws (i+1) xs
def SL:List (Nat×A)->List A->List A
 | [],s=>s
 | (i,v)::l,s=>SL l (s.set i v)
def uI(body:Code)(s:List A)(ov:List (Nat×A)):List A:=SL ov (jk (writes body) 0 s)
def Sd{ι:Type}(body:Code)(s0:List A)(ov:ι->List (Nat×A))(M:ι->List aq)(μ:ι->Nat)(i:ι)(Q:Exit->List A->List aq->Prop):Exit->List A->List aq->Prop
 | .normal,s,m=>∃j,μ j<μ i/\fl (uI body s0 (ov j)) fun s'=>rQ s m s' (M j)
 | e,s,m=>Q e s m
theorem Le{Q:Exit->List A->List aq->Prop}{ι:Type}{body:Code}(ov:ι->List (Nat×A))(M:ι->List aq)(μ:ι->Nat)(i0:ι)
  (h0:fl (uI body s (ov i0)) fun s'=>rQ s m s' (M i0))
  (hr:∀i,fl (uI body s (ov i)) fun s'=>WA P G body (Sd body s ov M μ i Q) s' (M i)):WA P G (.loop body) Q s m:=by
 rw[ck] at h0;refine Ol (fun i=>uI body s (ov i)) M μ i0 (jg h0) ?_;intro i;have:=hr i;rw[ck] at this;refine Fh this ?_;intro e s' m' hq;cases e with
 | normal =>
  obtain⟨j,h1,h2⟩:=hq;rw[ck] at h2;exact⟨j,h1,jg h2⟩
 | _=>exact hq

def Se{ι:Type}(body:Code)(s0:List A)(I:ι->Prop)(ov:ι->List (Nat×A))(M:ι->List aq)(μ:ι->Nat)(i:ι)(Q:Exit->List A->List aq->Prop):Exit->List A->List aq->Prop
 | .normal,s,m=>∃j,I j/\μ j<μ i/\fl (uI body s0 (ov j)) fun s'=>rQ s m s' (M j)
 | e,s,m=>Q e s m
/-- A loop whose rounds are told by an index that keeps a law. -/
theorem ak{Q:Exit->List A->List aq->Prop}{ι:Type}{body:Code}(I:ι->Prop)(ov:ι->List (Nat×A))(M:ι->List aq)(μ:ι->Nat)(i0:ι)(hI:I i0)
  (h0:fl (uI body s (ov i0)) fun s'=>rQ s m s' (M i0))
  (hr:∀i,I i->fl (uI body s (ov i)) fun s'=>WA P G body (Se body s I ov M μ i Q) s' (M i)):WA P G (.loop body) Q s m:=by
 refine Le (ι:={i:ι//I i}) (fun i=>ov i.1) (fun i=>M i.1) (fun i=>μ i.1) ⟨i0,hI⟩ h0 ?_;rintro⟨i,hi⟩;have:=hr i hi;rw[ck] at this ⊢;refine Fh this ?_;intro e s' m' hq;cases e with
 | normal =>
  obtain⟨j,h1,h2,h3⟩:=hq;exact⟨⟨j,h1⟩,h2,h3⟩
 | _=>exact hq

/-- A slot that holds a nil slice holds a row of ours that has no place yet. -/
theorem iG{Q:Exit->List A->List aq->Prop}{code:Code}(k:Nat)(ty:TypeId)(sz:Nat)(hk:s[k]?=some .aV)
  (h:dz m.length fun n=>xC s k (.own n) fun s'=>lL m (.row ty sz 0 fun _=>[]) fun _ m'=>WA P G code Q s' m'):WA P G code Q s m:=by
 rw[aO,gB,fG] at h;unfold WA at h ⊢;intro c a w ids hG hs
 have LA:=hs.grow (Bw.refl _ w) [.row ty sz 0 fun _=>[]] [.aQ] rfl (fun i h1 h2=>by
   have:i=0:=by simp at h1;omega
   subst this;exact rfl) (fun p h=>by simp at h) (fun vs h=>by simp at h) (fun i j p q x h1=>by
   cases i with
   | zero=>simp at h1
   | succ i=>simp at h1)
 have aD:k<s.length:=by
  rcases Nat.lt_or_ge k s.length with h'|h'
  ·exact h'
  ·rw[List.getElem?_eq_none h'] at hk;cases hk
 have hv:=hs.bI k aD (by rw[hs.len];exact aD);have Yn:s[k]=.aV:=by rw[List.getElem?_eq_getElem aD] at hk;exact Option.some.inj hk
 rw[Yn] at hv
 have kL:=LA.x9 k (x:=.own m.length) (by
  rw[Array.getD_eq_getD_getElem?,Array.getElem?_eq_getElem (by rw[hs.len];exact aD)];simp only[Option.getD_some];rw[hv.dr];exact .fX _ (by rw[<-hs.aL];simp))
 exact h c a w _ hG kL
end
end Go.Proofs.YtijddijloelacaaGreat.Am
namespace Go.Proofs.YtijddijloelacaaGreat.Am
variable [Inhabited cc]
open Go.RowKit Go.ChangeShapes
section
variable {H:Type} {enc:TypeId × Value->H} {P:Program}
/-- Each argument reads behind the call as it read before. -/
theorem nL(hl:laidOutB P=true){W W':World}(hb:Below W.heap.size W W'):∀(ts:List TypeId) (vs:List Value) (ds:List (DataW H)) (ps:List MemPlace),
  ts.all (fun t=>P.readableRec t&&decide (t<P.types.size))=true->DataW.TrodAll enc P W 0 (fun _=>true) true ts vs ds ps->(∀x∈ps,x.block<W.heap.size) ->
  DataW.TrodAll enc P W' 0 (fun b=>decide (b<W.heap.size)) true ts vs ds ps
 | [],vs,ds,ps,_,h,_=>by
  obtain⟨rfl,rfl,rfl⟩:=trodAll_nil h;rfl
 | t::ts,vs,ds,ps,Sf,h,aD=>by
  obtain⟨v,dK,d,ds',p,q,rfl,rfl,rfl,h1,h2⟩:=trodAll_cons h;simp only[List.all_cons,Bool.and_eq_true,decide_eq_true_eq] at Sf;exact⟨p,q,Below.trod hl Sf.1.1 Sf.1.2 h1 hb (fun x hx=>aD x (List.mem_append_left _ hx)),nL hl hb ts dK ds' q Sf.2 h2 (fun x hx=>aD x (List.mem_append_right _ hx)),rfl⟩

/-- A law that returned true, in a world that is as it was below the heap's old size. -/
theorem Fw{f:Func}{s:ChangeSpec}{apart fresh handsOn:Bool}{W W':World}{args:Array Value}{ds gs:List (DataW H)}{before:List MemPlace}{tb:TypeId}
  (hl:laidOutB P=true) (hv:s.vars=[]) (hr:f.resultTypes = #[tb]) (htb:P.underlying tb=some .bool)
  (Sf:f.params.toList.all (fun t=>P.readableRec t&&decide (t<P.types.size))=true)
  (hfn:s.fn H (ds++gs)={ results:=[.lit (.bool true)],args:=ds })
  (hW:DataW.Whole enc P f.params.toList s.vars apart W args.toList ds gs before) (hb:Below W.heap.size W W') :
  s.post enc P f apart fresh handsOn false W args (.bool true) W':=by
 have S0:=hW;obtain⟨p,q,hA,hV,rfl,hz,hn⟩:=hW;rw[hv] at hV;obtain⟨rfl,rfl⟩:=trodVars_none hV;refine⟨ds,[],p++[],[],p,[],S0,?_,?_,?_,hb.frame _,fun h=>by cases h⟩
 ·rw[hfn,hr];exact trodAll_mk1 (shut_bool htb _)
 ·rw[hfn];exact nL hl hb _ _ _ _ Sf hA (fun x hx=>S0.lt x (by simpa using hx))
 ·rw[hfn,hv];rfl
end

/-- From a contract to a call. -/
theorem BB{P:Program}{G:aG}{f:FuncId}{as:List A}(h:aa P G f as (.sb true)){W:World}{vs:List Value}{im:Nat->Prop}(nC:∀b,im b->b<W.heap.size)(hG:G.G W)(hl:vs.length=as.length)
  (hr:∀j (h:j<as.length) (h':j<vs.length),aw im W as[j] vs[j]):Calls P f vs.toArray W fun e W'=>e=.returned (.bool true)/\Below W.heap.size W W':=by
 refine bl (h.2 im W vs nC hG hl hr) ?_;rintro e W' ⟨v,rfl,hv,hb⟩;cases hv;exact⟨rfl,hb.below⟩
end Go.Proofs.YtijddijloelacaaGreat.Am
namespace Go.Proofs.YtijddijloelacaaGreat.Am
variable [Inhabited cc]
open Go.RowKit (Below)
/-- A continuation's argument is one value, whatever is asked of it. -/
def DM(F:(A->Prop)->Prop):Prop:=∀K,F K↔∃v,K v/\F (fun v'=>v'=v)
theorem DM.val(e:A):DM (fun K=>K e):=fun K=>by simp
theorem DM.cO:DM (fun _=>False):=fun K=>by simp
theorem DM.and{c:Prop}{F:(A->Prop)->Prop}(h:DM F):DM (fun K=>c/\F K):=fun K=>by
 constructor
 ·rintro⟨hc,hF⟩;obtain⟨v,h1,h2⟩:=(h K).1 hF;exact⟨v,h1,hc,h2⟩
 ·rintro⟨v,h1,hc,h2⟩;exact⟨hc,(h K).2 ⟨v,h1,h2⟩⟩
theorem DM.two{b:Bool}{F F':(A->Prop)->Prop}(h:DM F)(h':DM F'):DM (fun K=>(b=true->F K)/\(b=false->F' K)):=fun K=>by
 cases b
 ·simpa using h' K
 ·simpa using h K
theorem DM.ex{α:Type}{p:α->Prop}{F:α->(A->Prop)->Prop}(h:∀r,DM (F r)):DM (fun K=>∃r,p r/\F r K):=fun K=>by
 constructor
 ·rintro⟨r,hp,hF⟩;obtain⟨v,h1,h2⟩:=(h r K).1 hF;exact⟨v,h1,r,hp,h2⟩
 ·rintro⟨v,h1,r,hp,h2⟩;exact⟨r,hp,(h r K).2 ⟨v,h1,h2⟩⟩
theorem uJ(agg:Bool)(size:Nat)(cs:List A)(off:Nat):DM (Ks agg size cs off):=by
 unfold Ks;cases agg
 ·cases Nat.blt off cs.length
  ·exact DM.cO
  ·simp only[dp];exact DM.val _
 ·cases Nat.ble (off+size) cs.length
  ·exact DM.cO
  ·simp only[ck];exact DM.val _
theorem Lf(tt:TT)(t:TypeId)(p:A)(m:List aq):DM (fun K=>lM tt t p m fun v _=>K v):=by
 unfold lM;cases tt.lookup t with
 | none=>exact DM.cO
 | some ti =>
  cases p<;>simp only<;>first|exact DM.cO|skip
  case ref b off=>cases m.getD b .dead<;>simp only<;>first|exact DM.cO|exact uJ _ _ _ _
  case oref b i off =>
   cases m.getD b .dead<;>simp only<;>first|exact DM.cO|skip
   simp only[ck];exact DM.and (uJ _ _ _ _)
  case bref cs off=>exact uJ _ _ _ _
theorem Lg(x y z:A):DM (AB x y z):=by
 unfold AB;split
 ·simp only[dp];exact DM.val _
 ·simp only[dp];exact DM.val _
 ·simp only[dp];exact DM.two (DM.val _) (DM.val _)
 ·exact DM.cO
theorem A2(k:IntKind)(n:Int):DM (WR k n):=by
 intro K;constructor
 ·intro h;exact⟨_,mH h,by unfold WR;exact .inr rfl⟩
 ·rintro⟨v,h1,h2⟩;unfold WR at h2 ⊢;rcases h2 with⟨h2,h3⟩|h3
  ·subst h3;exact .inl ⟨h2,h1⟩
  ·subst h3;exact .inr h1
theorem Dn(op:BinOp)(k:IntKind)(a b:Int):DM (o9 op k a b):=by
 unfold o9;cases op<;>simp only<;>first|exact DM.cO|exact DM.val _|exact A2 _ _|exact DM.and (A2 _ _)|exact DM.and (DM.val _)
theorem Dp(op:BinOp)(a b:List UInt8):DM (pd op a b):=by
 unfold pd;cases op<;>simp only<;>first|exact DM.cO|exact DM.val _|exact DM.and (DM.val _)
theorem GQ(op:BinOp)(k:IntKind)(a b:Int):DM (uf op k a b):=by
 unfold uf;cases op<;>simp only<;>first|exact DM.cO|exact DM.val _|exact DM.and (A2 _ _)|exact DM.and (DM.val _)
theorem Dq:∀(sh:List Nat) (cs db:List A) (g:Bool->A),DM (fun K=>yB sh cs db fun r=>K (g r))
 | [],[],[],g=>by unfold yB;exact DM.val _
 | k::ks,x::xs,y::ys,g=>by
  have ih:=fun g=>Dq ks xs ys g;unfold yB;split
  ·cases x<;>cases y<;>simp only<;>first|exact DM.cO|skip
   rename_i p a q b;cases mI p q<;>simp only
   ·exact DM.cO
   ·exact ih fun r=>g (a==b&&r)
  ·cases Pe x<;>cases Pe y<;>simp only<;>first|exact DM.cO|skip
   rename_i a b;exact ih fun r=>g (a==b&&r)
  ·cases x<;>cases y<;>simp only<;>first|exact DM.cO|skip
   rename_i a b;exact ih fun r=>g (a==b&&r)
  ·exact DM.cO
 | [],[],_::_,_=>by unfold yB;exact DM.cO
 | [],_::_,_,_=>by unfold yB;exact DM.cO
 | _::_,[],_,_=>by unfold yB;exact DM.cO
 | _::_,_::_,[],_=>by unfold yB;exact DM.cO
theorem Sh(op:UnOp)(x:A):DM (UF op x):=by
 unfold UF;cases op<;>cases x<;>simp only<;>first|exact DM.cO|exact DM.val _|exact A2 _ _
theorem Ot(tt:TT)(t:TypeId)(x:A)(m:List aq):DM (AA tt t x m):=by
 unfold AA;cases tt.lookup t with
 | none=>exact DM.cO
 | some ti =>
  simp only;split<;>first|exact DM.cO|exact DM.val _|skip
  split<;>first|exact DM.cO|exact DM.val _
theorem A3(x:A)(ix:Nat):DM (mJ x ix):=by
 unfold mJ;cases x<;>simp only<;>first|exact DM.cO|skip
 rename_i vs;cases Nat.blt ix vs.length<;>simp only[dp]<;>first|exact DM.cO|exact DM.val _
theorem Ou(x:A):DM (Ku x):=by
 unfold Ku;cases x<;>simp only<;>first|exact DM.cO|exact DM.val _
theorem Lh(tt:TT)(src dst:TypeId)(x:A):DM (vX tt src dst x):=by
 unfold vX;split<;>first|exact DM.cO|skip
 split<;>first|exact DM.cO|exact DM.val _|(simp only[Kv];exact A2 _ _)
theorem GR(tt:TT)(t:TypeId)(x ix:A):DM (ug tt t x ix):=by
 unfold ug;split<;>first|exact DM.cO|skip
 split<;>first|exact DM.cO|exact DM.and (DM.val _)|skip
 split<;>first|exact DM.cO|exact DM.and (uJ _ _ _ _)
theorem GS(tt:TT)(t:TypeId)(x:A)(f:Nat):DM (uh tt t x f):=by
 unfold uh;split<;>first|exact DM.cO|skip
 split<;>first|exact DM.cO|skip
 split<;>first|exact DM.cO|exact uJ _ _ _ _
theorem yb{x:Option A}{d y:Nat}{F:Nat->(A->Prop)->Prop}(h:∀n,DM (F n)):DM (fun K=>w9 x d y fun n=>F n K):=by
 unfold w9;split
 ·exact h _
 ·split<;>first|exact DM.cO|exact DM.and (h _)
theorem wC(tt:TT)(t:TypeId)(x:A)(lo hi:Option A):DM (um tt t x lo hi):=by
 unfold um;split<;>first|exact DM.cO|skip
 split<;>first|exact DM.cO|exact yb fun _=>yb fun _=>DM.val _|skip
 split<;>first|exact DM.cO|exact yb fun _=>yb fun _=>DM.val _
theorem Ov(tt:TT)(t:TypeId)(op:BinOp)(x y:A):DM (Kt tt t op x y):=by
 unfold Kt;split
 ·split
  ·exact GQ _ _ _ _
  ·split
   ·exact Dn _ _ _ _
   ·exact DM.cO
 ·exact Dp _ _ _
 ·split
  ·split
   ·exact Dq _ _ _ _
   ·exact Dq _ _ _ (fun r=>.sb !r)
   ·exact DM.cO
  ·exact DM.cO
 ·split
  ·split
   ·split<;>first|exact DM.cO|exact DM.val _
   ·exact DM.cO
  ·split
   ·split<;>first|exact DM.cO|exact DM.val _
   ·exact DM.cO
theorem Li:∀(ys:List A) (x:A),DM (KE x ys)
 | [],x=>by
  have:KE x []=fun K=>K x:=by funext K;simp only[KE,dp]
  rw[this];exact DM.val _
 | y::ys,x=>by
  have:KE x (y::ys)=fun K=>VM x y fun v=>KE v ys K:=by funext K;simp only[KE]
  rw[this];unfold VM;cases x<;>cases y<;>simp only<;>first|exact DM.cO|exact Li ys _
theorem Lj:∀(ys:List A) (x:A),DM (KF x ys)
 | [],x=>by
  have:KF x []=fun K=>K x:=by funext K;simp only[KF,dp]
  rw[this];exact DM.val _
 | y::ys,x=>by
  have:KF x (y::ys)=fun K=>VN x y fun v=>KF v ys K:=by funext K;simp only[KF]
  rw[this];unfold VN;cases x<;>cases y<;>simp only<;>first|exact DM.cO|exact Lj ys _
theorem Fi(ti:TI):∀(ps:List (Nat×A)) (cs:List A),DM (fun K=>nV ti ps cs fun cs=>K (.agg cs))
 | [],cs=>by unfold nV;exact DM.val _
 | (i,v)::ps,cs=>by
  unfold nV;split<;>first|exact DM.cO|skip
  split<;>first|exact DM.cO|skip
  simp only[ck];exact Fi ti ps _
theorem GU(tt:TT)(t:TypeId)(ps:List (Nat×A))(m:List aq):DM (fun K=>ql tt t ps m fun v _=>K v):=by
 unfold ql;cases tt.lookup t with
 | none=>exact DM.cO
 | some ti =>
  simp only;split<;>first|exact DM.cO|exact Fi ti _ _
theorem vo(tt:TT)(t:TypeId)(p:A)(f:Nat)(m:List aq):DM (fun K=>gT tt t p f m fun v _=>K v):=by
 unfold gT;cases tt.lookup t with
 | none=>exact DM.cO
 | some ti =>
  simp only;split<;>first|exact DM.cO|skip
  split<;>first|exact DM.cO|skip
  split<;>first|exact DM.cO|(simp only[aO];exact DM.val _)
theorem vr(tt:TT)(t:TypeId)(p ix:A)(m:List aq):DM (fun K=>eG tt t p ix m fun v _=>K v):=by
 unfold eG;cases tt.lookup t with
 | none=>exact DM.cO
 | some ti =>
  simp only;split
  ·split
   ·split
    ·simp only[ck];exact DM.and (DM.val _)
    ·exact DM.cO
   ·split
    ·split
     ·exact DM.and (DM.val _)
     ·exact DM.cO
    ·exact DM.cO
   ·exact DM.cO
  ·split
   ·simp only[aO];exact DM.and (DM.val _)
   ·simp only[aO];exact DM.and (DM.val _)
   ·exact DM.cO
  ·exact DM.cO
structure Oc where
 v:A
 u:List (Nat×aq)
 rd:List Nat
abbrev KV:=A->List (Nat×aq)->List Nat->Prop
def gK(m:List aq):List (Nat×aq)->List aq
 | []=>m
 | (b,x)::l=>(gK m l).set b x
def GV(m:List aq):List (Nat×aq)->(List aq->Prop)->Prop
 | [],K=>K m
 | (b,x)::l,K=>GV m l fun m'=>qk m' b x K
theorem Fj(m:List aq):∀(u:List (Nat×aq)) (K:List aq->Prop),GV m u K=K (gK m u)
 | [],K=>rfl
 | (b,x)::l,K=>by rw[GV,Fj m l,eQ];rfl

/-- The blocks that are read through a value; none: it may not be said. -/
def uK(g:A->Option (List Nat)):List A->Option (List Nat)
 | []=>some []
 | x::xs=>match g x,uK g xs with
  | some l,some r=>some (l++r)
  | _,_=>none
def u5(m:List aq):Nat->A->Option (List Nat)
 | 0,_=>none
 | d+1,x=>match x with
  | .ref b _=>match m.getD b .dead with
   | .box _ cs=>match uK (u5 m d) cs with
    | some l=>some (b::l)
    | none=>none
   | _=>none
  | .oref _ _ _=>none
  | .own b=>match m.getD b .dead with
   | .row _ _ _ _=>some [b]
   | _=>none
  | .omap b=>match m.getD b .dead with
   | .eP _ _ _ _=>some [b]
   | _=>none
  | .agg cs=>uK (u5 m d) cs
  | .tup cs=>uK (u5 m d) cs
  | .fn _ cs=>uK (u5 m d) cs
  | _=>some []
def Fk:A->List Nat
 | .ref b _=>[b]
 | .oref b _ _=>[b]
 | .own b=>[b]
 | .nw b _=>[b]
 | _=>[]
def quiet:Op->Bool
 | .move _=>true
 | .assign _=>true
 | .pick _ _ _=>true
 | .build _ _=>true
 | .load _ _=>true
 | .nilCheck _=>true
 | .binOp _ _ _ _ _=>true
 | .unOp _ _ _=>true
 | .convert _ _ _=>true
 | .makeFunc _ _ _=>true
 | .fieldAddr _ _ _=>true
 | .indexAddr _ _ _=>true
 | .index _ _ _=>true
 | .field _ _ _=>true
 | .extract _ _=>true
 | .slice _ _ _ _ none=>true
 | .call { callee:=.builtin .len,.. }=>true
 | .call { callee:=.builtin .min,.. }=>true
 | .call { callee:=.builtin .max,.. }=>true
 | .call { callee:=.value _,.. }=>true
 | _=>false
def yc(m:List aq)(f:A)(as:List A):Option (List Nat) :=
 match f with
 | .fn _ cap=>uK (u5 m 5) (as++cap)
 | _=>none
def uL(o:Op)(s:List A)(m:List aq):Option (List Nat) :=
 match o with
 | .load _ x=>some (Fk (ev s x))
 | .indexAddr _ x _=>some (Fk (ev s x))
 | .call { callee:=.builtin .len,args,.. }=>match args.toList with
  | [x]=>some (Fk (ev s x))
  | _=>none
 | .call { callee:=.value f,args,.. }=>yc m (ev s f) (args.toList.map (ev s))
 | _=>some []
/-- A place that is kept for a new block. -/
def eK(m:List aq)(aA:Nat)(X:Prop):Prop :=
 match m.getD aA .dead,Nat.blt aA m.length with
 | .dead,true=>X
 | _,_=>False
def gM(P:Program)(G:aG)(tt:TT)(o:Oper)(s:List A)(m:List aq)(K:KV):Prop :=
 match quiet o.op,uL o.op s m with
 | true,some rd=>step P G tt o s m fun v _=>K v [] rd
 | _,_=>False
def yd(tt:TT)(t:TypeId)(aA:Nat)(m:List aq)(K:KV):Prop :=
 match tt.lookup t with
 | some ti=>eK m aA (K (.ref aA 0) [(aA,.box t ti.zero)] [aA])
 | none=>False
def Ow(t:TypeId)(x:A)(aA:Nat)(m:List aq)(K:KV):Prop :=
 match lq x with
 | some cs=>eK m aA (K (.ref aA 0) [(aA,.box t cs)] [aA])
 | none=>False
/-- Of slices: a row of them is a value from the start. -/
def Px:List A->Bool
 | []=>false
 | .sl _ _ _::_=>true
 | _::cs=>Px cs
def pv(tt:TT)(t:TypeId)(len:Nat)(ps:List (Nat×A))(aA:Nat)(m:List aq)(K:KV):Prop :=
 match tt.lookup t with
 | some ti=>match ti.kind,tt.lookup ti.aN,Nat.ble (len*ti.bB) 1000000 with
  | 3,some te,true=>nV ti ps (GL te.zero len) fun cs=>match cs.any (cL 4),Nat.beq cs.length (len*ti.bB) with
   | false,true=>match Px cs with
    | false=>eK m aA (dz ti.aN fun aN=>dz ti.bB fun bB=>K (.own aA) [(aA,.row aN bB len fun i=>iv bB (cs.drop (i*bB)))] [aA])
    | true=>dz ti.bB fun bB=>K (.sl len bB fun i=>iv bB (cs.drop (i*bB))) [] []
   | _,_=>False
  | _,_,_=>False
 | none=>False
def Fm(tt:TT)(t:TypeId)(l k:A)(aA:Nat)(m:List aq)(K:KV):Prop :=
 match tt.lookup t,l,k with
 | some ti,.int _ l,.int _ k=>match ti.kind,tt.lookup ti.aN with
  | 3,some te=>dz ti.eD fun eb=>dz ti.aN fun aN=>dz ti.bB fun bB=>fl te.zero fun z=>(0<=l/\l<=k/\k<=140737488355328/\k*(eb:Int)<=140737488355328)/\eK m aA (K (.own aA) [(aA,.row aN bB l.toNat fun _=>z)] [aA])
  | _,_=>False
 | _,_,_=>False
def Dr(tt:TT)(t:TypeId)(x y:A)(aA:Nat)(m:List aq)(K:KV):Prop :=
 match tt.lookup t with
 | none=>False
 | some ti=>match ti.kind,AM m ti.bB y with
  | 3,some (n2,iU)=>match x with
   | .own b=>match m.getD b .dead with
    | .row ty sz n row=>match Nat.beq sz ti.bB,Nat.beq ty ti.aN with
     | true,true=>dz ti.eD fun eb=>(n+n2<=140737488355328/\(n+n2)*eb<=140737488355328)/\eK m aA (K (.own aA) [(aA,.row ty sz (n+n2) (bM n row iU)),(b,.gone)] (aA::b::Fk y))
     | _,_=>False
    | _=>False
   | _=>False
  | _,_=>False
def wD(tt:TT)(t:TypeId)(b i off:Nat)(ty aN:TypeId)(sz n:Nat)(hole:Option Nat)(len:Nat->Nat)(row:Nat->Nat->List A)(aA:Nat)(m:List aq)(K:KV):Prop :=
 match tt.lookup t with
 | none=>False
 | some ti=>match ti.kind,Nat.beq ti.aN aN,Nat.beq ti.bB sz,hole,off with
  | 3,true,true,none,0=>i<n/\eK m aA (K (.own aA) [(aA,.row aN sz (len i) (row i)),(b,.nest ty aN sz n (some i) len row)] [aA,b])
  | _,_,_,_,_=>False
def wE(P:Program)(G:aG)(tt:TT)(o:Oper)(t:TypeId)(x:A)(aA:Nat)(s:List A)(m:List aq)(K:KV):Prop :=
 match x with
 | .oref b i off=>match m.getD b .dead with
  | .nest ty aN sz n hole len row=>wD tt t b i off ty aN sz n hole len row aA m K
  | _=>gM P G tt o s m K
 | _=>gM P G tt o s m K
def GW(P:Program)(G:aG)(tt:TT)(o:Oper)(t:TypeId)(x i:A)(s:List A)(m:List aq)(K:KV):Prop :=
 match x with
 | .own b=>match m.getD b .dead with
  | .nest _ _ _ n _ _ _=>match tt.lookup t,i with
   | some ti,.int _ ix=>match ti.kind,Nat.beq ti.bB 1 with
    | 3,true=>(0<=ix/\ix<(n:Int))/\K (.oref b ix.toNat 0) [] [b]
    | _,_=>False
   | _,_=>False
  | _=>gM P G tt o s m K
 | _=>gM P G tt o s m K
def GX(tt:TT)(t:TypeId)(b i off:Nat)(y:A)(ty aN:TypeId)(sz n:Nat)(hole:Option Nat)(len:Nat->Nat)(row:Nat->Nat->List A)(m:List aq)(K:KV):Prop :=
 match off,y,tt.lookup t,hole with
 | 0,.own b',some ti,some j=>match Nat.beq ti.size 1,m.getD b' .dead,Nat.beq b b' with
  | true,.row vm sf n' dI,false=>match Nat.beq vm aN,Nat.beq sf sz with
   | true,true=>(i=j/\i<n)/\K .af [(b',.gone),(b,.nest ty aN sz n none (gQ len j n') (gQ row j dI))] [b',b]
   | _,_=>False
  | _,_,_=>False
 | _,_,_,_=>False
def qE(tt:TT)(t:TypeId)(x y:A)(m:List aq)(K:KV):Prop :=
 match tt.lookup t,x with
 | some ti,.ref b off=>match m.getD b .dead with
  | .box ty cs=>LI ti.size cs off y fun db=>K .af [(b,.box ty db)] [b]
  | _=>False
 | some ti,.oref b i off=>match m.getD b .dead with
  | .row ty sz n row=>match cL 4 y with
   | false=>i<n/\fl (row i) fun cs=>LI ti.size cs off y fun db=>K .af [(b,.row ty sz n (gy row i db))] [b]
   | true=>False
  | .nest ty aN sz n hole len row=>GX tt t b i off y ty aN sz n hole len row m K
  | _=>False
 | _,_=>False
def oq:Nat->Nat->List Nat
 | 0,_=>[]
 | n+1,k=>k::oq n (k+1)
def Ox:Nat->List aq->List (Nat×aq)
 | _,[]=>[]
 | k,x::xs=>(k,x)::Ox (k+1) xs
def rE(m:List aq):Nat->List aq->Prop->Prop
 | _,[],X=>X
 | k,_::xs,X=>eK m k (rE m (k+1) xs X)
def uM(P:Program)(G:aG)(f:A)(args:List A)(aA:Nat)(m:List aq)(K:KV):Prop :=
 uD P G f args aA fun r' iY=>rE m aA iY (K r' (Ox aA iY) (oq iY.length aA))
def Yo:A->List Nat
 | .omap b=>[b]
 | _=>[]
def wF(tt:TT)(t:TypeId)(x key:A)(ok:Bool)(m:List aq)(K:KV):Prop:=jI tt t x key ok m fun v=>K v [] (Yo x)
def vt(tt:TT)(t:TypeId)(x key v:A)(m:List aq)(K:KV):Prop :=
 kD tt t fun agg sh _=>match GP agg sh key,x,cL 4 v with
  | some k,.omap b,false=>match m.getD b .dead with
   | .eP jw uF has val=>match qB agg jw,uE sh uF with
    | true,true=>fd 4 v fun v'=>K .af [(b,.eP jw uF (nQ has k true) (qa val k v'))] [b]
    | _,_=>False
   | _=>False
  | _,_,_=>False
def lF(tt:TT)(t:TypeId)(aA:Nat)(m:List aq)(K:KV):Prop :=
 kD tt t fun agg sh _=>eK m aA (K (.omap aA) [(aA,.eP agg sh (fun _=>false) (fun _=>.af))] [aA])
def mS(tt:TT)(t:TypeId)(b:Nat)(hi:Option A)(aA:Nat)(m:List aq)(K:KV):Prop :=
 match tt.lookup t with
 | some ti=>match ti.kind,m.getD b .dead with
  | 3,.row ty sz n row=>w9 hi n n fun h=>eK m aA (K (.own aA) [(aA,.row ty sz h row),(b,.gone)] [aA,b])
  | _,_=>False
 | none=>False
def Va(P:Program)(G:aG)(tt:TT)(o:Oper)(t:TypeId)(x:A)(lo hi:Option A)(aA:Nat)(s:List A)(m:List aq)(K:KV):Prop :=
 match x,lo with
 | .own b,none=>mS tt t b hi aA m K
 | _,_=>gM P G tt o s m K
/-- How many entries a map has that is a value: it must be known. -/
def Fo(tt:TT)(t:TypeId)(x:A)(K:KV):Prop :=
 match x with
 | .mv _ sh has _=>kD tt t fun _ _ _=>∃n:Nat,(∀keys:List (List KC),keys.Nodup->(∀k∈keys,iD sh k/\has k=true)->(∀k,iD sh k->has k=true->k∈keys)->keys.length=n)/\K (.int .i64 (n:Int)) [] []
 | _=>False
def Lk(P:Program)(G:aG)(tt:TT)(o:Oper)(t:TypeId)(x:A)(s:List A)(m:List aq)(K:KV):Prop :=
 match x with
 | .mv g sh has val=>Fo tt t (.mv g sh has val) K
 | _=>gM P G tt o s m K
def rF(P:Program)(G:aG)(tt:TT)(o:Oper)(aA:Nat)(s:List A)(m:List aq)(K:KV):Prop :=
 match o.op with
 | .slice t x lo hi none=>Va P G tt o t (ev s x) (pf s lo) (pf s hi) aA s m K
 | .lookup t x k ok=>wF tt t (ev s x) (ev s k) ok m K
 | .mapUpdate t x k v=>vt tt t (ev s x) (ev s k) (ev s v) m K
 | .insert t x k v=>vt tt t (ev s x) (ev s k) (ev s v) m K
 | .makeMap t none=>lF tt t aA m K
 | .alloc t=>yd tt t aA m K
 | .box t x=>Ow t (ev s x) aA m K
 | .buildSlice t len ps=>pv tt t len (ps.toList.map fun p=>(p.1,ev s p.2)) aA m K
 | .makeSlice t l k=>Fm tt t (ev s l) (ev s k) aA m K
 | .call { callee:=.builtin .append,args,argTypes }=>match args.toList,argTypes.toList with
  | [x,y],[t,t']=>match Nat.beq t' t with
   | true=>Dr tt t (ev s x) (ev s y) aA m K
   | false=>False
  | _,_=>False
 | .call { callee:=.value f,args,.. }=>gM P G tt o s m K\/uM P G (ev s f) (args.toList.map (ev s)) aA m K
 | .call { callee:=.builtin .len,args,argTypes }=>match args.toList,argTypes.toList with
  | [x],[t]=>Lk P G tt o t (ev s x) s m K
  | _,_=>gM P G tt o s m K
 | .load t x=>wE P G tt o t (ev s x) aA s m K
 | .indexAddr t x i=>GW P G tt o t (ev s x) (ev s i) s m K
 | .store t x y=>qE tt t (ev s x) (ev s y) m K
 | _=>gM P G tt o s m K

section
variable {c:Ctx} {s s2:List A} {m m2:List aq} {a:Act} {w w':World} {ids ab:dE} {P:Program} {im bo:Nat->Prop} {tt:TT} {G:aG}
variable {next:Act->World->Prop} {Q:Exit->Act->World->Prop} {o:Oper}

theorem Si(hq:quiet o.op=true){K:KT}:step P G tt o s m K=step P G tt o s m fun v _=>K v m:=by
 unfold step;split<;>first|rfl|exact Wf|exact Vb|exact Oy|exact Oz|exact Wg|skip
 all_goals (rename_i ho;rw[ho] at hq;cases hq)

theorem Ll(f:A)(as:List A):DM (fun K=>nJ P G f as m fun v _=>K v):=by
 unfold nJ;split<;>first|exact DM.cO|skip
 simp only[cK,eI];split
 ·exact DM.ex fun r=>DM.val _
 ·exact DM.ex fun r=>DM.and (DM.val _)
theorem sW(hq:quiet o.op=true):DM (fun K=>step P G tt o s m fun v _=>K v):=by
 unfold step;split<;>first|(split<;>first|exact wC _ _ _ _ _|exact DM.cO;done)|exact Lf _ _ _ _|exact GU _ _ _ _|exact vo _ _ _ _ _|exact vr _ _ _ _ _|exact Ll _ _|exact Lg _ _ _|exact Ov _ _ _ _ _|exact Sh _ _|exact Lh _ _ _ _|exact GR _ _ _ _|exact GS _ _ _ _|exact A3 _ _|exact Ou _|exact wC _ _ _ _ _|exact DM.cO|skip
 ·simp only[dp];exact DM.val _
 ·simp only[dp];exact DM.val _
 ·rename_i ho;rw[ho] at hq;cases hq
 ·rename_i ho;rw[ho] at hq;cases hq
 ·rename_i ho;rw[ho] at hq;cases hq
 ·split<;>first|exact DM.cO|exact DM.val _
 ·split<;>first|exact DM.cO|exact Ot _ _ _ _
 ·split<;>first|exact DM.cO|exact Li _ _
 ·split<;>first|exact DM.cO|exact Lj _ _

/-- What is asked of a continuation is asked of one outcome. -/
def DK(F:KV->Prop):Prop:=∀K,F K->∃r:Oc,K r.v r.u r.rd/\F (fun v u rd=>v=r.v/\u=r.u/\rd=r.rd)
theorem DK.val(v:A)(u:List (Nat×aq))(rd:List Nat):DK (fun K=>K v u rd):=fun _ h=>⟨⟨v,u,rd⟩,h,rfl,rfl,rfl⟩
theorem DK.cO:DK (fun _=>False):=fun _ h=>h.elim
theorem DK.and{p:Prop}{F:KV->Prop}(h:DK F):DK (fun K=>p/\F K):=fun K hk=>by
 obtain⟨r,h1,h2⟩:=h K hk.2;exact⟨r,h1,hk.1,h2⟩
theorem DK.or{F F':KV->Prop}(h:DK F)(h':DK F'):DK (fun K=>F K\/F' K):=fun K hk=>by
 rcases hk with hk|hk
 ·obtain⟨r,h1,h2⟩:=h K hk;exact⟨r,h1,.inl h2⟩
 ·obtain⟨r,h1,h2⟩:=h' K hk;exact⟨r,h1,.inr h2⟩
theorem DK.free{F:KV->Prop}{aA:Nat}(h:DK F):DK (fun K=>eK m aA (F K)):=fun K hk=>by
 unfold eK at hk ⊢;split at hk
 ·exact h K hk
 ·exact hk.elim
theorem DK.rE{F:KV->Prop}(h:DK F):∀(xs:List aq) (aA:Nat),DK (fun K=>rE m aA xs (F K))
 | [],_=>h
 | _::xs,aA=>DK.free (DK.rE h xs (aA+1))
theorem DK.Vc{F:(A->Prop)->Prop}{rd:List Nat}(h:DM F):DK (fun K=>F fun v=>K v [] rd):=fun K hk=>by
 obtain⟨v,h1,h2⟩:=(h _).1 hk;exact⟨⟨v,[],rd⟩,h1,(h _).2 ⟨v,by simp,h2⟩⟩
theorem ye{ti:TI}:∀(ps:List (Nat×A)) (cs:List A) {K:List A->Prop},nV ti ps cs K->∃db,K db/\∀K':List A->Prop,K' db->nV ti ps cs K'
 | [],cs,K,h=>⟨cs,h,fun _ h'=>h'⟩
 | (i,v)::ps,cs,K,h=>by
  simp only[nV] at h ⊢;split at h
  ·rename_i off size vs hp hc;split at h
   ·rename_i e1 e2;rw[ck] at h;obtain⟨db,h1,h2⟩:=ye ps _ h;refine⟨db,h1,fun K' h'=>?_⟩;simp only[e1,e2,ck];exact h2 K' h'
   ·exact h.elim
  ·exact h.elim


theorem gE:DK (gM P G tt o s m):=by
 unfold gM;split
 ·rename_i rd hq hr;exact DK.Vc (sW (P:=P) (G:=G) (tt:=tt) (s:=s) (m:=m) hq)
 ·exact DK.cO
theorem Lm{size:Nat}{cs:List A}{off:Nat}{y:A}{F:List A->KV->Prop}(h:∀db,DK (F db)):DK (fun K=>LI size cs off y fun db=>F db K):=fun K hk=>by
 obtain⟨vs,g1,g2,g3,g4⟩:=lr hk;obtain⟨r,h1,h2⟩:=h _ K g4;refine⟨r,h1,?_⟩;simp only;unfold LI;simp only[g1,g2,ck];have e2:Nat.ble (off+size) cs.length=true:=Nat.ble_eq_true_of_le g3;simp only[e2,Nat.beq_refl];exact h2
theorem Ln{f:A}{as:List A}{aA:Nat}{F:A->List aq->KV->Prop}(h:∀r mo,DK (F r mo)):DK (fun K=>uD P G f as aA fun r mo=>F r mo K):=fun K hk=>by
 unfold uD at hk ⊢;split at hk
 ·rw[cK] at hk;simp only[cK];split at hk
  ·rename_i aU;obtain⟨r,mo,hc,hk⟩:=hk;split at hk
   ·rename_i yR;rw[eI,dQ] at hk;obtain⟨x,h1,h2⟩:=h _ _ K hk;refine⟨x,h1,?_⟩;refine⟨r,mo,hc,?_⟩;simp only[yR,eI,dQ];exact h2
   ·exact hk.elim
  ·exact hk.elim
 ·exact hk.elim
theorem gF{t:TypeId}{F:Bool->List KS->A->Prop}(h:kD tt t F):∃agg sh z,F agg sh z/\∀F':Bool->List KS->A->Prop,F' agg sh z->kD tt t F':=by
 unfold kD at h ⊢;split at h
 ·exact h.elim
 ·rename_i ti jn;split at h
  ·rename_i tk te hk Wb yC;split at h
   ·rename_i ns sh dA Ew;split at h
    ·rename_i xi hlen;simp only[Pw] at h ⊢;split at h
     ·rename_i ha;rw[ck] at h;refine⟨_,_,_,h,fun F' h'=>?_⟩;simp only[hk,Wb,yC,dA,Ew,xi,hlen,ha,ck];exact h'
     ·rename_i ha;split at h
      ·rename_i z hz;rw[dp] at h;refine⟨_,_,_,h,fun F' h'=>?_⟩;simp only[hk,Wb,yC,dA,Ew,xi,hlen,ha,hz,dp];exact h'
      ·exact h.elim
    ·exact h.elim
   ·exact h.elim
  ·exact h.elim
theorem uN(t:TypeId)(x key:A)(ok:Bool):DM (jI tt t x key ok m):=by
 have hl:∀z k has val,DM (AV z k ok has val):=by
  intro z k has val;unfold AV;cases ok<;>simp only[eI]<;>exact DM.two (DM.val _) (DM.val _)
 have hg:∀agg sh z k jw uF has val,DM (wh agg sh z k ok jw uF has val):=by
  intro agg sh z k jw uF has val;unfold wh;split<;>first|exact hl _ _ _ _|exact DM.cO
 intro K;constructor
 ·intro h;unfold jI at h;obtain⟨agg,sh,z,h1,h2⟩:=gF h;split at h1
  ·exact h1.elim
  ·rename_i k hk;split at h1
   ·obtain⟨v,g1,g2⟩:=(hg _ _ _ _ _ _ _ _ K).1 h1;exact⟨v,g1,by unfold jI;refine h2 _ ?_;rw[hk];exact g2⟩
   ·rename_i b;split at h1
    ·rename_i hb;obtain⟨v,g1,g2⟩:=(hg _ _ _ _ _ _ _ _ K).1 h1;exact⟨v,g1,by unfold jI;refine h2 _ ?_;simp only[hk,hb];exact g2⟩
    ·exact h1.elim
   ·cases ok
    ·exact⟨_,h1,by unfold jI;refine h2 _ ?_;rw[hk]⟩
    ·exact⟨_,h1,by unfold jI;refine h2 _ ?_;rw[hk]⟩
   ·exact h1.elim
 ·rintro⟨v,g1,h⟩;unfold jI at h ⊢;obtain⟨agg,sh,z,h1,h2⟩:=gF h;refine h2 _ ?_;split at h1
  ·exact h1.elim
  ·rename_i k hk;split at h1
   ·exact(hg _ _ _ _ _ _ _ _ K).2 ⟨v,g1,h1⟩
   ·rename_i b;split at h1
    ·rename_i hb;exact(hg _ _ _ _ _ _ _ _ K).2 ⟨v,g1,h1⟩
    ·exact h1.elim
   ·cases ok
    ·simp only at h1 ⊢;rw[h1];exact g1
    ·simp only at h1 ⊢;rw[h1];exact g1
   ·exact h1.elim
theorem Fq{t:TypeId}{x key v:A}:DK (vt tt t x key v m):=fun K h=>by
 unfold vt at h;obtain⟨agg,sh,z,h1,h2⟩:=gF h;split at h1
 ·rename_i k b hk aU;split at h1
  ·rename_i hb;split at h1
   ·rename_i g1 g2;rw[eI] at h1;refine⟨⟨_,_,_⟩,h1,?_⟩;unfold vt;refine h2 _ ?_;simp only[hk,aU,hb,g1,g2,eI];exact⟨trivial,trivial,trivial⟩
   ·exact h1.elim
  ·exact h1.elim
 ·exact h1.elim
theorem GY{t:TypeId}{aA:Nat}:DK (lF tt t aA m):=fun K h=>by
 unfold lF at h;obtain⟨agg,sh,z,h1,h2⟩:=gF h;obtain⟨r,h3,h4⟩:=DK.free (DK.val _ _ _) _ h1;exact⟨r,h3,by unfold lF;exact h2 _ h4⟩
theorem Lo{x:Option A}{d y:Nat}{F:Nat->Prop}(h:w9 x d y F):∃n,F n/\∀F':Nat->Prop,F' n->w9 x d y F':=by
 unfold w9 at h ⊢;split at h
 ·exact⟨_,h,fun _ h'=>h'⟩
 ·split at h
  ·exact⟨_,h.2,fun _ h'=>⟨h.1,h'⟩⟩
  ·exact h.elim
theorem GZ{t:TypeId}{b:Nat}{hi:Option A}{aA:Nat}:DK (mS tt t b hi aA m):=fun K h=>by
 unfold mS at h ⊢;split at h
 ·split at h
  ·rename_i hk hb;obtain⟨n,h1,h2⟩:=Lo h;obtain⟨r,h3,h4⟩:=DK.free (DK.val _ _ _) _ h1;refine⟨r,h3,?_⟩;simp only[hk,hb];exact h2 _ h4
  ·exact h.elim
 ·exact h.elim
theorem Sj{t:TypeId}{x:A}{lo hi:Option A}{aA:Nat}:DK (Va P G tt o t x lo hi aA s m):=by
 unfold Va;split
 ·exact GZ
 ·exact gE
theorem OA{t:TypeId}{x:A}:DK (Lk P G tt o t x s m):=by
 unfold Lk;split
 ·intro K h;unfold Fo at h;obtain⟨agg,sh,z,⟨n,h1,h2⟩,h3⟩:=gF h;refine⟨⟨.int .i64 (n:Int),[],[]⟩,h2,?_⟩;unfold Fo;exact h3 _ ⟨n,h1,rfl,rfl,rfl⟩
 ·exact gE
theorem Lp{aA:Nat}:DK (rF P G tt o aA s m):=by
 unfold rF;split
 ·exact Sj
 ·exact DK.Vc (uN _ _ _ _)
 ·exact Fq
 ·exact Fq
 ·exact GY
 ·unfold yd;split
  ·exact DK.free (DK.val _ _ _)
  ·exact DK.cO
 ·unfold Ow;split
  ·exact DK.free (DK.val _ _ _)
  ·exact DK.cO
 ·unfold pv;split
  ·split
   ·intro K hk;obtain⟨cs,h1,h2⟩:=ye _ _ hk;split at h1
    ·rename_i aU hlen;split at h1
     ·rename_i Bp;simp only[aO] at h1;obtain⟨r,h3,h4⟩:=DK.free (DK.val _ _ _) _ h1;refine⟨r,h3,h2 _ ?_⟩;simp only[aU,hlen,Bp,aO];exact h4
     ·rename_i Bp;simp only[aO] at h1;obtain⟨r,h3,h4⟩:=DK.val _ _ _ _ h1;refine⟨r,h3,h2 _ ?_⟩;simp only[aU,hlen,Bp,aO];exact h4
    ·exact h1.elim
   ·exact DK.cO
  ·exact DK.cO
 ·unfold Fm;split
  ·split
   ·simp only[aO,ck];exact DK.and (DK.free (DK.val _ _ _))
   ·exact DK.cO
  ·exact DK.cO
 ·split
  ·split
   ·unfold Dr;split
    ·exact DK.cO
    ·split
     ·split
      ·split
       ·split
        ·simp only[aO];exact DK.and (DK.free (DK.val _ _ _))
        ·exact DK.cO
       ·exact DK.cO
      ·exact DK.cO
     ·exact DK.cO
   ·exact DK.cO
  ·exact DK.cO
 ·exact DK.or gE (Ln fun r mo=>DK.rE (DK.val _ _ _) _ _)
 ·split
  ·exact OA
  ·exact gE
 ·unfold wE;split
  ·split
   ·unfold wD;split
    ·exact DK.cO
    ·split
     ·exact DK.and (DK.free (DK.val _ _ _))
     ·exact DK.cO
   ·exact gE
  ·exact gE
 ·unfold GW;split
  ·split
   ·split
    ·split
     ·exact DK.and (DK.val _ _ _)
     ·exact DK.cO
    ·exact DK.cO
   ·exact gE
  ·exact gE
 ·unfold qE;split
  ·split
   ·exact Lm fun _=>DK.val _ _ _
   ·exact DK.cO
  ·split
   ·split
    ·simp only[ck];exact DK.and (Lm fun _=>DK.val _ _ _)
    ·exact DK.cO
   ·unfold GX;split
    ·split
     ·split
      ·exact DK.and (DK.val _ _ _)
      ·exact DK.cO
     ·exact DK.cO
    ·exact DK.cO
   ·exact DK.cO
  ·exact DK.cO
 ·exact gE

/-- What an operation comes to. -/
def Out(P:Program)(G:aG)(tt:TT)(o:Oper)(aA:Nat)(s:List A)(m:List aq)(r:Oc):Prop :=
 rF P G tt o aA s m fun v u rd=>v=r.v/\u=r.u/\rd=r.rd

theorem G0{aA:Nat}{K:KV}(h:rF P G tt o aA s m K):∃r:Oc,Out P G tt o aA s m r/\K r.v r.u r.rd:=by
 obtain⟨r,h1,h2⟩:=Lp K h;exact⟨r,h2,h1⟩
end
section
variable {c:Ctx} {s s2:List A} {m m2:List aq} {a:Act} {w w':World} {ids ab:dE} {P:Program} {im bo:Nat->Prop} {tt:TT} {G:aG}
variable {next:Act->World->Prop} {Q:Exit->Act->World->Prop} {o:Oper} {K:A->Prop}

def Agree(m m2:List aq)(rs:List Nat):Prop:=∀b∈rs,m.getD b .dead=m2.getD b .dead

theorem lG{g g2:A->Option (List Nat)}{h h2:A->A}:∀(xs:List A) (rs:List Nat),(∀x∈xs,∀l,g x=some l->(∀b∈l,b∈rs)->g2 x=some l/\h x=h2 x) ->
  ∀l,uK g xs=some l->(∀b∈l,b∈rs)->uK g2 xs=some l/\xs.map h=xs.map h2
 | [],_,_,l,hl,_=>⟨hl,rfl⟩
 | x::xs,rs,hx,l,hl,hb=>by
  unfold uK at hl ⊢;split at hl
  ·rename_i l1 l2 e1 e2;cases hl;obtain⟨a1,a2⟩:=hx x (by simp) l1 e1 (fun b h=>hb b (by simp[h]));obtain⟨b1,b2⟩:=lG xs rs (fun y hy=>hx y (by simp[hy])) l2 e2 (fun b h=>hb b (by simp[h]));simp[a1,b1,a2,b2]
  ·cases hl
theorem wG{rs:List Nat}(hm:Agree m m2 rs):∀(d:Nat) (x:A) (l:List Nat),u5 m d x=some l->(∀b∈l,b∈rs)->u5 m2 d x=some l/\wk m d x=wk m2 d x
 | 0,_,_,h,_=>by cases h
 | d+1,x,l,h,hb=>by
  have ih:=fun x l h hb=>wG hm d x l h hb
  have lists:∀cs:List A,uK (u5 m d) cs=some l->uK (u5 m2 d) cs=some l/\cs.map (wk m d)=cs.map (wk m2 d) :=
   fun cs h=>lG cs rs (fun x _ l h hb=>ih x l h hb) l h hb
  cases x
  case ref b off =>
   simp only[u5,wk] at h ⊢;split at h
   ·rename_i ty cs K0;split at h
    ·rename_i l' NN;cases h;have e:m2.getD b .dead=.box ty cs:=by rw[<-hm b (hb b (by simp))];exact K0
     obtain⟨g1,g2⟩:=lG cs rs (fun x _ l h hb=>ih x l h hb) l' NN (fun b h=>hb b (by simp[h]));rw[K0,e];simp[g1,g2]
    ·cases h
   ·cases h
  case agg cs=>obtain⟨g1,g2⟩:=lists cs h;exact⟨g1,by simp only[wk,g2]⟩
  case tup cs=>obtain⟨g1,g2⟩:=lists cs h;exact⟨g1,by simp only[wk,g2]⟩
  case fn f cs=>obtain⟨g1,g2⟩:=lists cs h;exact⟨g1,by simp only[wk,g2]⟩
  case oref=>cases h
  case own b =>
   simp only[u5,wk] at h ⊢;split at h
   ·rename_i ty sz n row K0;cases h;have e:m2.getD b .dead=.row ty sz n row:=by rw[<-hm b (hb b (by simp))];exact K0
    rw[K0,e];exact⟨rfl,rfl⟩
   ·cases h
  case omap b =>
   simp only[u5,wk] at h ⊢;split at h
   ·rename_i g n key val K0;cases h;have e:m2.getD b .dead=.eP g n key val:=by rw[<-hm b (hb b (by simp))];exact K0
    rw[K0,e];exact⟨rfl,rfl⟩
   ·cases h
  all_goals exact⟨h,rfl⟩

theorem A4{t:TypeId}{p:A}(hm:Agree m m2 (Fk p)):(lM tt t p m fun v _=>K v)=(lM tt t p m2 fun v _=>K v):=by
 unfold lM;cases tt.lookup t with
 | none=>rfl
 | some ti=>cases p<;>simp only<;>first|rfl|(rw[hm _ (by simp[Fk])])
theorem qF{t:TypeId}{p i:A}(hm:Agree m m2 (Fk p)):(eG tt t p i m fun v _=>K v)=(eG tt t p i m2 fun v _=>K v):=by
 unfold eG;cases tt.lookup t with
 | none=>rfl
 | some ti =>
  simp only;split
  ·cases p<;>simp only<;>first|rfl|(rw[hm _ (by simp[Fk])])
  ·rfl
  ·rfl
theorem Ds{t:TypeId}{p:A}(hm:Agree m m2 (Fk p)):AA tt t p m K=AA tt t p m2 K:=by
 unfold AA;cases tt.lookup t with
 | none=>rfl
 | some ti =>
  simp only;split
  ·rfl
  ·rw[hm _ (by simp[Fk])]
  ·rfl
  ·rfl
  ·rfl
theorem A5{f:A}{as:List A}{rs:List Nat}(hr:yc m f as=some rs)(hm:Agree m m2 rs):
  (nJ P G f as m fun v _=>K v)=(nJ P G f as m2 fun v _=>K v)/\yc m2 f as=some rs:=by
 unfold yc at hr ⊢;cases f<;>simp only at hr<;>first|cases hr|skip
 rename_i g cap;obtain⟨g1,g2⟩:=lG (h:=wk m 5) (h2:=wk m2 5) (as++cap) rs (fun x _ l h hb=>wG hm 5 x l h hb) rs hr (fun b h=>h);refine⟨?_,g1⟩;unfold nJ;simp only[cK];rw[g2]

theorem Dt(hq:quiet o.op=true)(he:∀x∈o.op.operands,ev s x=ev s2 x){rd:List Nat}(hr:uL o.op s m=some rd)(hm:Agree m m2 rd):
  (step P G tt o s m fun v _=>K v)=(step P G tt o s2 m2 fun v _=>K v)/\uL o.op s2 m2=some rd:=by
 unfold step
 have OB:∀xs:Array Operand,(∀x∈xs,ev s x=ev s2 x)->xs.toList.map (ev s)=xs.toList.map (ev s2):=by
  intro xs h;exact List.map_congr_left fun x hx=>h x (by simpa using hx)
 cases VL:o.op<;>rw[VL] at hq he hr<;>first|(exfalso;simp[quiet] at hq;done)|(dsimp only)|skip
 case move x=>simp only[Op.operands] at he;rw[he x (by simp)];exact⟨rfl,hr⟩
 case assign x=>simp only[Op.operands] at he;rw[he x (by simp)];exact⟨rfl,hr⟩
 case pick x y z=>simp only[Op.operands] at he;rw[he x (by simp),he y (by simp),he z (by simp)];exact⟨rfl,hr⟩
 case build t ps =>
  simp only[Op.operands] at he;have:(ps.toList.map fun p=>(p.1,ev s p.2))=ps.toList.map fun p=>(p.1,ev s2 p.2):=List.map_congr_left fun p hp=>by rw[he p.2 (by simp;exact⟨p.1,by simpa using hp⟩)]
  simp only[this];refine⟨?_,hr⟩;unfold ql;split<;>rfl
 case load t x =>
  simp only[Op.operands] at he;have e:=he x (by simp);simp only[uL,Option.some.injEq] at hr ⊢;subst hr;rw[<-e];exact⟨A4 hm,rfl⟩
 case nilCheck x=>simp only[Op.operands] at he;rw[he x (by simp)];exact⟨rfl,hr⟩
 case binOp op t x y t'=>simp only[Op.operands] at he;rw[he x (by simp),he y (by simp)];exact⟨rfl,hr⟩
 case unOp op t x=>simp only[Op.operands] at he;rw[he x (by simp)];exact⟨rfl,hr⟩
 case convert t t' x=>simp only[Op.operands] at he;rw[he x (by simp)];exact⟨rfl,hr⟩
 case makeFunc fn first cap =>
  simp only[Op.operands] at he;have:=OB cap (fun x hx=>he x (by simp[hx]));cases fn<;>simp only<;>first|exact⟨trivial,hr⟩|(rw[this];exact⟨rfl,hr⟩)
 case fieldAddr t x f =>
  simp only[Op.operands] at he;rw[he x (by simp)];refine⟨?_,hr⟩;unfold gT;split<;>rfl
 case indexAddr t x i =>
  simp only[Op.operands] at he;have e:=he x (by simp);simp only[uL,Option.some.injEq] at hr ⊢;subst hr;rw[<-e,<-he i (by simp)];exact⟨qF hm,rfl⟩
 case index t x i=>simp only[Op.operands] at he;rw[he x (by simp),he i (by simp)];exact⟨rfl,hr⟩
 case field t x f=>simp only[Op.operands] at he;rw[he x (by simp)];exact⟨rfl,hr⟩
 case extract x i=>simp only[Op.operands] at he;rw[he x (by simp)];exact⟨rfl,hr⟩
 case slice t x lo hi mx =>
  cases mx with
  | some _=>simp[quiet] at hq
  | none =>
   simp only[Op.operands] at he;have e0:=he x (by simp)
   have e1:pf s lo=pf s2 lo:=by
    cases lo with
    | none=>rfl
    | some y=>simp only[pf];rw[he y (by simp)]
   have e2:pf s hi=pf s2 hi:=by
    cases hi with
    | none=>rfl
    | some y=>simp only[pf];rw[he y (by simp)]
   rw[e0,e1,e2];exact⟨rfl,hr⟩
 case call cl =>
  obtain⟨callee,args,ts⟩:=cl;simp only[Op.operands,Call.operands] at he;cases callee with
  | invoke r n=>simp[quiet] at hq
  | value f =>
   have e1:=he f (by simp);have e2:=OB args (fun x hx=>he x (by simp[hx]));simp only[uL] at hr ⊢;rw[<-e1,<-e2];exact A5 hr hm
  | builtin b =>
   have e2:∀x∈args,ev s x=ev s2 x:=fun x hx=>he x (by simp[hx]);cases b<;>first|(exfalso;simp[quiet] at hq;done)|(dsimp only)|skip
   case len =>
    simp only[uL] at hr ⊢;split at hr
    ·rename_i x hx
     have e := e2 x (by have : x ∈ args.toList := by rw [hx]; simp
                        simpa using this)
     cases hr;rw[hx];cases Sf:ts.toList with
     | nil=>exact⟨rfl,by rw[<-e]⟩
     | cons t1 tl =>
      cases tl with
      | nil=>dsimp only;rw[<-e];exact⟨Ds hm,rfl⟩
      | cons=>exact⟨rfl,by rw[<-e]⟩
    ·cases hr
   case min =>
    cases hx:args.toList with
    | nil=>exact⟨rfl,hr⟩
    | cons x xs =>
     have h1:=OB args e2;rw[hx] at h1;simp only[List.map_cons,List.cons.injEq] at h1
     dsimp only;rw[h1.1,h1.2];exact⟨rfl,hr⟩
   case max =>
    cases hx:args.toList with
    | nil=>exact⟨rfl,hr⟩
    | cons x xs =>
     have h1:=OB args e2;rw[hx] at h1;simp only[List.map_cons,List.cons.injEq] at h1
     dsimp only;rw[h1.1,h1.2];exact⟨rfl,hr⟩
end
section
variable {c:Ctx} {s s2:List A} {m m2:List aq} {a:Act} {w w':World} {ids ab:dE} {P:Program} {im bo:Nat->Prop} {tt:TT} {G:aG}
variable {next:Act->World->Prop} {Q:Exit->Act->World->Prop} {o:Oper}

theorem dc{aA:Nat}{X:Prop}(h:eK m aA X):X/\m.getD aA .dead=.dead/\Nat.blt aA m.length=true:=by
 unfold eK at h;split at h
 ·rename_i h1 h2;exact⟨h,h1,h2⟩
 ·exact h.elim
theorem jr{aA:Nat}{X:Prop}(h1:m.getD aA .dead=.dead)(h2:Nat.blt aA m.length=true)(h:X):eK m aA X:=by
 unfold eK;rw[h1,h2];exact h
theorem ij{aA:Nat}(h1:m.getD aA .dead=.dead)(h2:Nat.blt aA m.length=true):m[aA]?=some .dead:=by
 have hl:aA<m.length:=Nat.le_of_ble_eq_true h2;rw[List.getElem?_eq_getElem hl];simpa[List.getD_eq_getElem?_getD,hl] using h1
def LK(m m2:List aq)(F F2:KV->Prop):Prop:=∀r:Oc,(F fun v u rd=>v=r.v/\u=r.u/\rd=r.rd)->Agree m m2 r.rd->F2 fun v u rd=>v=r.v/\u=r.u/\rd=r.rd
theorem LK.A6{aA:Nat}(hlen:m.length=m2.length)(v:A)(u:List (Nat×aq))(rd:List Nat)(qu:aA∈rd):LK m m2 (fun K=>eK m aA (K v u rd)) (fun K=>eK m2 aA (K v u rd)):=by
 intro r h hm;obtain⟨h1,h2,h3⟩:=dc h;exact jr (by rw[<-hm aA (by rw[<-h1.2.2];exact qu)];exact h2) (by rw[<-hlen];exact h3) h1
theorem Du{bB:Nat}{y:A}(hm:Agree m m2 (Fk y)):AM m bB y=AM m2 bB y:=by
 unfold AM;cases y<;>simp only<;>rw[hm _ (by simp[Fk])]
theorem de(he:∀x∈o.op.operands,ev s x=ev s2 x):LK m m2 (gM P G tt o s m) (gM P G tt o s2 m2):=by
 intro r h hm;unfold gM at h ⊢;split at h
 ·rename_i Sk hq hr;obtain⟨v,h1,h2⟩:=(sW (P:=P) (G:=G) (tt:=tt) (s:=s) (m:=m) hq _).1 h;have Hr:_=r.rd:=h1.2.2;rw[<-Hr] at hm;obtain⟨g1,g2⟩:=Dt (P:=P) (G:=G) (tt:=tt) (K:=fun v=>v=r.v/\[]=r.u/\Sk=r.rd) hq he hr hm;simp only[hq,g2];rw[<-g1];exact h
 ·exact h.elim
theorem Dv{t:TypeId}{x y:A}{aA:Nat}(hlen:m.length=m2.length):LK m m2 (Dr tt t x y aA m) (Dr tt t x y aA m2):=by
 intro r h hm;unfold Dr at h ⊢;split at h
 ·exact h.elim
 ·rename_i ti jn;split at h
  ·rename_i n2 iU hk hv;split at h
   ·rename_i b;split at h
    ·rename_i ty sz n row hb;split at h
     ·rename_i mU kM;simp only[aO] at h;obtain⟨hc,h⟩:=h;obtain⟨hX,h2,h3⟩:=dc h;have Hr:=hX.2.2;have e1:m2.getD b .dead=.row ty sz n row:=by rw[<-hm b (by rw[<-Hr];simp)];exact hb
      have e2:m2.getD aA .dead=.dead:=by rw[<-hm aA (by rw[<-Hr];simp)];exact h2
      have e3:AM m2 ti.bB y=some (n2,iU):=by rw[<-Du (fun b hb=>hm b (by rw[<-Hr];simp[hb]))];exact hv
      simp only[hk,e3,e1,mU,kM,aO];exact⟨hc,jr e2 (by rw[<-hlen];exact h3) hX⟩
     ·exact h.elim
    ·exact h.elim
   ·exact h.elim
  ·exact h.elim
theorem A7{t:TypeId}{x:A}{aA:Nat}(he:∀x∈o.op.operands,ev s x=ev s2 x)(hx:∀b i off,x=.oref b i off->∀rd,uL o.op s m=some rd->b∈rd)(hlen:m.length=m2.length):
  LK m m2 (wE P G tt o t x aA s m) (wE P G tt o t x aA s2 m2):=by
 intro r h hm;unfold wE at h ⊢;split at h
 ·rename_i b i off;split at h
  ·rename_i ty aN sz n hole len row hb;unfold wD at h;split at h
   ·exact h.elim
   ·rename_i ti jn;split at h
    ·rename_i hk h1 h2;obtain⟨hi,h⟩:=h;obtain⟨hX,h3,h4⟩:=dc h;have Hr:=hX.2.2;have e1:m2.getD b .dead=.nest ty aN sz n none len row:=by rw[<-hm b (by rw[<-Hr];simp)];exact hb
     have e2:m2.getD aA .dead=.dead:=by rw[<-hm aA (by rw[<-Hr];simp)];exact h3
     simp only[e1];unfold wD;simp only[jn,hk,h1,h2];exact⟨hi,jr e2 (by rw[<-hlen];exact h4) hX⟩
    ·exact h.elim
  ·rename_i hne;have hq:=h;unfold gM at hq;split at hq
   ·rename_i Sk Yp To;obtain⟨v,h1,_⟩:=(sW (P:=P) (G:=G) (tt:=tt) (s:=s) (m:=m) Yp _).1 hq;have hb:b∈r.rd:=by rw[<-h1.2.2];exact hx b i off rfl Sk To
    have e1:=hm b hb;have:=de (P:=P) (G:=G) (tt:=tt) he r h hm;rw[<-e1];split
    ·rename_i hh;exact absurd hh (hne _ _ _ _ _ _ _)
    ·exact this
   ·exact hq.elim
 ·exact de he r h hm
theorem Dw{t:TypeId}{x i:A}(he:∀x∈o.op.operands,ev s x=ev s2 x)(hx:∀b,x=.own b->∀rd,uL o.op s m=some rd->b∈rd):
  LK m m2 (GW P G tt o t x i s m) (GW P G tt o t x i s2 m2):=by
 intro r h hm;unfold GW at h ⊢;split at h
 ·rename_i b;split at h
  ·rename_i ty aN sz n hole len row hb;split at h
   ·rename_i ti kk ix jn;split at h
    ·rename_i hk h1;have e1:m2.getD b .dead=.nest ty aN sz n hole len row:=by rw[<-hm b (by rw[<-h.2.2.2];simp)];exact hb
     simp only[e1];exact h
    ·exact h.elim
   ·exact h.elim
  ·rename_i hne;have hq:=h;unfold gM at hq;split at hq
   ·rename_i Sk Yp To;obtain⟨v,h1,_⟩:=(sW (P:=P) (G:=G) (tt:=tt) (s:=s) (m:=m) Yp _).1 hq;have hb:b∈r.rd:=by rw[<-h1.2.2];exact hx b rfl Sk To
    have e1:=hm b hb;have:=de (P:=P) (G:=G) (tt:=tt) he r h hm;rw[<-e1];split
    ·rename_i hh;exact absurd hh (hne _ _ _ _ _ _ _)
    ·exact this
   ·exact hq.elim
 ·exact de he r h hm
theorem yf{t:TypeId}{x y:A}:LK m m2 (qE tt t x y m) (qE tt t x y m2):=by
 intro r h hm;unfold qE at h ⊢;split at h
 ·rename_i ti b off ht;split at h
  ·rename_i ty cs hb;obtain⟨vs,g1,g2,g3,g4⟩:=lr h;have:m2.getD b .dead=.box ty cs:=by rw[<-hm b (by rw[<-g4.2.2];simp)];exact hb
   simp only[this];exact h
  ·exact h.elim
 ·rename_i ti b i off ht;split at h
  ·rename_i ty sz n row hb;split at h
   ·rename_i aU;obtain⟨aD,h⟩:=h;have h':=h;rw[ck] at h';obtain⟨vs,g1,g2,g3,g4⟩:=lr h';have:m2.getD b .dead=.row ty sz n row:=by rw[<-hm b (by rw[<-g4.2.2];simp)];exact hb
    simp only[this];exact⟨aD,h⟩
   ·exact h.elim
  ·rename_i ty aN sz n hole len row hb;unfold GX at h;split at h
   ·rename_i b' ti2 j jn;split at h
    ·rename_i vm sf n' dI h1 gG h2;split at h
     ·rename_i h3 h4;have e1:m2.getD b .dead=.nest ty aN sz n (some j) len row:=by rw[<-hm b (by rw[<-h.2.2.2];simp)];exact hb
      have e2:m2.getD b' .dead=.row vm sf n' dI:=by rw[<-hm b' (by rw[<-h.2.2.2];simp)];exact gG
      simp only[e1];unfold GX;simp only[jn,h1,e2,h2,h3,h4];exact h
     ·exact h.elim
    ·exact h.elim
   ·exact h.elim
  ·exact h.elim
 ·exact h.elim
theorem uO:∀(n k i:Nat),i∈oq n k↔k<=i/\i<k+n
 | 0,k,i=>by simp[oq]
 | n+1,k,i=>by rw[oq,List.mem_cons,uO n (k+1) i];omega
theorem qG:∀(xs:List aq) (aA:Nat) {X:Prop},rE m aA xs X->X/\∀j,j<xs.length->m.getD (aA+j) .dead=.dead/\Nat.blt (aA+j) m.length=true
 | [],_,X,h=>⟨h,fun j hj=>by simp at hj⟩
 | x::xs,aA,X,h=>by
  obtain⟨h1,h2,h3⟩:=dc h;obtain⟨g1,g2⟩:=qG xs (aA+1) h1;refine⟨g1,fun j hj=>?_⟩;cases j with
  | zero=>exact⟨h2,h3⟩
  | succ j=>have:=g2 j (by simpa using hj);rwa [show aA+1+j=aA+(j+1) by omega] at this
theorem rG:∀(xs:List aq) (aA:Nat) {X:Prop},X->(∀j,j<xs.length->m.getD (aA+j) .dead=.dead/\Nat.blt (aA+j) m.length=true)->rE m aA xs X
 | [],_,X,h,_=>h
 | x::xs,aA,X,h,hj=>by
  refine jr (hj 0 (by simp)).1 (hj 0 (by simp)).2 (rG xs (aA+1) h fun j hh=>?_);have:=hj (j+1) (by simpa using hh)
  rwa [show aA+1+j=aA+(j+1) by omega]
theorem yg{f:A}{as:List A}{aA:Nat}(hlen:m.length=m2.length):LK m m2 (uM P G f as aA m) (uM P G f as aA m2):=by
 intro r h hm;unfold uM at h ⊢;unfold uD at h ⊢;split at h
 ·rw[cK] at h;simp only[cK];split at h
  ·rename_i aU;obtain⟨r0,mo,hc,hk⟩:=h;refine⟨r0,mo,hc,?_⟩;split at hk
   ·rename_i yR;simp only[eI,dQ] at hk ⊢;obtain⟨hX,hd⟩:=qG _ _ hk;refine rG _ _ hX fun j hj=>?_;obtain⟨d1,d2⟩:=hd j hj;refine⟨?_,by rw[<-hlen];exact d2⟩;rw[<-hm (aA+j) (by rw[<-hX.2.2,uO];omega)];exact d1
   ·exact hk.elim
  ·exact h.elim
 ·exact h.elim
theorem A8{t:TypeId}{x key:A}{ok:Bool}{K:A->Prop}(hm:Agree m m2 (Yo x)):jI tt t x key ok m K=jI tt t x key ok m2 K:=by
 unfold jI;cases x
 case omap b =>
  have e:=hm b (by simp[Yo])
  dsimp only
  rw[e]
 all_goals rfl
theorem A9{t:TypeId}{x key:A}{ok:Bool}:LK m m2 (wF tt t x key ok m) (wF tt t x key ok m2):=by
 intro r h hm;unfold wF at h ⊢;obtain⟨v,h1,_⟩:=(uN (tt:=tt) (m:=m) t x key ok _).1 h;rw[<-A8 (by rw[h1.2.2];exact hm)];exact h
theorem uP{t:TypeId}{x key v:A}:LK m m2 (vt tt t x key v m) (vt tt t x key v m2):=by
 intro r h hm;unfold vt at h ⊢;obtain⟨agg,sh,z,h1,h2⟩:=gF h;refine h2 _ ?_;split at h1
 ·rename_i k b hk aU;split at h1
  ·rename_i hb;split at h1
   ·rename_i g1 g2;rw[eI] at h1;have e:m2.getD b .dead=_:=(hm b (by rw[<-h1.2.2];simp)).symm.trans hb;simp only[e,g1,g2,eI];exact h1
   ·exact h1.elim
  ·exact h1.elim
 ·exact h1.elim
theorem yh{t:TypeId}{aA:Nat}(hlen:m.length=m2.length):LK m m2 (lF tt t aA m) (lF tt t aA m2):=by
 intro r h hm;unfold lF at h ⊢;obtain⟨agg,sh,z,h1,h2⟩:=gF h;exact h2 _ (LK.A6 hlen _ _ _ (by simp) r h1 hm)
theorem yi{t:TypeId}{b:Nat}{hi:Option A}{aA:Nat}(hlen:m.length=m2.length):LK m m2 (mS tt t b hi aA m) (mS tt t b hi aA m2):=by
 intro r h hm;unfold mS at h ⊢;split at h
 ·split at h
  ·rename_i hk hb;obtain⟨n,h1,h2⟩:=Lo h;obtain⟨hX,h3,h4⟩:=dc h1;have e:m2.getD b .dead=_:=(hm b (by rw[<-hX.2.2];simp)).symm.trans hb;have e2:m2.getD aA .dead=.dead:=by rw[<-hm aA (by rw[<-hX.2.2];simp)];exact h3
   simp only[hk,e];exact h2 _ (jr e2 (by rw[<-hlen];exact h4) hX)
  ·exact h.elim
 ·exact h.elim
/-- What an operation comes to, in another state that agrees on what it looks at. -/
theorem Out.local{aA:Nat}{r:Oc}(h:Out P G tt o aA s m r)(he:∀x∈o.op.operands,ev s x=ev s2 x)(hm:Agree m m2 r.rd)(hlen:m.length=m2.length):Out P G tt o aA s2 m2 r:=by
 unfold Out rF at h ⊢;split at h
 ·rename_i t x lo hi ho;have gL:=he;rw[ho] at gL;simp only[Op.operands] at gL;have e0:=gL x (by simp)
  have e1:pf s lo=pf s2 lo:=by
   cases lo with
   | none=>rfl
   | some y=>simp only[pf];rw[gL y (by simp)]
  have e2:pf s hi=pf s2 hi:=by
   cases hi with
   | none=>rfl
   | some y=>simp only[pf];rw[gL y (by simp)]
  rw[<-e0,<-e1,<-e2];unfold Va at h ⊢;split at h
  ·exact yi hlen r h hm
  ·exact de he r h hm
 ·rename_i t x k ok ho;have he:=he;rw[ho] at he;simp only[Op.operands] at he;rw[<-he x (by simp),<-he k (by simp)];exact A9 r h hm
 ·rename_i t x k v ho;have he:=he;rw[ho] at he;simp only[Op.operands] at he;rw[<-he x (by simp),<-he k (by simp),<-he v (by simp)];exact uP r h hm
 ·rename_i t x k v ho;have he:=he;rw[ho] at he;simp only[Op.operands] at he;rw[<-he x (by simp),<-he k (by simp),<-he v (by simp)];exact uP r h hm
 ·exact yh hlen r h hm
 ·unfold yd at h ⊢;split at h
  ·exact LK.A6 hlen _ _ _ (by simp) r h hm
  ·exact h.elim
 ·rename_i t x ho;have he:=he;rw[ho] at he;simp only[Op.operands] at he;rw[<-he x (by simp)];unfold Ow at h ⊢;split at h
  ·exact LK.A6 hlen _ _ _ (by simp) r h hm
  ·exact h.elim
 ·rename_i t len ps ho;have he:=he;rw[ho] at he;simp only[Op.operands] at he;have Te:(ps.toList.map fun p=>(p.1,ev s p.2))=ps.toList.map fun p=>(p.1,ev s2 p.2):=List.map_congr_left fun p hp=>by rw[he p.2 (by simp;exact⟨p.1,by simpa using hp⟩)]
  rw[<-Te];unfold pv at h ⊢;split at h
  ·split at h
   ·obtain⟨cs,h1,h2⟩:=ye _ _ h;refine h2 _ ?_;split at h1
    ·split at h1
     ·simp only[aO] at h1 ⊢;exact LK.A6 hlen _ _ _ (by simp) r h1 hm
     ·simp only[aO] at h1 ⊢;exact h1
    ·exact h1.elim
   ·exact h.elim
  ·exact h.elim
 ·rename_i t l k ho;have he:=he;rw[ho] at he;simp only[Op.operands] at he;rw[<-he l (by simp),<-he k (by simp)];unfold Fm at h ⊢;split at h
  ·split at h
   ·simp only[aO,ck] at h ⊢;exact⟨h.1,LK.A6 hlen _ _ _ (by simp) r h.2 hm⟩
   ·exact h.elim
  ·exact h.elim
 ·rename_i args ts ho;have he:=he;rw[ho] at he;simp only[Op.operands,Call.operands] at he;split at h
  ·rename_i x y t t' hx ht;have hX:∀z∈args.toList,ev s z=ev s2 z:=fun z hz=>he z (by simp at hz;simp[hz]);rw[<-hX x (by rw[hx];simp),<-hX y (by rw[hx];simp)];split at h
   ·exact Dv hlen r h hm
   ·exact h.elim
  ·exact h.elim
 ·rename_i f args ts ho;have gL:=he;rw[ho] at gL;simp only[Op.operands,Call.operands] at gL;rcases h with h|h
  ·exact .inl (de he r h hm)
  ·right;rw[<-gL f (by simp),<-show args.toList.map (ev s)=args.toList.map (ev s2) from List.map_congr_left fun x hx=>gL x (by simp at hx;simp[hx])];exact yg hlen r h hm
 ·rename_i args ts ho;have gL:=he;rw[ho] at gL;simp only[Op.operands,Call.operands] at gL;split at h
  ·rename_i x t hx ht
   have hX : ev s x = ev s2 x := gL x (by simp; have : x ∈ args.toList := by rw [hx]; simp
                                          simpa using this)
   rw[<-hX];unfold Lk at h ⊢;split at h
   ·exact h
   ·exact de he r h hm
  ·exact de he r h hm
 ·rename_i t x ho;have gL:=he;rw[ho] at gL;simp only[Op.operands] at gL;rw[<-gL x (by simp)];refine A7 he ?_ hlen r h hm;intro b i off e rd hr;rw[ho] at hr;simp only[uL,Option.some.injEq] at hr;subst hr;rw[e];simp[Fk]
 ·rename_i t x i ho;have gL:=he;rw[ho] at gL;simp only[Op.operands] at gL;rw[<-gL x (by simp),<-gL i (by simp)];refine Dw he ?_ r h hm;intro b e rd hr;rw[ho] at hr;simp only[uL,Option.some.injEq] at hr;subst hr;rw[e];simp[Fk]
 ·rename_i t x y ho;have gL:=he;rw[ho] at gL;simp only[Op.operands] at gL;rw[<-gL x (by simp),<-gL y (by simp)];exact yf r h hm
 ·exact de he r h hm

/-- A new block, at a place that was kept for it. -/
theorem aF.Ba(hs:aF c s m a w ids)(b:Nat)(hb:m[b]?=some .dead)(x:aq)(ob:Obj)(kk n sz:Nat)
  (hx:∀ab bo w',(∀b,au c ids w b->bo b)->(∀b,au c ids w b->w'.heap[b]?=w.heap[b]?)->(∀(b:Nat) p,ids[b]?=some p->p≠.dead->ab[b]?=some p) ->
   w'.heap[w.heap.size]?=(w.alloc ob).heap[w.heap.size]?->aX ab bo w' x (.lv (mkId w.heap.size kk n sz))) :
  aF c s (m.set b x) a (w.alloc ob) (ids.set b (.lv (mkId w.heap.size kk n sz))):=by
 have fI:b<m.length:=by
  rcases Nat.lt_or_ge b m.length with h'|h'
  ·exact h'
  ·rw[List.getElem?_eq_none h'] at hb;cases hb
 have eR:b<ids.length:=by rw[hs.aL];exact fI
 have Fb:m[b]=.dead:=by rw[List.getElem?_eq_getElem fI] at hb;exact Option.some.inj hb
 have dO:ids[b]=.dead:=by have:=hs.bC b fI eR;rw[Fb] at this;exact this
 have Sl:=jE w ob
 have bL:(w.alloc ob).heap.size=w.heap.size+1:=by
  show(w.heap.push _).size=_;simp
 have jK:∀p,dT.lv p∈ids.set b (.lv (mkId w.heap.size kk n sz))->dT.lv p∈ids\/p=(mkId w.heap.size kk n sz):=by
  intro p hp;rcases List.mem_or_eq_of_mem_set hp with h|h
  ·exact .inl h
  ·cases h;exact .inr rfl
 have hi:∀b',au c ids w b'->au c (ids.set b (.lv (mkId w.heap.size kk n sz))) (w.alloc ob) b':=by
  intro b' h;have aD:=cB hs h;rcases h with h|⟨h1,h2,h3⟩
  ·exact .inl h
  ·refine .inr ⟨h1,by omega,fun p hp=>?_⟩;rcases jK p hp with h|rfl
   ·exact h3 p h
   ·intro hx;have:=cw hx;omega
 have hh:∀b',au c ids w b'->(w.alloc ob).heap[b']?=w.heap[b']?:=fun b' h=>Sl.block b' (cB hs h)
 have hd:∀(b':Nat) p,ids[b']?=some p->p≠.dead->(ids.set b (.lv (mkId w.heap.size kk n sz)))[b']?=some p:=by
  intro b' p h hp;rw[List.getElem?_set];split
  ·rename_i e;subst e;rw[List.getElem?_eq_getElem eR,dO] at h;exact absurd (Option.some.inj h).symm hp
  ·exact h
 refine⟨hs.defers,hs.len,fun i h h'=>(hs.bI i h h').mono hi hh hd,by simp[hs.aL],?_,?_,?_,hs.frame.trans (Sl.mono hs.frame.size),hs.dZ,fun dK h=>?_⟩
 ·intro i h h';simp only[List.length_set] at h h';rw[List.getElem_set,List.getElem_set];split
  ·exact hx _ _ _ hi hh hd rfl
  ·refine(hs.bC i h h').mono hi hh hd ?_;intro q hq k hk;exact Sl.block _ (hs.ar q (by rw[<-hq];exact List.getElem_mem _) k hk).2
 ·intro i j p q x h1 h2 h3 EW;rw[List.getElem?_set] at h1 h2;split at h1
  ·rename_i e1;split at h2
   ·rename_i e2;omega
   ·cases h1;have:=(hs.ar q (List.mem_of_getElem? h2) x EW).2;have:=cw h3;omega
  ·split at h2
   ·cases h2;have:=(hs.ar p (List.mem_of_getElem? h1) x h3).2;have:=cw EW;omega
   ·exact hs.aj i j p q x h1 h2 h3 EW
 ·intro p hp x hx;rcases jK p hp with h|rfl
  ·have:=hs.ar p h x hx;exact⟨this.1,by omega⟩
  ·rw[cw hx];exact⟨.inl hs.frame.size,by simp[bL]⟩
 ·rcases List.mem_or_eq_of_mem_set h with h|h
  ·exact hs.cE dK h
  ·cases h
theorem aF.OC(hs:aF c s m a w ids)(b:Nat)(hb:m[b]?=some .dead)(x:aq)(vs:Array Value)(ty:TypeId)(n sz:Nat)
  (hx:∀ab bo w',(∀b,au c ids w b->bo b)->(∀b,au c ids w b->w'.heap[b]?=w.heap[b]?)->(∀(b:Nat) p,ids[b]?=some p->p≠.dead->ab[b]?=some p) ->
   w'.heap[w.heap.size]?=some (.cells vs ty (0,0))->aX ab bo w' x (.lv (mkId w.heap.size vs.size n sz))) :
  aF c s (m.set b x) a (w.alloc (.cells vs ty)) (ids.set b (.lv (mkId w.heap.size vs.size n sz))) :=
 hs.Ba b hb x (.cells vs ty) vs.size n sz fun ab bo w' h1 h2 h3 h4=>hx ab bo w' h1 h2 h3 (h4.trans (by
  show(w.heap.push _)[w.heap.size]?=_;simp))

def Fs:Op->Bool
 | .alloc _=>true
 | .box _ _=>true
 | .buildSlice _ _ _=>true
 | .makeSlice _ _ _=>true
 | .call { callee:=.builtin .append,.. }=>true
 | .makeMap _ none=>true
 | _=>false
theorem Bb(m:List aq):∀(xs:List aq) (k:Nat),gK m (Ox k xs)=setAt m k xs
 | [],_=>rfl
 | x::xs,k=>by rw[Ox,gK,Bb m xs (k+1)];rfl

/-- A new block at a kept place. -/
theorem pw(hs:aF c s m a w ids){aA:Nat}(dO:m[aA]?=some .dead)(x:aq)(vs:Array Value)(ty:TypeId)(n sz:Nat){r:A}{v:Value}
  (bW:(execOp a.eval o).run P w=.ok (.value v) (w.alloc (.cells vs ty)))
  (hx:∀ab bo w',(∀b,au c ids w b->bo b)->(∀b,au c ids w b->w'.heap[b]?=w.heap[b]?)->(∀(b:Nat) p,ids[b]?=some p->p≠.dead->ab[b]?=some p) ->
   w'.heap[w.heap.size]?=some (.cells vs ty (0,0))->aX ab bo w' x (.lv (mkId w.heap.size vs.size n sz)))
  (hr:∀ab bo w',ab[aA]?=some (.lv (mkId w.heap.size vs.size n sz))->Rel ab bo w' r v)
  (hn:∀a' w' ab,aF c (bf s o.dst r) (m.set aA x) a' w' ab->next a' w'):o.wp P a w next Q:=by
 have bH:=hs.OC aA dO x vs ty n sz hx;refine aR bW (hn _ _ _ (bH.bf o.dst (hr _ _ _ ?_)));have hl:=(List.getElem?_eq_some_iff.1 dO).1;have:aA<ids.length:=by rw[hs.aL];exact hl
 rw[List.getElem?_set_self this]

theorem Dx(aJ:bp P tt)(hs:aF c s m a w ids){t:TypeId}{X Y:Operand}(ho:o.op=.call { callee:=.builtin .append,args:=#[X,Y],argTypes:=#[t,t] }){aA:Nat}{r:Oc}
  (h:Dr tt t (ev s X) (ev s Y) aA m fun v u rd=>v=r.v/\u=r.u/\rd=r.rd)
  (hn:∀a' w' ab,aF c (bf s o.dst r.v) (gK m r.u) a' w' ab->next a' w'):o.wp P a w next Q:=by
 have hx:=hs.ev X;have hy:=hs.ev Y
 have e:(execOp a.eval o)=(do pure (.value (<-Builtin.append_ #[t,t] o.type #[a.eval X,a.eval Y]))):=by
  obtain⟨dst,op,ty,pos,after,guard⟩:=o;simp only at ho;subst ho;simp[execOp,resolve,invoke,builtin]
 unfold Dr at h;split at h
 ·exact h.elim
 ·rename_i ti jn;obtain⟨i0,d,z0,_,hd,_,_,_,_,_,_,_,_,_,jt,_⟩:=aJ.facts jn;split at h
  ·rename_i n2 iU hk hv;obtain⟨ie,ze,gk,iT,bL,Br,hz,pC,hne⟩:=jt hk;subst gk;obtain⟨news,NS,RC⟩:=uq hs hv hy
   have NT:(a.eval Y=.slice none 0 0/\n2=0/\news=[])\/∃ad cp,a.eval Y=.slice (some ad) n2 cp/\news.length=n2*ie.size/\(∀j u,news[j]?=some u->w.cell? (ad.add j)=some u):=by
    rcases RC with h|⟨ad,cp,h1,h2⟩
    ·exact .inl h
    ·exact .inr ⟨ad,cp,h1,by rw[bL];exact NS.1,h2⟩
   have GK:ze.cells.size=ie.size:=by rw[pC,bL]
   split at h
   ·rename_i b NM;rw[NM] at hx;split at h
    ·rename_i ty sz n row hb;split at h
     ·rename_i mU kM;have mU:=Nat.eq_of_beq_eq_true mU;have kM:=Nat.eq_of_beq_eq_true kM;subst mU;subst kM;simp only[aO] at h;obtain⟨⟨BD,sj⟩,h⟩:=h;obtain⟨⟨r1,r2,_⟩,fM,Bc⟩:=dc h;have dO:=ij fM Bc;obtain⟨aD,hm⟩:=jo hb;have eR:b<ids.length:=by rw[hs.aL];exact aD
      have LN:aA<m.length:=(List.getElem?_eq_some_iff.1 dO).1;have ly:m[b]?≠some .dead:=by rw[List.getElem?_eq_getElem aD,hm];simp
      have yw:aA≠b:=fun e=>by subst e;exact ly dO
      have hB:=hs.bC b aD eR;rw[hm] at hB;have Vd:gK m [(aA,aq.row ti.aN ti.bB (n+n2) (bM n row iU)),(b,.gone)]=(m.set b .gone).set aA (.row ti.aN ti.bB (n+n2) (bM n row iU)):=rfl
      have NP:∃xs,dM (au c ids w) w n ti.bB row xs/\((a.eval X=.slice none 0 0/\n=0/\xs=[])\/∃g cap cur,a.eval X=.slice (some ⟨g,0,none⟩) n cap/\w.heap[g]?=some (.cells cur ti.aN (0,0))/\n<=cap/\cap<=maxLen/\cur.size=cap*ie.size/\cur.toList.take (n*ie.size)=xs) /\
        ((a.eval X).ownBlock=none\/∃p,ids[b]?=some (.lv p)/\(a.eval X).ownBlock=some p.ao):=by
       rcases hs.fL hx (by rw[hb];simp) with⟨h1,h2⟩|⟨p,cap,h1,h2,h3,h4⟩
       ·have:ids[b]=.aQ:=by rw[List.getElem?_eq_getElem eR] at h1;exact Option.some.inj h1
        rw[this] at hB;have hB:n=0:=hB;subst hB;exact⟨[],dM.nil _ _ _ _,.inl ⟨h2,rfl,rfl⟩,.inl (by rw[h2];rfl)⟩
       ·have:ids[b]=.lv p:=by rw[List.getElem?_eq_getElem eR] at h1;exact Option.some.inj h1
        rw[this] at hB;obtain⟨cur,e1,e2,g1,g2,g3,hR⟩:=hB.E2;subst e2;exact⟨_,hR,.inr ⟨p.ao,cap,cur,h4,g1,h2.1,h2.2,by rw[g2,<-h3,e1,bL],by rw[bL]⟩,.inr ⟨p,h1,by rw[h4];rfl⟩⟩
      obtain⟨xs,XP,RI,aU⟩:=NP;obtain⟨v',w',bW,o1,o2,o3,o4,o5,NU,o6⟩:=lA (P:=P) (w:=w) t o.type ti.aN ie ze hd iT hz GK (a.eval X) n xs RI (a.eval Y) n2 news NT NS.2.1 BD (by rw[Br];exact sj);have XS:=XP.cat NS
      have hblk:∀k,k<w.heap.size->(∀p,ids[b]?=some (.lv p)->¬p.has k)->w'.heap[k]?=w.heap[k]?:=by
       intro k hk hp;refine o5 k hk (fun e=>?_);rcases aU with h|⟨p,h1,h2⟩
       ·rw[h] at e;cases e
       ·rw[h2] at e;exact hp p h1 (.inl (Option.some.inj e).symm)
      rcases o6 with⟨rfl,va⟩|⟨g,cap,cur,rfl,q1,q2,q3,q4,q5,q6,q7⟩
      ·have bH:=hs.xT (w':=w') b aA aD ly dO .aQ (.row ti.aN ti.bB (n+n2) (bM n row iU)) o1 o2 o3 o4 hblk (fun _ h=>by cases h) (fun p' h=>by cases h) (fun _=>va) NU
       refine aR (v:=.slice none 0 0) (w':=w') (by rw[e];simp[bW]) (hn _ _ _ (by
        rw[<-r1,<-r2,Vd];refine bH.bf o.dst (.fX aA ?_);rw[List.getElem?_set_self (by simp;rw[hs.aL];exact LN)]))
      ·rw[bL] at q4 q5
       have bH:=hs.xT (w':=w') b aA aD ly dO (.lv (mkId g cur.size (n+n2) ti.bB)) (.row ti.aN ti.bB (n+n2) (bM n row iU)) o1 o2 o3 o4 hblk (fun _ h=>by cases h)
        (fun p' h x hx=>by
         cases h;have:=cw hx;subst this;refine⟨q6,?_⟩;rcases q7 with h|h
         ·exact .inl h
         ·rcases aU with h'|⟨p,h1,h2⟩
          ·rw[h'] at h;cases h
          ·rw[h2] at h;exact .inr ⟨p,h1,.inl (Option.some.inj h).symm⟩)
        (fun hm=>aX.ni q1 q4 q2 q5 (XS.mono hm)) NU
       refine aR (v:=.slice (some ⟨g,0,none⟩) (n+n2) cap) (w':=w') (by rw[e];simp[bW]) (hn _ _ _ (by
        rw[<-r1,<-r2,Vd];refine bH.bf o.dst (.own aA cap (mkId g cur.size (n+n2) ti.bB) ?_ ⟨q2,q3⟩ q4.symm);rw[List.getElem?_set_self (by simp;rw[hs.aL];exact LN)]))
     ·exact h.elim
    ·exact h.elim
   ·exact h.elim
  ·exact h.elim

theorem Bd(aJ:bp P tt)(hs:aF c s m a w ids){t:TypeId}{X:Operand}(ho:o.op=.load t X){b i off:Nat}(hX:ev s X=.oref b i off){ty aN:TypeId}{sz n:Nat}{hole:Option Nat}{len:Nat->Nat}{row:Nat->Nat->List A}
  (hb:m.getD b .dead=.nest ty aN sz n hole len row) {aA:Nat} {r:Oc} (h:wD tt t b i off ty aN sz n hole len row aA m fun v u rd=>v=r.v/\u=r.u/\rd=r.rd)
  (hn:∀a' w' ab,aF c (bf s o.dst r.v) (gK m r.u) a' w' ab->next a' w'):o.wp P a w next Q:=by
 unfold wD at h;split at h
 ·exact h.elim
 ·rename_i ti jn;split at h
  ·rename_i hk yI gL;obtain⟨qu,h⟩:=h;obtain⟨⟨r1,r2,_⟩,fM,Bc⟩:=dc h;have dO:=ij fM Bc;obtain⟨i0,d,z,hi,hd,_,_,_,_,_,Hn,_,_,ot,jt,_⟩:=aJ.facts jn;obtain⟨ie,ze,CZ,iT,nZ,_⟩:=jt hk;subst CZ;obtain⟨p,vs,ab,v,q1,q2,q3,q4,q5,q6⟩:=hs.RX dO hb qu;have hx:=hs.ev X;rw[hX] at hx;obtain⟨p',g1,g2⟩:=hs.ll hx (by rw[hb];simp);rw[q1] at g1;cases g1
   have hc:w.cell? ⟨p.ao,i*p.sz+0,none⟩=some v:=by
    rw[q4,cell_of_row w p.ao _ vs ty (0,0) q2];simpa using q3
   have bW:=iJ (P:=P) (w:=w) hd (by rfl) p.ao (i*p.sz+0) v hc;refine aR (v:=v) (w':=w) ?_ (hn _ _ ab (by rw[<-r1,<-r2];exact q5.bf o.dst q6))
   have e1:execOp a.eval o=(do let z <-loadVar t ⟨p.ao,i*p.sz+0,none⟩;pure (.value z)):=by
    unfold execOp;rw[ho];simp only[g2];rfl
   rw[e1];simp at bW;simp[bW]
  ·exact h.elim

theorem Dy(aJ:bp P tt)(hs:aF c s m a w ids){t:TypeId}{X Y:Operand}(ho:o.op=.store t X Y){b i off:Nat}(hX:ev s X=.oref b i off){ty aN:TypeId}{sz n:Nat}{hole:Option Nat}{len:Nat->Nat}{row:Nat->Nat->List A}
  (hb:m.getD b .dead=.nest ty aN sz n hole len row) {r:Oc} (h:GX tt t b i off (ev s Y) ty aN sz n hole len row m fun v u rd=>v=r.v/\u=r.u/\rd=r.rd)
  (hn:∀a' w' ab,aF c (bf s o.dst r.v) (gK m r.u) a' w' ab->next a' w'):o.wp P a w next Q:=by
 unfold GX at h;split at h
 ·rename_i b' ti j hY jn;split at h
  ·rename_i vm sf n' dI sg gG sN;split at h
   ·rename_i yI gL;have sg:ti.size=1:=Nat.eq_of_beq_eq_true sg;have yI:=Nat.eq_of_beq_eq_true yI;have gL:=Nat.eq_of_beq_eq_true gL;subst yI;subst gL;obtain⟨⟨kK,qu⟩,r1,r2,_⟩:=h;subst kK;have hne:b≠b':=fun e=>by subst e;rw[Nat.beq_refl] at sN;cases sN
    have hx:=hs.ev X;have hy:=hs.ev Y;rw[hX] at hx;rw[hY] at hy;obtain⟨i0,d,z,hi,hd,_,RN,_⟩:=aJ.facts jn;obtain⟨p,vs,ab,q1,q2,q3,q4,q5⟩:=hs.K1 hb gG hne qu hy;obtain⟨p',g1,g2⟩:=hs.ll hx (by rw[hb];simp);rw[q1] at g1;cases g1;obtain⟨o1,o2⟩:=pe (by rfl) hy;have pQ:=gl (P:=P) (w:=w) hi p.ao (i*p.sz+0) ty vs (a.eval Y) [a.eval Y] o2 (by rw[RN,sg];rfl) (by intro u hu;rw[List.mem_singleton.1 hu];exact o1) q2 (by rw[q4];simp;omega);rw[q4] at pQ;simp only[Nat.mul_one,Nat.add_zero] at pQ;rw[AP vs i _ q3] at pQ;refine gS (w':=w.setRow p.ao (vs.setIfInBounds i (a.eval Y))) ?_ (hn _ _ ab (by rw[<-r1,<-r2];exact q5.kv o.dst _))
    have e1:execOp a.eval o=(do storeVar t ⟨p.ao,i*p.sz+0,none⟩ (a.eval Y);pure .skip):=by
     unfold execOp;rw[ho];simp only[g2];rfl
    rw[e1,q4];simp[pQ]
   ·exact h.elim
  ·exact h.elim
 ·exact h.elim

theorem df(aJ:bp P tt)(hG:G.ok c)(hs:aF c s m a w ids){r:Oc}(h:gM P G tt o s m fun v u rd=>v=r.v/\u=r.u/\rd=r.rd)
  (hn:∀a' w' ab,aF c (bf s o.dst r.v) (gK m r.u) a' w' ab->next a' w'):o.wp P a w next Q:=by
 unfold gM at h;split at h
 ·rename_i Sk hq hr;refine n0 (K:=fun v m'=>(v=r.v/\[]=r.u/\Sk=r.rd)/\m'=m) aJ hG hs ?_ ?_
  ·rw[Si hq];simpa using h
  ·rintro v m' a' w' ab ⟨⟨rfl,e2,_⟩,rfl⟩ bH;refine hn a' w' ab ?_;rw[<-e2];exact bH
 ·exact h.elim

theorem yj(aJ:bp P tt)(hs:aF c s m a w ids){t:TypeId}{X:Operand}{hi:Option Operand}{b:Nat}(ho:o.op=.slice t X none hi none)(hX:ev s X=.own b){aA:Nat}{r:Oc}
  (h:mS tt t b (pf s hi) aA m fun v u rd=>v=r.v/\u=r.u/\rd=r.rd)
  (hn:∀a' w' ab,aF c (bf s o.dst r.v) (gK m r.u) a' w' ab->next a' w'):o.wp P a w next Q:=by
 have hx:=hs.ev X;rw[hX] at hx;have e:execOp a.eval o=(do let z <-Instr.sliceAt t (a.eval X) ((none:Option Operand).map a.eval) (hi.map a.eval) none;pure (.value z)):=by unfold execOp;rw[ho];rfl
 unfold mS at h;split at h
 ·rename_i ti jn;obtain⟨i0,d,z0,_,hd,_,_,_,_,_,_,_,_,_,jt,_⟩:=aJ.facts jn;split at h
  ·rename_i ty sz n row hk hb;obtain⟨ie,ze,gk,iT,bL,Br,hz,pC,hne⟩:=jt hk;subst gk
   have v8:P.underlying t=some (.slice (P.elem t)):=by
    have:P.elem t=ti.aN:=by simp[Program.elem,hd]
    rw[this];exact hd
   have GJ:P.elem t=ti.aN:=by simp[Program.elem,hd]
   obtain⟨aD,hm⟩:=jo hb;have eR:b<ids.length:=by rw[hs.aL];exact aD
   have ly:m[b]?≠some .dead:=by rw[List.getElem?_eq_getElem aD,hm];simp
   have hB:=hs.bC b aD eR;rw[hm] at hB;rcases hs.fL hx (by rw[hb];simp) with⟨h1,h2⟩|⟨p,cap,h1,h2,h3,h4⟩
   ·have:ids[b]=.aQ:=by rw[List.getElem?_eq_getElem eR] at h1;exact Option.some.inj h1
    rw[this] at hB;have hB:n=0:=hB;subst hB;obtain⟨gG,h,b1,b2,b3⟩:=fJ hs h (Nat.le_refl _)
    have h0:gG=0:=by
     cases hi with
     | none=>exact b1 rfl
     | some L=>have:=b2 rfl;omega
    subst h0;obtain⟨⟨r1,r2,_⟩,fM,Bc⟩:=dc h;have dO:=ij fM Bc;have LN:aA<m.length:=(List.getElem?_eq_some_iff.1 dO).1;have bH:=hs.xT (w':=w) b aA aD ly dO .aQ (.row ty sz 0 row) rfl rfl rfl (Nat.le_refl _) (fun _ _ _=>rfl) (fun _ h=>by cases h) (fun p' h=>by cases h) (fun _=>rfl)
    refine aR (v:=.slice none 0 0) (w':=w) ?_ (hn _ _ _ (by
     rw[<-r1,<-r2];refine bH.bf o.dst (.fX aA ?_);rw[List.getElem?_set_self (by simp;rw[hs.aL];exact LN)]))
    rw[e,h2,Sem.run_bind,run_sliceAt_slice _ _ _ _ _ _ v8,run_slice_any _ _ _ _ _ v8];have:=dH (P:=P) (w:=w) (a:=a) (LJ:=true) (len:=0) (cap:=0) (lo:=none) b1 (fun _=>rfl) b3 (fun X h=>by cases h);simp only[Option.map_none] at this;simp[this,GJ,sizeOf,typeInfo,iT,bL,sliced]
   ·have:ids[b]=.lv p:=by rw[List.getElem?_eq_getElem eR] at h1;exact Option.some.inj h1
    rw[this] at hB;obtain⟨gG,h,b1,b2,b3⟩:=fJ hs h (show n<=cap by have:=hB.2.1;omega);obtain⟨e1,e2,vs,g1,g2,g3,g4,g5⟩:=hB
    have hle:gG<=n:=by
     cases hi with
     | none=>have:=b1 rfl;omega
     | some L=>exact b2 rfl
    obtain⟨⟨r1,r2,_⟩,fM,Bc⟩:=dc h;have dO:=ij fM Bc;have LN:aA<m.length:=(List.getElem?_eq_some_iff.1 dO).1
    have bH:=hs.xT (w':=w) b aA aD ly dO (.lv (mkId p.ao p.k gG p.sz)) (.row ty sz gG row) rfl rfl rfl (Nat.le_refl _) (fun _ _ _=>rfl) (fun _ h=>by cases h)
     (fun p' h x hx=>by cases h;rw[cw hx];exact⟨(hs.fresh p (List.mem_of_getElem? h1)).2,.inr ⟨p,h1,.inl rfl⟩⟩)
     (fun HT=>⟨e1,rfl,vs,g1,g2,Nat.le_trans (Nat.mul_le_mul_right _ hle) g3,fun i hi=>g4 i (by omega),fun i j hi h h'=>⟨HT _ _ (g5 i j (by omega) h h').1,(g5 i j (by omega) h h').2⟩⟩)
    refine aR (v:=.slice (some ⟨p.ao,0,none⟩) gG cap) (w':=w) ?_ (hn _ _ _ (by
     rw[<-r1,<-r2];refine bH.bf o.dst (.own aA cap (mkId p.ao p.k gG p.sz) ?_ ⟨by show gG<=cap;omega,h2.2⟩ h3);rw[List.getElem?_set_self (by simp;rw[hs.aL];exact LN)]))
    rw[e,h4,Sem.run_bind,run_sliceAt_slice _ _ _ _ _ _ v8,run_slice_any _ _ _ _ _ v8,e2];have:=dH (P:=P) (w:=w) (a:=a) (LJ:=true) (len:=n) (cap:=cap) (lo:=none) b1 (fun _=>rfl) b3 (fun X h=>by cases h);simp only[Option.map_none] at this;have e3:(⟨p.ao,0,none⟩:Addr).add 0=⟨p.ao,0,none⟩:=rfl;simp[this,GJ,sizeOf,typeInfo,iT,bL,sliced,e3]
  ·exact h.elim
 ·exact h.elim
theorem Be(aJ:bp P tt)(hs:aF c s m a w ids){t:TypeId}{X Y:Operand}{ok:Bool}(ho:o.op=.lookup t X Y ok){r:Oc}(h:wF tt t (ev s X) (ev s Y) ok m fun v u rd=>v=r.v/\u=r.u/\rd=r.rd)
  (hn:∀a' w' ab,aF c (bf s o.dst r.v) (gK m r.u) a' w' ab->next a' w'):o.wp P a w next Q:=by
 unfold wF at h;obtain⟨v,⟨rfl,e2,_⟩,h1⟩:=(uN (tt:=tt) (m:=m) t _ _ ok _).1 h;refine rA (K:=fun v' m'=>v'=r.v/\m'=m) aJ hs ho ?_ ?_
 ·simpa using h1
 ·rintro v' m' a' w' ab ⟨rfl,rfl⟩ bH;refine hn a' w' ab ?_;rw[<-e2];exact bH
theorem uQ(aJ:bp P tt)(hs:aF c s m a w ids){t:TypeId}{X Y Z:Operand}(ho:o.op=.mapUpdate t X Y Z\/o.op=.insert t X Y Z){r:Oc}(h:vt tt t (ev s X) (ev s Y) (ev s Z) m fun v u rd=>v=r.v/\u=r.u/\rd=r.rd)
  (hn:∀a' w' ab,aF c (bf s o.dst r.v) (gK m r.u) a' w' ab->next a' w'):o.wp P a w next Q:=by
 unfold vt at h;obtain⟨agg,sh,z,h1,h2⟩:=gF h;refine om (K:=fun v' m'=>v'=r.v/\m'=gK m r.u) aJ hs ho ?_ ?_
 ·unfold K4;refine h2 _ ?_;split at h1
  ·rename_i k b hk hx aU;split at h1
   ·rename_i hb;split at h1
    ·rename_i g1 g2;rw[eI] at h1;simp only[hk,hx,aU,hb,g1,g2,eI,eQ];exact⟨h1.1,by rw[<-h1.2.1];rfl⟩
    ·exact h1.elim
   ·exact h1.elim
  ·exact h1.elim
 ·rintro v' m' a' w' ab ⟨rfl,rfl⟩ bH;exact hn a' w' ab bH
theorem yk(aJ:bp P tt)(hs:aF c s m a w ids){t:TypeId}(ho:o.op=.makeMap t none){aA:Nat}{r:Oc}(h:lF tt t aA m fun v u rd=>v=r.v/\u=r.u/\rd=r.rd)
  (hn:∀a' w' ab,aF c (bf s o.dst r.v) (gK m r.u) a' w' ab->next a' w'):o.wp P a w next Q:=by
 have e:execOp a.eval o=(do pure (.value (<-Instr.makeMap t none))):=by
  obtain⟨dst,op,ty,pos,after,guard⟩:=o;simp only at ho;subst ho;rfl
 unfold lF at h;obtain⟨kt,et,agg,sh,z,zv,h1,h2,_,_,h⟩:=kE aJ h (au c ids w) w;obtain⟨⟨r1,r2,_⟩,fM,Bc⟩:=dc h;have dO:=ij fM Bc
 have bH:=hs.Ba aA dO (.eP agg sh (fun _=>false) (fun _=>.af)) (.map #[] 0) 0 0 0 (fun ab bo w' _ _ _ h4=>by
  have h4:w'.heap[w.heap.size]?=some (.map #[] 0):=h4.trans (by
   show(w.heap.push _)[w.heap.size]?=_;simp)
  exact⟨#[],0,fun _=>[],h4,(fun i h=>by simp at h),(fun i j h=>by simp at h),(fun k _ h=>by simp at h),(fun i h=>by simp at h),(fun i h=>by simp at h),(fun i j h=>by simp at h)⟩)
 have hl:=(List.getElem?_eq_some_iff.1 dO).1;have Xg:aA<ids.length:=by rw[hs.aL];exact hl
 refine aR (v:=.map (some w.heap.size)) (w':=w.alloc (.map #[] 0)) (by rw[e];simp only[Sem.run_bind,RowKit.run_makeMap,Result.andThen_ok];rfl) (hn _ _ (ids.set aA (.lv (mkId w.heap.size 0 0 0))) ?_);rw[<-r1,<-r2];exact bH.bf o.dst (.omap aA (mkId w.heap.size 0 0 0) (by rw[List.getElem?_set_self Xg]))
theorem G'(aJ:bp P tt)(hG:G.ok c)(hs:aF c s m a w ids){aA:Nat}{r:Oc}(h:Out P G tt o aA s m r)
  (hn:∀a' w' ab,aF c (bf s o.dst r.v) (gK m r.u) a' w' ab->next a' w'):o.wp P a w next Q:=by
 unfold Out rF at h;split at h
 ·rename_i t x lo hi ho;unfold Va at h;split at h
  ·rename_i b hX rT;have rT:lo=none:=by cases lo with|none=>rfl|some=>simp[pf] at rT
   subst rT;exact yj aJ hs ho hX h hn
  ·exact df aJ hG hs h hn
 ·rename_i ho;exact Be aJ hs ho h hn
 ·rename_i ho;exact uQ aJ hs (.inl ho) h hn
 ·rename_i ho;exact uQ aJ hs (.inr ho) h hn
 ·rename_i ho;exact yk aJ hs ho h hn
 ·rename_i t ho;unfold yd at h;split at h
  ·rename_i ti ht;obtain⟨⟨e1,e2,_⟩,fM,Bc⟩:=dc h;obtain⟨i,d,z,hi,hd,hz,bL,fV,pC,hzero,_⟩:=aJ.facts ht;refine pw hs (ij fM Bc) (.box t ti.zero) z.cells t 0 0 (r:=r.v) (v:=.pointer (some ⟨w.heap.size,0,none⟩)) ?_ ?_ ?_ (fun a' w' ab bH=>hn a' w' ab (by rw[<-e2];exact bH))
   ·unfold execOp;rw[ho];simp[Instr.alloc,zeroValue,typeInfo,hi,hz,newVar,newRow]
   ·intro ab bo w' g1 g2 g3 g4;refine⟨z.cells,g4,rfl,by simp[hzero],?_⟩;intro j hj cj;refine⟨?_,fV _ (by simp)⟩;simp only[hzero,List.getElem_map,Array.getElem_toList];exact .aI (eE _ _ _)
   ·intro ab bo w' g;rw[<-e1];exact .ref aA 0 _ g
  ·exact h.elim
 ·rename_i t x ho;unfold Ow at h;split at h
  ·rename_i cs hc;obtain⟨⟨e1,e2,_⟩,fM,Bc⟩:=dc h;obtain⟨vs,h1,h2,h3,h4⟩:=ng hc (hs.ev x);refine pw hs (ij fM Bc) (.box t cs) vs.toArray t 0 0 (r:=r.v) (v:=.pointer (some ⟨w.heap.size,0,none⟩)) ?_ ?_ ?_ (fun a' w' ab bH=>hn a' w' ab (by rw[<-e2];exact bH))
   ·unfold execOp;rw[ho];simp[Instr.box,newVar,newRow,h1]
   ·intro ab bo w' g1 g2 g3 g4;refine⟨vs.toArray,g4,rfl,by simp[h2],?_⟩;intro j hj cj;simp at cj;refine⟨(by simpa using(h4 j hj cj).mono g1 g2 g3),?_⟩;simpa using h3 _ (List.getElem_mem cj)
   ·intro ab bo w' g;rw[<-e1];exact .ref aA 0 _ g
  ·exact h.elim
 ·rename_i t len ps ho;unfold pv at h;split at h
  ·rename_i ti ht;split at h
   ·rename_i te hk yC NV;obtain⟨db,dK,f2,E6⟩:=E5 (P:=P) aJ hs ht hk yC (Nat.le_of_ble_eq_true NV) h;split at f2
    ·rename_i aU hlen;split at f2
     ·simp only[aO] at f2;obtain⟨⟨e1,e2,_⟩,fM,Bc⟩:=dc f2;obtain⟨bW,vw,VV,hB⟩:=E6 aU (Nat.eq_of_beq_eq_true hlen);refine pw hs (ij fM Bc) _ dK ti.aN len ti.bB (r:=r.v) (v:=.slice (some ⟨w.heap.size,0,none⟩) len len) ?_ hB ?_ (fun a' w' ab bH=>hn a' w' ab (by rw[<-e2];exact bH))
      ·unfold execOp;rw[ho];simp only[Sem.run_bind,bW];rfl
      ·intro ab bo w' g;rw[<-e1];exact .own aA len _ g ⟨Nat.le_refl _,VV⟩ vw.symm
     ·simp only[aO] at f2;obtain⟨e1,e2,_⟩:=f2;obtain⟨bW,vw,VV,hB⟩:=E6 aU (Nat.eq_of_beq_eq_true hlen);have Sl:=jE w (.cells dK ti.aN);have bH:=hs.same Sl;have lQ:(w.alloc (.cells dK ti.aN)).heap[w.heap.size]?=some (.cells dK ti.aN (0,0)):=heap_alloc_new w _
      have nC:∀b,au c ids w b->au c ids (w.alloc (.cells dK ti.aN)) b:=by
       intro b hb;rcases hb with hb|⟨h1,h2,h3⟩
       ·exact .inl hb
       ·exact .inr ⟨h1,Nat.lt_of_lt_of_le h2 Sl.size,h3⟩
      have Hp:=hB ids (au c ids (w.alloc (.cells dK ti.aN))) (w.alloc (.cells dK ti.aN)) nC (fun b hb=>Sl.block b (cB hs hb)) (fun _ _ h _=>h) lQ;refine aR (w':=w.alloc (.cells dK ti.aN)) (v:=.slice (some ⟨w.heap.size,0,none⟩) len len) (by unfold execOp;rw[ho];simp only[Sem.run_bind,bW];rfl) (hn _ _ ids ?_);rw[<-e1,<-e2];refine bH.bf o.dst (.aI ?_);obtain⟨_,_,ZE,q1,q2,q3,q4,q5⟩:=Hp;have q1:(w.alloc (.cells dK ti.aN)).heap[w.heap.size]?=some (.cells ZE ti.aN (0,0)):=q1;rw[lQ] at q1;have q1:dK=ZE:=by simpa using q1
      subst q1
      have aD:∀i j,i<len->j<(iv ti.bB (db.drop (i*ti.bB))).length->i*ti.bB+j<dK.size:=by
       intro i j hi hj;rw[q4 i hi] at hj;have:=Nat.mul_le_mul_right ti.bB (show i+1<=len from hi);rw[Nat.add_mul] at this;omega
      refine .sl len ti.bB _ w.heap.size 0 len (fun i j=>dK.getD (i*ti.bB+j) undef) (.inr ⟨.inl hs.frame.size,by simp,fun p hp hx=>?_⟩) (Nat.le_refl _) q4 ?_ ?_ ?_
      ·have:=(hs.ar p hp _ hx).2;omega
      ·intro i j hi hj;have cj:j<(iv ti.bB (db.drop (i*ti.bB))).length:=by rw[q4 i hi];exact hj
       rw[Nat.zero_add,cell_of_row _ _ _ _ _ (0,0) lQ,Array.getElem?_eq_getElem (aD i j hi cj),Array.getD_eq_getD_getElem?,Array.getElem?_eq_getElem (aD i j hi cj)];rfl
      ·intro i j hi hj;have cj:j<(iv ti.bB (db.drop (i*ti.bB))).length:=by rw[q4 i hi];exact hj
       have:=(q5 i j hi cj (aD i j hi cj)).2;rw[Array.getD_eq_getD_getElem?,Array.getElem?_eq_getElem (aD i j hi cj)];exact this
      ·intro i j hi hj;have:=(q5 i j hi hj (aD i j hi hj)).1;rw[Array.getD_eq_getD_getElem?,Array.getElem?_eq_getElem (aD i j hi hj)];exact this
    ·exact f2.elim
   ·exact h.elim
  ·exact h.elim
 ·rename_i t L C ho;have hl:=hs.ev L;have hc:=hs.ev C;unfold Fm at h;split at h
  ·rename_i ti k1 l k2 k jn hL hC;rw[hL] at hl;rw[hC] at hc;obtain⟨i0,d,z0,_,hd,_,_,_,_,_,_,_,_,_,jt,_⟩:=aJ.facts jn;split at h
   ·rename_i te hk yC;obtain⟨ie,ze,gk,iT,bL,Br,hz,pC,hne⟩:=jt hk;subst gk;obtain⟨i1,d1,z1,dJ,_,Pk,_,fV,_,hzero,_⟩:=aJ.facts yC;have e1:i1=ie:=by rw[iT] at dJ;exact(Option.some.inj dJ).symm
    subst e1;have e2:z1=ze:=by rw[hz] at Pk;exact(Option.some.inj Pk).symm
    subst e2;simp only[aO,ck] at h;obtain⟨⟨c1,c2,c3,c4⟩,h⟩:=h;obtain⟨⟨f1,f2,_⟩,fM,Bc⟩:=dc h;have bW:=run_make (P:=P) w t ti.aN i1 z1 hd iT hz k1 k2 l k c1 c2 (by rw[Br,Int.mul_comm];omega) (by omega);refine pw hs (ij fM Bc) (.row ti.aN ti.bB l.toNat fun _=>te.zero) (madeCells z1.cells (k.toNat*i1.size)) ti.aN l.toNat ti.bB (r:=r.v) (v:=.slice (some ⟨w.heap.size,0,none⟩) l.toNat k.toNat) ?_ ?_ ?_ (fun a' w' ab bH=>hn a' w' ab (by rw[<-f2];exact bH))
    ·unfold execOp;rw[ho];simp only[hl.bY,hc.bY,Sem.run_bind,bW];rfl
    ·intro ab bo w' g1 g2 g3 g4;rw[bL] at g4 ⊢;refine aX.ni (cap:=k.toNat) g4 (by simp[size_madeCells]) (by omega) rfl ?_;rw[hzero];exact n9 pC (by omega) fV
    ·intro ab bo w' g;rw[<-f1];refine .own _ k.toNat _ g ⟨by show l.toNat<=k.toNat;omega,by simp only[maxLen];omega⟩ ?_;simp[size_madeCells,bL]
   ·exact h.elim
  ·exact h.elim
 ·rename_i args ts ho;split at h
  ·rename_i x y t t' hx ht;split at h
   ·rename_i he;have he:=Nat.eq_of_beq_eq_true he;subst he;have e1:args = #[x,y]:=by apply Array.ext';simpa using hx
    have e2:ts = #[t',t']:=by apply Array.ext';simpa using ht
    subst e1;subst e2;exact Dx aJ hs ho h hn
   ·exact h.elim
  ·exact h.elim
 ·rename_i f args ts ho;rcases h with h|h
  ·exact df aJ hG hs h hn
  ·unfold uM at h;refine rz hs hG ho h ?_;intro r' iY hk;obtain⟨⟨e1,e2,_⟩,hd⟩:=qG _ _ hk;refine⟨m,ids,hs,?_,?_⟩
   ·intro j hj;exact ij (hd j hj).1 (hd j hj).2
   ·intro a' w' ab bH;refine hn a' w' ab ?_;rw[<-e1,<-e2,Bb];exact bH
 ·rename_i args ts ho;split at h
  ·rename_i x t hx ht;have e1:args = #[x]:=by apply Array.ext';simpa using hx
   have e2:ts = #[t]:=by apply Array.ext';simpa using ht
   subst e1;subst e2;unfold Lk at h;split at h
   ·rename_i g sh has val hX;unfold Fo at h;obtain⟨agg,uF,z,⟨n,h1,h2,h3,_⟩,h4⟩:=gF h;refine jT (K:=fun v' m'=>v'=r.v/\m'=m) aJ hs ho ?_ ?_
    ·unfold pt;refine h4 _ ?_;rw[hX];exact fun keys k1 k2 k3=>⟨by rw[h1 keys k1 k2 k3];exact h2,rfl⟩
    ·rintro v' m' a' w' ab ⟨rfl,rfl⟩ bH;refine hn a' w' ab ?_;rw[<-h3];exact bH
   ·exact df aJ hG hs h hn
  ·exact df aJ hG hs h hn
 ·rename_i t x ho;unfold wE at h;split at h
  ·rename_i b i off hx;split at h
   ·rename_i hb;exact Bd aJ hs ho hx hb h hn
   ·exact df aJ hG hs h hn
  ·exact df aJ hG hs h hn
 ·rename_i t x i ho;unfold GW at h;split at h
  ·rename_i b hx;split at h
   ·rename_i ty aN sz n hole len row hb;split at h
    ·rename_i ti kk ix jn hY;split at h
     ·rename_i hk he;obtain⟨VW,e1,e2,_⟩:=h;refine cN (K:=fun s1 v m'=>s1=s/\v=r.v/\m'=m) aJ hG hs ?_ ?_
      ·unfold lO;rw[ho];simp only[hx,hb,jn,hY];rw[hk,he];exact⟨VW,trivial,e1,trivial⟩
      ·rintro s1 v m' a' w' ab ⟨rfl,rfl,rfl⟩ bH;refine hn a' w' ab ?_;rw[<-e2];exact bH
     ·exact h.elim
    ·exact h.elim
   ·exact df aJ hG hs h hn
  ·exact df aJ hG hs h hn
 ·rename_i t x y ho;unfold qE at h;split at h
  ·rename_i ti b off ht hx;split at h
   ·rename_i ty cs hb;refine lx (K:=fun v m'=>v=r.v/\m'=gK m r.u) aJ hs ho ?_ ?_
    ·obtain⟨vs,g1,g2,g3,g4⟩:=lr h;unfold ue;simp only[ht,hx,hb];unfold LI;have e2:Nat.ble (off+ti.size) cs.length=true:=Nat.ble_eq_true_of_le g3;simp only[g1,g2,ck,eQ,Nat.beq_refl,e2];exact⟨g4.1,by rw[<-g4.2.1];rfl⟩
    ·rintro v m' a' w' ab ⟨rfl,rfl⟩ bH;exact hn a' w' ab bH
   ·exact h.elim
  ·rename_i ti b i off ht hx;split at h
   ·rename_i ty sz n row hb;split at h
    ·rename_i aU;obtain⟨aD,h⟩:=h;rw[ck] at h;refine lx (K:=fun v m'=>v=r.v/\m'=gK m r.u) aJ hs ho ?_ ?_
     ·obtain⟨vs,g1,g2,g3,g4⟩:=lr h;unfold ue;simp only[ht,hx,hb,aU];unfold LI;have e2:Nat.ble (off+ti.size) (row i).length=true:=Nat.ble_eq_true_of_le g3;simp only[g1,g2,ck,eQ,Nat.beq_refl,e2];exact⟨aD,g4.1,by rw[<-g4.2.1];rfl⟩
     ·rintro v m' a' w' ab ⟨rfl,rfl⟩ bH;exact hn a' w' ab bH
    ·exact h.elim
   ·rename_i hb;exact Dy aJ hs ho hx hb h hn
   ·exact h.elim
  ·exact h.elim
 ·exact df aJ hG hs h hn
end
structure Rc where
 ex:Bool
 oc:Oc
 v:A
abbrev fO:=List (Oper×Rc)

def dX(S:Nat->Bool):Nat->fO->List A->List A
 | _,[],s=>s
 | i,(o,r)::l,s=>dX S (i+1) l (if S i then bf s o.dst r.v else s)
def jU(S:Nat->Bool):Nat->fO->List aq->List aq
 | _,[],m=>m
 | i,(_,r)::l,m=>jU S (i+1) l (if S i then gK m r.oc.u else m)

theorem kG(s:List A)(d:Option Nat)(v:A)(t:Nat):(bf s d v).getD t .af=if d=some t/\t<s.length then v else s.getD t .af:=by
 cases d with
 | none=>simp[bf]
 | some d =>
  simp only[bf,List.getD_eq_getElem?_getD,List.getElem?_set,Option.some.injEq];by_cases h:d=t
  ·subst h;by_cases h2:d<s.length
   ·simp[h2]
   ·simp[h2]
  ·simp[h]
theorem pz(s:List A)(d:Option Nat)(v:A):(bf s d v).length=s.length:=by cases d<;>simp[bf]
theorem kH(m:List aq):∀u:List (Nat×aq),(gK m u).length=m.length
 | []=>rfl
 | (b,x)::u=>by rw[gK,List.length_set,kH m u]
theorem iZ(m:List aq)(t:Nat):∀u:List (Nat×aq),(gK m u).getD t .dead=match u.lookup t with|some x=>if t<m.length then x else m.getD t .dead|none=>m.getD t .dead
 | []=>rfl
 | (b,x)::u=>by
  rw[gK,List.getD_eq_getElem?_getD,List.getElem?_set,kH,List.lookup_cons];by_cases h:b=t
  ·subst h;simp only[beq_self_eq_true,if_true];by_cases h2:b<m.length
   ·simp[h2]
   ·simp[h2]
  ·have h':(t==b)=false:=by simpa using fun e=>h e.symm
   rw[if_neg h,h'];have:=iZ m t u;rw[List.getD_eq_getElem?_getD] at this;exact this
theorem pA(S:Nat->Bool):∀(l:fO) (i:Nat) (s:List A),(dX S i l s).length=s.length
 | [],_,_=>rfl
 | (o,r)::l,i,s=>by rw[dX,pA];split<;>simp[pz]
theorem nm(S:Nat->Bool):∀(l:fO) (i:Nat) (m:List aq),(jU S i l m).length=m.length
 | [],_,_=>rfl
 | (o,r)::l,i,m=>by rw[jU,nm];split<;>simp[kH]

theorem kI(S S':Nat->Bool)(t:Nat):∀(l:fO) (i:Nat) (s s':List A),s.length=s'.length->s.getD t .af=s'.getD t .af ->
  (∀j o r,l[j]?=some (o,r)->o.dst=some t->S (i+j)=S' (i+j))->(dX S i l s).getD t .af=(dX S' i l s').getD t .af
 | [],_,_,_,_,h,_=>h
 | (o,r)::l,i,s,s',hl,h,hw=>by
  rw[dX,dX];refine kI S S' t l (i+1) _ _ ?_ ?_ ?_
  ·split<;>split<;>simp[pz,hl]
  ·by_cases hd:o.dst=some t
   ·have:=hw 0 o r rfl hd;simp only[Nat.add_zero] at this;rw[this];split
    ·rw[kG,kG,hl,h]
    ·exact h
   ·have e1:∀s:List A,(bf s o.dst r.v).getD t .af=s.getD t .af:=by
     intro s;rw[kG,if_neg (fun hh=>hd hh.1)]
    split<;>split<;>simp only[e1,h]
  ·intro j o' r' hj hd;have:=hw (j+1) o' r' (by simpa using hj) hd
   rwa [show i+(j+1)=i+1+j by omega] at this
theorem kJ(S S':Nat->Bool)(t:Nat):∀(l:fO) (i:Nat) (m m':List aq),m.length=m'.length->m.getD t .dead=m'.getD t .dead ->
  (∀j o r x,l[j]?=some (o,r)->r.oc.u.lookup t=some x->S (i+j)=S' (i+j))->(jU S i l m).getD t .dead=(jU S' i l m').getD t .dead
 | [],_,_,_,_,h,_=>h
 | (o,r)::l,i,m,m',hl,h,hw=>by
  rw[jU,jU];refine kJ S S' t l (i+1) _ _ ?_ ?_ ?_
  ·split<;>split<;>simp[kH,hl]
  ·cases hu:r.oc.u.lookup t with
   | some x =>
    have:=hw 0 o r x rfl hu;simp only[Nat.add_zero] at this;rw[this];split
    ·rw[iZ,iZ,hu];simp only[hl,h]
    ·exact h
   | none =>
    have e0:∀m:List aq,(gK m r.oc.u).getD t .dead=m.getD t .dead:=fun m=>by rw[iZ,hu]
    split<;>split<;>simp only[e0,h]
  ·intro j o' r' x hj hd;have:=hw (j+1) o' r' x (by simpa using hj) hd
   rwa [show i+(j+1)=i+1+j by omega] at this

theorem Bf(S:Nat->Bool)(t:Nat):∀(l:fO) (i k:Nat) (s:List A) (o:Oper) (r:Rc),t<s.length->l[k]?=some (o,r)->o.dst=some t->S (i+k)=true ->
  (∀j o' r',k<j->l[j]?=some (o',r')->o'.dst=some t->S (i+j)=false)->(dX S i l s).getD t .af=r.v
 | [],_,_,_,_,_,_,h,_,_,_=>by simp at h
 | (o1,r1)::l,i,k,s,o,r,ht,hk,hd,hS,hl=>by
  rw[dX];cases k with
  | zero =>
   simp only[List.getElem?_cons_zero,Option.some.injEq,Prod.mk.injEq] at hk;obtain⟨rfl,rfl⟩:=hk;simp only[Nat.add_zero] at hS
   have:=kI S (fun _=>false) t l (i+1) (if S i then bf s o1.dst r1.v else s) (if S i then bf s o1.dst r1.v else s) rfl rfl (fun j o' r' hj fM=>by
    have:=hl (j+1) o' r' (by omega) (by simpa using hj) fM
    rwa [show i+(j+1)=i+1+j by omega] at this)
   rw[this]
   have bZ:∀(l:fO) (i:Nat) (s:List A),dX (fun _=>false) i l s=s:=by
    intro l;induction l with
    | nil=>intro i s;rfl
    | cons p l ih=>intro i s;rw[dX];simp[ih]
   rw[bZ,hS];simp only[if_true];rw[kG,if_pos ⟨hd,ht⟩]
  | succ k =>
   refine Bf S t l (i+1) k _ o r ?_ (by simpa using hk) hd ?_ ?_
   ·split<;>simp[pz,ht]
   ·rwa [show i+1+k=i+(k+1) by omega]
   ·intro j o' r' hj oN fM;have:=hl (j+1) o' r' (by omega) (by simpa using oN) fM
    rwa [show i+(j+1)=i+1+j by omega] at this
theorem Bg(S:Nat->Bool)(t:Nat):∀(l:fO) (i k:Nat) (m:List aq) (o:Oper) (r:Rc) (x:aq),t<m.length->l[k]?=some (o,r)->r.oc.u.lookup t=some x->S (i+k)=true ->
  (∀j o' r' x',k<j->l[j]?=some (o',r')->r'.oc.u.lookup t=some x'->S (i+j)=false)->(jU S i l m).getD t .dead=x
 | [],_,_,_,_,_,_,_,h,_,_,_=>by simp at h
 | (o1,r1)::l,i,k,m,o,r,x,ht,hk,hd,hS,hl=>by
  rw[jU];cases k with
  | zero =>
   simp only[List.getElem?_cons_zero,Option.some.injEq,Prod.mk.injEq] at hk;obtain⟨rfl,rfl⟩:=hk;simp only[Nat.add_zero] at hS
   have:=kJ S (fun _=>false) t l (i+1) (if S i then gK m r1.oc.u else m) (if S i then gK m r1.oc.u else m) rfl rfl (fun j o' r' x' hj fM=>by
    have:=hl (j+1) o' r' x' (by omega) (by simpa using hj) fM
    rwa [show i+(j+1)=i+1+j by omega] at this)
   rw[this]
   have bZ:∀(l:fO) (i:Nat) (m:List aq),jU (fun _=>false) i l m=m:=by
    intro l;induction l with
    | nil=>intro i m;rfl
    | cons p l ih=>intro i m;rw[jU];simp[ih]
   rw[bZ,hS];simp only[if_true];rw[iZ,hd];simp[ht]
  | succ k =>
   refine Bg S t l (i+1) k _ o r x ?_ (by simpa using hk) hd ?_ ?_
   ·split<;>simp[kH,ht]
   ·rwa [show i+1+k=i+(k+1) by omega]
   ·intro j o' r' x' hj oN fM;have:=hl (j+1) o' r' x' (by omega) (by simpa using oN) fM
    rwa [show i+(j+1)=i+1+j by omega] at this

theorem Bh{s s':List A}(hl:s.length=s'.length)(h:∀t,s.getD t .af=s'.getD t .af):s=s':=by
 apply List.ext_getElem hl;intro i h1 h2;have:=h i;simpa[List.getD_eq_getElem?_getD,h1,h2] using this
theorem Bi{s s':List aq}(hl:s.length=s'.length)(h:∀t,s.getD t .dead=s'.getD t .dead):s=s':=by
 apply List.ext_getElem hl;intro i h1 h2;have:=h i;simpa[List.getD_eq_getElem?_getD,h1,h2] using this

/-- One more of the operations. -/
theorem OD(S S':Nat->Bool)(l:fO)(k:Nat)(s:List A)(o:Oper)(r:Rc)(hk:l[k]?=some (o,r))(hS:∀j,S' j=(S j||j==k))(hn:S k=false)
  (hc:∀j o' r',k<j->l[j]?=some (o',r')->o'.dst=o.dst->o.dst≠none->S j=false):dX S' 0 l s=bf (dX S 0 l s) o.dst r.v:=by
 apply Bh (by simp[pA,pz]);intro t;rw[kG,pA];by_cases hd:o.dst=some t
 ·by_cases ht:t<s.length
  ·rw[if_pos ⟨hd,ht⟩];refine Bf S' t l 0 k s o r ht hk hd (by simp[hS]) ?_;intro j o' r' hj oN fM;have:=hc j o' r' hj oN (by rw[fM,hd]) (by rw[hd];simp);simp[hS,this];omega
  ·rw[if_neg (fun h=>ht h.2)]
   have e1:∀(S:Nat->Bool),(dX S 0 l s).getD t .af=.af:=by
    intro S;rw[List.getD_eq_getElem?_getD,List.getElem?_eq_none (by rw[pA];omega)];rfl
   rw[e1,e1]
 ·rw[if_neg (fun h=>hd h.1)];refine kI S' S t l 0 s s rfl rfl ?_;intro j o' r' hj fM;simp only[Nat.zero_add,hS];have:j≠k:=by rintro rfl;rw[hk] at hj;cases hj;exact hd fM
  simp[this]
theorem OE(S S':Nat->Bool)(l:fO)(k:Nat)(m:List aq)(o:Oper)(r:Rc)(hk:l[k]?=some (o,r))(hS:∀j,S' j=(S j||j==k))(hn:S k=false)
  (hc:∀j o' r' b x x',k<j->l[j]?=some (o',r')->r.oc.u.lookup b=some x->r'.oc.u.lookup b=some x'->S j=false):jU S' 0 l m=gK (jU S 0 l m) r.oc.u:=by
 apply Bi (by simp[nm,kH]);intro t;rw[iZ,nm];split
 ·rename_i x hu;by_cases ht:t<m.length
  ·rw[if_pos ht];refine Bg S' t l 0 k m o r x ht hk hu (by simp[hS]) ?_;intro j o' r' x' hj oN fM;have:=hc j o' r' t x x' hj oN hu fM;simp[hS,this];omega
  ·rw[if_neg ht]
   have e1:∀(S:Nat->Bool),(jU S 0 l m).getD t .dead=.dead:=by
    intro S;rw[List.getD_eq_getElem?_getD,List.getElem?_eq_none (by rw[nm];omega)];rfl
   rw[e1,e1]
 ·rename_i hu;refine kJ S' S t l 0 m m rfl rfl ?_;intro j o' r' x hj fM;simp only[Nat.zero_add,hS];have:j≠k:=by rintro rfl;rw[hk] at hj;cases hj;rw[hu] at fM;cases fM
  simp[this]
def uR(acc:List Nat)(o:Oper):Nat :=
 o.after.toList.foldl (fun s e=>match Region.binds .any e with
  | true=>s ||| 2 ^ e.on ||| acc.getD e.on 0
  | false=>s) 0
def jJ:List Nat->List Oper->List Nat
 | acc,[]=>acc
 | acc,o::os=>jJ (acc++[uR acc o]) os
abbrev Fp:=List Nat×List Nat
def OG(d:Option Nat)(l:List Nat):Bool:=match d with
 | some d=>Dm d l
 | none=>false
def Py(d e:Option Nat):Bool:=match d,e with
 | some d,some e=>Nat.beq d e
 | _,_=>false
def rH:List Nat->List Nat->Bool
 | [],_=>false
 | b::bs,l=>match Dm b l with
  | true=>true
  | false=>rH bs l
def vu(ops:Array Oper)(oi oj:Oper)(fi fj:Fp):Bool :=
 OG oj.dst (oi.looksAt ops)||Py oj.dst oi.dst||OG oi.dst (oj.looksAt ops)||rH fj.2 fi.1||rH fj.2 fi.2||rH fi.2 fj.1
/-- All pairs (i, j), i ahead, that meet are bound one behind the other. -/
def yl(ops:Array Oper)(mask:Nat)(oj:Oper)(fj:Fp):Nat->List (Oper×Fp)->Bool
 | _,[]=>true
 | i,(oi,fi)::l=>(!vu ops oi oj fi fj||mask.testBit i)&&yl ops mask oj fj (i+1) l
def ym(ops:Array Oper):List (Oper×Fp)->List (Oper×Fp×Nat)->Bool
 | _,[]=>true
 | done,(oj,fj,mk)::l=>yl ops mk oj fj 0 done&&ym ops (done++[(oj,fj)]) l
def Bj:Nat->List Oper->Bool
 | _,[]=>true
 | j,o::os=>(o.after.toList.all fun e=>!Region.binds .any e||decide (e.on<j))&&Bj (j+1) os
def bN(ops:List Oper)(yn:List Fp):Bool :=
 Bj 0 ops&&ym ops.toArray [] (ops.zip (yn.zip (jJ [] ops)))

def DC(S:Nat->Bool)(ops:List Oper):Prop:=∀(j:Nat) o,ops[j]?=some o->S j=true->∀e∈o.after,Region.binds .any e=true->S e.on=true

theorem yo{acc:List Nat}{S:Nat->Bool}(Ha:∀j i,(acc.getD j 0).testBit i=true->S j=true->S i=true)(o:Oper)
  (ho:∀e∈o.after,Region.binds .any e=true->S e.on=true) (i:Nat) (h:(uR acc o).testBit i=true):S i=true:=by
 unfold uR at h
 have key:∀(l:List Edge) (z:Nat),(∀e∈l,Region.binds .any e=true->S e.on=true)->(z.testBit i=true->S i=true) ->
   (l.foldl (fun s e=>match Region.binds .any e with|true=>s ||| 2 ^ e.on ||| acc.getD e.on 0|false=>s) z).testBit i=true->S i=true:=by
  intro l
  induction l with
  | nil=>intro z _ hz h;exact hz h
  | cons e l ih =>
   intro z hl hz h;rw[List.foldl_cons] at h;refine ih _ (fun e' he'=>hl e' (by simp[he'])) ?_ h;intro Bu;split at Bu
   ·rename_i hb;have ZF:=hl e (by simp) hb;rw[Nat.testBit_or,Nat.testBit_or,Bool.or_eq_true,Bool.or_eq_true] at Bu;rcases Bu with(Bu|Bu)|Bu
    ·exact hz Bu
    ·rw[Nat.testBit_two_pow] at Bu;have:e.on=i:=by simpa using Bu
     rw[<-this];exact ZF
    ·exact Ha _ _ Bu ZF
   ·exact hz Bu
 exact key o.after.toList 0 (fun e he=>ho e (by simpa using he)) (by simp) h

theorem wH{S:Nat->Bool}:∀(os:List Oper) (acc:List Nat),(∀j i,(acc.getD j 0).testBit i=true->S j=true->S i=true) ->
  (∀(j:Nat) o,os[j]?=some o->S (acc.length+j)=true->∀e∈o.after,Region.binds .any e=true->S e.on=true) ->
  ∀j i,((jJ acc os).getD j 0).testBit i=true->S j=true->S i=true
 | [],acc,Ha,_=>Ha
 | o::os,acc,Ha,Pj=>by
  rw[jJ];refine wH os _ ?_ ?_
  ·intro j i hb hS;by_cases hj:j<acc.length
   ·rw[List.getD_eq_getElem?_getD,List.getElem?_append_left hj,<-List.getD_eq_getElem?_getD] at hb;exact Ha j i hb hS
   ·by_cases vD:j=acc.length
    ·subst vD;rw[List.getD_eq_getElem?_getD,List.getElem?_append_right (Nat.le_refl _)] at hb;simp at hb;exact yo Ha o (Pj 0 o rfl (by simpa using hS)) i hb
    ·rw[List.getD_eq_getElem?_getD,List.getElem?_eq_none (by simp;omega)] at hb;simp at hb
  ·intro j o' hj hS;have:=Pj (j+1) o' (by simpa using hj) (by simp at hS;rwa [show acc.length+(j+1)=acc.length+1+j by omega]);exact this

theorem mT{i:Nat}:∀ {l:List Nat},Dm i l=true↔i∈l
 | []=>by simp[Dm]
 | j::l=>by
  unfold Dm;split
  ·rename_i h;simp[Nat.eq_of_beq_eq_true h]
  ·rename_i h;have:i≠j:=by rintro rfl;rw[Nat.beq_refl] at h;cases h
   simp[mT,this]

theorem rI{ops:Array Oper}{mask:Nat}{oj:Oper}{fj:Fp}:∀(l:List (Oper×Fp)) (k:Nat),yl ops mask oj fj k l=true->∀i oi fi,l[i]?=some (oi,fi)->vu ops oi oj fi fj=true->mask.testBit (k+i)=true
 | [],_,_,i,_,_,h,_=>by simp at h
 | (o1,f1)::l,k,h,i,oi,fi,hi,hc=>by
  simp only[yl,Bool.and_eq_true,Bool.or_eq_true,Bool.not_eq_true'] at h;cases i with
  | zero =>
   simp at hi;obtain⟨rfl,rfl⟩:=hi;rcases h.1 with h1|h1
   ·rw[hc] at h1;cases h1
   ·exact h1
  | succ i =>
   have:=rI l (k+1) h.2 i oi fi (by simpa using hi) hc
   rwa [show k+(i+1)=k+1+i by omega]
theorem rJ{ops:Array Oper}:∀(l:List (Oper×Fp×Nat)) (done:List (Oper×Fp)),ym ops done l=true ->
  ∀i j oi fi oj fj mj,(done++l.map fun p=>(p.1,p.2.1))[i]?=some (oi,fi)->l[j]?=some (oj,fj,mj)->i<done.length+j->vu ops oi oj fi fj=true->mj.testBit i=true
 | [],_,_,_,_,_,_,_,_,_,_,h,_,_=>by simp at h
 | (o1,f1,m1)::l,done,h,i,j,oi,fi,oj,fj,mj,hi,hj,aD,hc=>by
  simp only[ym,Bool.and_eq_true] at h;cases j with
  | zero =>
   simp at hj;obtain⟨rfl,rfl,rfl⟩:=hj;have:=rI done 0 h.1 i oi fi (by rw[List.getElem?_append_left (by omega)] at hi;exact hi) hc;simpa using this
  | succ j =>
   refine rJ l (done++[(o1,f1)]) h.2 i j oi fi oj fj mj ?_ (by simpa using hj) (by simp;omega) hc;simpa using hi
def Yq(g:Bool)(v:A)(K:A->Prop):Prop :=
 match g,v with
 | true,.sb b=>(b=true->K (.bool true))/\(b=false->K (.bool false))
 | _,v=>fv v K
def Wh(i:Nat):List Oper->Bool
 | []=>false
 | o::os=>match o.guard with
  | some (j,_)=>match Nat.beq i j with
   | true=>true
   | false=>Wh i os
  | none=>Wh i os
def Lq(g:Option Nat)(want:Bool)(s:List A)(X Y:Prop):Prop :=
 match g with
 | none=>False
 | some d=>match s.getD d .af with
  | .bool b=>match b,want with
   | true,true=>X
   | false,false=>X
   | true,false=>Y
   | false,true=>Y
  | .tup vs=>match vs with
   | []=>Y
   | _=>False
  | _=>False
def Ve:List (Nat×Nat)->Nat->Nat
 | [],_=>0
 | (j,n)::l,i=>match Nat.beq j i with
  | true=>n
  | false=>Ve l i
def pB(rv:List (Nat×Nat))(i:Nat)(o:Op)(aA:Nat):Nat:=match Fs o with
 | true=>aA+1
 | false=>aA+Ve rv i
def uS(P:Program)(G:aG)(tt:TT)(ops:List Oper)(rv:List (Nat×Nat)):List Oper->Nat->Nat->List A->List aq->(List A->List aq->List Fp->Prop)->Prop
 | [],_,_,s,m,K=>K s m []
 | o::rest,i,aA,s,m,K =>
  let X:Prop:=rF P G tt o aA s m fun v u rd=>Yq (Wh i ops) v fun v'=>qC s o.dst v' fun s'=>GV m u fun m' =>
   dz (pB rv i o.op aA) fun uT=>uS P G tt ops rv rest (i+1) uT s' m' fun s m yn=>K s m ((rd,u.map (·.1))::yn)
  match o.guard with
  | none=>X
  | some (j,want)=>Lq (mQ ops j) want s X
    (qC s o.dst (.tup []) fun s'=>dz (pB rv i o.op aA) fun uT=>uS P G tt ops rv rest (i+1) uT s' m fun s m yn=>K s m (([],[])::yn))

/-- A value told more closely. -/
def Ref(x y:A):Prop:=y=x\/∃b,x=.sb b/\y=.bool b
def Gd(ops:List Oper)(o:Oper)(r:Rc)(s:List A):Prop :=
 match o.guard with
 | none=>r.ex=true
 | some (j,want)=>(∃d b,mQ ops j=some d/\s.getD d .af=.bool b/\r.ex=(b==want))\/∃d,mQ ops j=some d/\s.getD d .af=.tup []/\r.ex=false
def Ch(P:Program)(G:aG)(tt:TT)(ops:List Oper):fO->List A->List aq->Prop
 | [],_,_=>True
 | (o,r)::l,s,m=>Gd ops o r s/\(r.ex=true->(∃aA,Out P G tt o aA s m r.oc)/\Ref r.oc.v r.v)/\(r.ex=false->r.v=.tup []/\r.oc.u=[]/\r.oc.rd=[]) /\
   Ch P G tt ops l (bf s o.dst r.v) (gK m r.oc.u)
def jx:Nat->Bool:=fun _=>true
def lR(r:Rc):Fp:=(r.oc.rd,r.oc.u.map (·.1))

section
variable {c:Ctx} {P:Program} {tt:TT} {G:aG} {ops:List Oper}

theorem yp(rv:List (Nat×Nat)):∀(rest:List Oper) (i aA:Nat) (s:List A) (m:List aq) (K:List A->List aq->List Fp->Prop),uS P G tt ops rv rest i aA s m K ->
  ∃l:fO,l.map (·.1)=rest/\Ch P G tt ops l s m/\K (dX jx 0 l s) (jU jx 0 l m) (l.map fun p=>lR p.2)
 | [],i,aA,s,m,K,h=>⟨[],rfl,trivial,h⟩
 | o::rest,i,aA,s,m,K,h=>by
  have Lr:∀(l:fO) (a b:Nat) (s:List A),dX jx a l s=dX jx b l s:=by
   intro l;induction l with
   | nil=>intros;rfl
   | cons p l ih=>intro a b s;rw[dX,dX];simp only[jx];exact ih _ _ _
  have Ls:∀(l:fO) (a b:Nat) (m:List aq),jU jx a l m=jU jx b l m:=by
   intro l;induction l with
   | nil=>intros;rfl
   | cons p l ih=>intro a b s;rw[jU,jU];simp only[jx];exact ih _ _ _
  have exec:(rF P G tt o aA s m fun v u rd=>Yq (Wh i ops) v fun v'=>qC s o.dst v' fun s'=>GV m u fun m' =>
    dz (pB rv i o.op aA) fun uT=>uS P G tt ops rv rest (i+1) uT s' m' fun s m yn=>K s m ((rd,u.map (·.1))::yn))->(∀r:Rc,r.ex=true->Gd ops o r s) ->
    ∃l:fO,l.map (·.1)=o::rest/\Ch P G tt ops l s m/\K (dX jx 0 l s) (jU jx 0 l m) (l.map fun p=>lR p.2):=by
   intro h hg;obtain⟨oc,h1,h2⟩:=G0 h
   have key:∀v',Ref oc.v v'->(qC s o.dst v' fun s'=>GV m oc.u fun m' =>
     dz (pB rv i o.op aA) fun uT=>uS P G tt ops rv rest (i+1) uT s' m' fun s m yn=>K s m ((oc.rd,oc.u.map (·.1))::yn)) ->
     ∃l:fO,l.map (·.1)=o::rest/\Ch P G tt ops l s m/\K (dX jx 0 l s) (jU jx 0 l m) (l.map fun p=>lR p.2):=by
    intro v' hr hh;rw[nk,Fj,aO] at hh;obtain⟨l,g1,g2,g3⟩:=yp rv rest (i+1) _ _ _ _ hh;refine⟨(o,⟨true,oc,v'⟩)::l,by simp[g1],⟨hg _ rfl,fun _=>⟨⟨aA,h1⟩,hr⟩,(fun h=>by cases h),g2⟩,?_⟩;rw[dX,jU];simp only[jx,if_true,List.map_cons];rw[Lr l (0+1) 0,Ls l (0+1) 0];exact g3
   unfold Yq at h2;split at h2
   ·rename_i b hb he;cases b
    ·exact key _ (.inr ⟨false,he,rfl⟩) (h2.2 rfl)
    ·exact key _ (.inr ⟨true,he,rfl⟩) (h2.1 rfl)
   ·rw[dp] at h2;exact key _ (.inl rfl) h2
  have skip:(qC s o.dst (.tup []) fun s'=>dz (pB rv i o.op aA) fun uT=>uS P G tt ops rv rest (i+1) uT s' m fun s m yn=>K s m (([],[])::yn))->(∀r:Rc,r.ex=false->Gd ops o r s) ->
    ∃l:fO,l.map (·.1)=o::rest/\Ch P G tt ops l s m/\K (dX jx 0 l s) (jU jx 0 l m) (l.map fun p=>lR p.2):=by
   intro hh hg;rw[nk,aO] at hh;obtain⟨l,g1,g2,g3⟩:=yp rv rest (i+1) _ _ _ _ hh;refine⟨(o,⟨false,⟨.af,[],[]⟩,.tup []⟩)::l,by simp[g1],⟨hg _ rfl,(fun h=>by cases h),fun _=>⟨rfl,rfl,rfl⟩,g2⟩,?_⟩;rw[dX,jU];simp only[jx,if_true,List.map_cons];rw[Lr l (0+1) 0,Ls l (0+1) 0];exact g3
  unfold uS at h;simp only at h;split at h
  ·rename_i hg;exact exec h (fun r hr=>by unfold Gd;rw[hg];exact hr)
  ·rename_i j want hg;unfold Lq at h;split at h
   ·exact h.elim
   ·rename_i d hd;split at h
    ·rename_i b hb
     have gd:∀r:Rc,r.ex=(b==want)->Gd ops o r s:=by
      intro r hr;unfold Gd;rw[hg];exact .inl ⟨d,b,hd,hb,hr⟩
     split at h
     ·exact exec h (fun r hr=>gd r (by simp[hr]))
     ·exact exec h (fun r hr=>gd r (by simp[hr]))
     ·exact skip h (fun r hr=>gd r (by simp[hr]))
     ·exact skip h (fun r hr=>gd r (by simp[hr]))
    ·rename_i vs hb;split at h
     ·exact skip h (fun r hr=>by unfold Gd;rw[hg];exact .inr ⟨d,hd,hb,hr⟩)
     ·exact h.elim
    ·exact h.elim

/-- The chain at a place. -/
theorem Sn(l:fO)(s:List A)(m:List aq)(h:Ch P G tt ops l s m)(k:Nat)(o:Oper)(r:Rc)(hk:l[k]?=some (o,r)):
  Gd ops o r (dX (fun j=>decide (j<k)) 0 l s)/\(r.ex=true->(∃aA,Out P G tt o aA (dX (fun j=>decide (j<k)) 0 l s) (jU (fun j=>decide (j<k)) 0 l m) r.oc)/\Ref r.oc.v r.v)/\(r.ex=false->r.v=.tup []/\r.oc.u=[]/\r.oc.rd=[]):=by
 have gen:∀(l:fO) (i:Nat) (s:List A) (m:List aq),Ch P G tt ops l s m->∀k o r,l[k]?=some (o,r) ->
   Gd ops o r (dX (fun j=>decide (j<i+k)) i l s)/\(r.ex=true->(∃aA,Out P G tt o aA (dX (fun j=>decide (j<i+k)) i l s) (jU (fun j=>decide (j<i+k)) i l m) r.oc)/\Ref r.oc.v r.v)/\(r.ex=false->r.v=.tup []/\r.oc.u=[]/\r.oc.rd=[]):=by
  intro l
  induction l with
  | nil=>intro i s m _ k o r h;simp at h
  | cons p l ih =>
   obtain⟨o1,r1⟩:=p;intro i s m hch k o r hk;obtain⟨h1,h2,h3,h4⟩:=hch;cases k with
   | zero =>
    simp at hk;obtain⟨rfl,rfl⟩:=hk
    have e1:∀(l:fO) (j:Nat) (s:List A),i<=j->dX (fun j=>decide (j<i+0)) j l s=s:=by
     intro l;induction l with
     | nil=>intros;rfl
     | cons p l ih=>intro j s hj;rw[dX];simp only[show ¬j<i+0 by omega,decide_false];exact ih _ _ (by omega)
    have e2:∀(l:fO) (j:Nat) (m:List aq),i<=j->jU (fun j=>decide (j<i+0)) j l m=m:=by
     intro l;induction l with
     | nil=>intros;rfl
     | cons p l ih=>intro j s hj;rw[jU];simp only[show ¬j<i+0 by omega,decide_false];exact ih _ _ (by omega)
    rw[e1 _ _ _ (Nat.le_refl _),e2 _ _ _ (Nat.le_refl _)];exact⟨h1,h2,h3⟩
   | succ k =>
    have g1:=ih (i+1) _ _ h4 k o r (by simpa using hk);rw[dX,jU];simp only[show i<i+(k+1) by omega,decide_true,if_true];rw[show i+(k+1)=i+1+k by omega];exact g1
 have:=gen l 0 s m h k o r hk;simpa using this
end
section
variable {c:Ctx} {P:Program} {tt:TT} {G:aG} {ops:List Oper}

def aZ(L:Array Bool):Nat->Bool:=fun j=>L.getD j false

structure Hyp (P:Program) (G:aG) (tt:TT) (ops:List Oper) (l:fO) (s:List A) (m:List aq):Prop where
 yq:l.map (·.1)=ops
 ch:Ch P G tt ops l s m
 indep:bN ops (l.map fun p=>lR p.2)=true

theorem Hyp.Sq{l:fO}{s:List A}{m:List aq}(h:Hyp P G tt ops l s m){k:Nat}{o:Oper}(hk:ops[k]?=some o):∃r:Rc,l[k]?=some (o,r):=by
 rw[<-h.yq,List.getElem?_map] at hk;cases hl:l[k]? with
 | none=>rw[hl] at hk;cases hk
 | some p =>
  rw[hl] at hk;simp at hk;exact⟨p.2,by rw[<-hk]⟩
theorem Hyp.Lu{l:fO}{s:List A}{m:List aq}(h:Hyp P G tt ops l s m){k:Nat}{o:Oper}{r:Rc}(hk:l[k]?=some (o,r)):ops[k]?=some o:=by
 rw[<-h.yq,List.getElem?_map,hk];rfl

theorem wI:∀(os:List Oper) (acc:List Nat),(jJ acc os).length=acc.length+os.length
 | [],acc=>by simp[jJ]
 | o::os,acc=>by rw[jJ,wI os];simp;omega

/-- Two operations that meet: the later one only behind the earlier one. -/
theorem Hyp.bound{l:fO}{s:List A}{m:List aq}(h:Hyp P G tt ops l s m){S:Nat->Bool}(hS:DC S ops){i j:Nat}{oi oj:Oper}{ri rj:Rc}
  (hi:l[i]?=some (oi,ri)) (hj:l[j]?=some (oj,rj)) (aD:i<j) (hc:vu ops.toArray oi oj (lR ri) (lR rj)=true) (uU:S j=true):S i=true:=by
 have Sr:=h.indep;unfold bN at Sr;rw[Bool.and_eq_true] at Sr;have hlen:l.length=ops.length:=by rw[<-h.yq];simp
 have SQ:j<l.length:=by
  rcases Nat.lt_or_ge j l.length with h'|h'
  ·exact h'
  ·rw[List.getElem?_eq_none h'] at hj;cases hj
 have ZG:j<(jJ [] ops).length:=by rw[wI];simp;omega
 have e1:(ops.zip ((l.map fun p=>lR p.2).zip (jJ [] ops)))[j]?=some (oj,lR rj,(jJ [] ops)[j]):=by
  rw[List.getElem?_zip_eq_some.2];refine⟨h.Lu hj,?_⟩;rw[List.getElem?_zip_eq_some.2];refine⟨?_,List.getElem?_eq_getElem ZG⟩;rw[List.getElem?_map,hj];rfl
 have e2:([]++(ops.zip ((l.map fun p=>lR p.2).zip (jJ [] ops))).map fun p=>(p.1,p.2.1))[i]?=some (oi,lR ri):=by
  have hmi:i<(jJ [] ops).length:=by omega
  have:(ops.zip ((l.map fun p=>lR p.2).zip (jJ [] ops)))[i]?=some (oi,lR ri,(jJ [] ops)[i]):=by
   rw[List.getElem?_zip_eq_some.2];refine⟨h.Lu hi,?_⟩;rw[List.getElem?_zip_eq_some.2];refine⟨?_,List.getElem?_eq_getElem hmi⟩;rw[List.getElem?_map,hi];rfl
  rw[List.nil_append,List.getElem?_map,this];rfl
 have Yr:=rJ _ [] Sr.2 i j oi (lR ri) oj (lR rj) _ e2 e1 (by simpa using aD) hc;refine wH ops [] (by intro j i hb;simp at hb) (fun j o ho uU=>hS j o ho (by simpa using uU)) j i ?_ uU;rw[List.getD_eq_getElem?_getD,List.getElem?_eq_getElem ZG];exact Yr

/-- A place that is ready, in a state of some executed ones: the state's slots that it looks at are those of the text's order. -/
theorem Hyp.looks{l:fO}{s:List A}{m:List aq}(h:Hyp P G tt ops l s m){S:Nat->Bool}(hS:DC S ops){k:Nat}{o:Oper}{r:Rc}(hk:l[k]?=some (o,r))(hn:S k=false)
  (Lv:∀i,(∀S':Nat->Bool,DC S' ops->S' k=true->S' i=true)->i≠k->S i=true) :
  (∀t,t∈o.looksAt ops.toArray->(dX S 0 l s).getD t .af=(dX (fun j=>decide (j<k)) 0 l s).getD t .af) /\
  (∀b,b∈r.oc.rd\/(∃x,r.oc.u.lookup b=some x)->(jU S 0 l m).getD b .dead=(jU (fun j=>decide (j<k)) 0 l m).getD b .dead):=by
 constructor
 ·intro t ht;refine kI _ _ t l 0 s s rfl rfl ?_;intro j o' r' hj hd;rw[Nat.zero_add];rcases Nat.lt_trichotomy j k with aD|rfl|aD
  ·simp only[aD,decide_true];refine Lv j (fun S' OH gv=>h.bound OH hj hk aD ?_ gv) (by omega);simp only[vu,Bool.or_eq_true];refine .inl (.inl (.inl (.inr ?_)));simp only[OG,hd];exact mT.2 ht
  ·simp[hn]
  ·simp only[show ¬j<k by omega,decide_false];cases uU:S j with
   | false=>rfl
   | true =>
    have:=h.bound hS hk hj aD (by
     simp only[vu,Bool.or_eq_true];refine .inl (.inl (.inl (.inl (.inl ?_))));simp only[OG,hd];exact mT.2 ht) uU
    rw[hn] at this;cases this
 ·intro b hb;refine kJ _ _ b l 0 m m rfl rfl ?_;intro j o' r' x hj hd;rw[Nat.zero_add]
  have mem:∀ {r:Rc} {b:Nat} {x:aq},r.oc.u.lookup b=some x->b∈(lR r).2:=by
   intro r b x hx
   have key:∀u:List (Nat×aq),u.lookup b=some x->b∈u.map (·.1):=by
    intro u
    induction u with
    | nil=>intro h;cases h
    | cons p u ih =>
     obtain⟨b0,x0⟩:=p;intro h;rw[List.lookup_cons] at h;split at h
     ·rename_i he;simp[eq_of_beq he]
     ·simp[ih h]
   exact key _ hx
  have meet:∀ {l1 l2:List Nat} {b:Nat},b∈l1->b∈l2->rH l1 l2=true:=by
   intro l1
   induction l1 with
   | nil=>intro l2 b h;cases h
   | cons a l1 ih =>
    intro l2 b h1 h2;unfold rH;split
    ·rfl
    ·rename_i hn;rcases List.mem_cons.1 h1 with rfl|h1
     ·rw[mT.2 h2] at hn;cases hn
     ·exact ih h1 h2
  have iW:b∈(lR r').2:=mem hd;rcases Nat.lt_trichotomy j k with aD|rfl|aD
  ·simp only[aD,decide_true];refine Lv j (fun S' OH gv=>h.bound OH hj hk aD ?_ gv) (by omega);simp only[vu,Bool.or_eq_true];rcases hb with hb|⟨x',hb⟩
   ·exact .inr (meet iW hb)
   ·exact .inl (.inr (meet (mem hb) iW))
  ·simp[hn]
  ·simp only[show ¬j<k by omega,decide_false];cases uU:S j with
   | false=>rfl
   | true =>
    have:=h.bound hS hk hj aD (by
     simp only[vu,Bool.or_eq_true];rcases hb with hb|⟨x',hb⟩
     ·exact .inl (.inl (.inr (meet iW hb)))
     ·exact .inl (.inr (meet iW (mem hb)))) uU
    rw[hn] at this;cases this
theorem Hb:∀ {l1 l2:List Nat} {b:Nat},b∈l1->b∈l2->rH l1 l2=true:=by
 intro l1
 induction l1 with
 | nil=>intro l2 b h;cases h
 | cons a l1 ih =>
  intro l2 b h1 h2;unfold rH;split
  ·rfl
  ·rename_i hn;rcases List.mem_cons.1 h1 with rfl|h1
   ·rw[mT.2 h2] at hn;cases hn
   ·exact ih h1 h2
theorem wJ{r:Rc}{b:Nat}{x:aq}(hx:r.oc.u.lookup b=some x):b∈(lR r).2:=by
 have key:∀u:List (Nat×aq),u.lookup b=some x->b∈u.map (·.1):=by
  intro u
  induction u with
  | nil=>intro h;cases h
  | cons p u ih =>
   obtain⟨b0,x0⟩:=p;intro h;rw[List.lookup_cons] at h;split at h
   ·rename_i he;simp[eq_of_beq he]
   ·simp[ih h]
 exact key _ hx
end
section
variable {c:Ctx} {P:Program} {tt:TT} {G:aG} {ops:List Oper} {Q:Exit->Act->World->Prop}

theorem aF.refine{s:List A}{m:List aq}{a:Act}{w:World}{ids:dE}{d:Option Nat}{x y:A}(hs:aF c (_root_.Go.Proofs.YtijddijloelacaaGreat.Am.bf s d x) m a w ids)(hr:Ref x y):aF c (_root_.Go.Proofs.YtijddijloelacaaGreat.Am.bf s d y) m a w ids:=by
 rcases hr with rfl|⟨b,rfl,rfl⟩
 ·exact hs
 ·cases d with
  | none=>exact hs
  | some d =>
   have e:_root_.Go.Proofs.YtijddijloelacaaGreat.Am.bf s (some d) (.bool b)=(_root_.Go.Proofs.YtijddijloelacaaGreat.Am.bf s (some d) (.sb b)).set d (.bool b):=by simp[_root_.Go.Proofs.YtijddijloelacaaGreat.Am.bf]
   rw[e];by_cases hd:d<s.length
   ·refine hs.x9 d ?_;have:=hs.ev (.tmp d);simp only[Am.ev,Act.eval] at this;rw[show(_root_.Go.Proofs.YtijddijloelacaaGreat.Am.bf s (some d) (.sb b)).getD d .af=.sb b by simp[_root_.Go.Proofs.YtijddijloelacaaGreat.Am.bf,List.getD_eq_getElem?_getD,hd]] at this;rw[this.iI];exact .aI (.bool _)
   ·rw[List.set_eq_of_length_le (by simp[_root_.Go.Proofs.YtijddijloelacaaGreat.Am.bf];omega)];exact hs

def Vf(L:Array Bool):Nat:=L.toList.countP (!·)
theorem countP_set:∀(l:List Bool) (i:Nat) (hi:i<l.length),l[i]=false->(l.set i true).countP (!·)+1=l.countP (!·)
 | [],_,hi,_=>by simp at hi
 | x::l,0,_,hf=>by simp at hf;subst hf;simp
 | x::l,i+1,hi,hf=>by
  have:=countP_set l i (by simpa using hi) (by simpa using hf);rw[List.set_cons_succ,List.countP_cons,List.countP_cons];omega
theorem Ft{L:Array Bool}{i:Nat}(hi:i<L.size)(hf:L[i]=false):Vf (L.setIfInBounds i true)+1=Vf L:=by
 unfold Vf;rw[Array.toList_setIfInBounds];exact countP_set L.toList i (by simpa using hi) (by simpa using hf)

theorem uV:∀(os:List Oper) (k:Nat),Bj k os=true->∀j o,os[j]?=some o->∀e∈o.after,Region.binds .any e=true->e.on<k+j
 | [],_,_,j,o,h,_,_,_=>by simp at h
 | o1::os,k,h,j,o,hj,e,he,hb=>by
  simp only[Bj,Bool.and_eq_true,List.all_eq_true] at h;cases j with
  | zero =>
   simp at hj;subst hj;have:=h.1 e (by simpa using he);simp[hb] at this;omega
  | succ j =>
   have:=uV os (k+1) h.2 j o (by simpa using hj) e he hb;omega

theorem Hc(aJ:bp P tt)(hG:G.ok c){l:fO}{s:List A}{m:List aq}(h:Hyp P G tt ops l s m)
  (hQ:∀a w ids,aF c (dX jx 0 l s) (jU jx 0 l m) a w ids->Q .normal a w) :
  ∀(fuel:Nat) (L:Array Bool) (a:Act) (w:World) (ids:dE),L.size=ops.length->Vf L<=fuel->DC (aZ L) ops ->
   aF c (dX (aZ L) 0 l s) (jU (aZ L) 0 l m) a w ids->wpAny P .any ops.toArray Q fuel L a w:=by
 have hlen:l.length=ops.length:=by rw[<-h.yq];simp
 have Vg:Bj 0 ops=true:=by have:=h.indep;unfold bN at this;rw[Bool.and_eq_true] at this;exact this.1
 have done:∀(L:Array Bool) (a:Act) (w:World) (ids:dE),L.size=ops.length->Region.ready .any ops.toArray L=[] ->
   aF c (dX (aZ L) 0 l s) (jU (aZ L) 0 l m) a w ids->Q .normal a w:=by
  intro L a w ids hL hr hs
  have all:∀j,j<ops.length->aZ L j=true:=by
   intro j
   induction j using Nat.strongRecOn with
   | _ j ih =>
    intro hj;cases uU:aZ L j with
    | true=>rfl
    | false =>
     exfalso
     have:j∈Region.ready .any ops.toArray L:=by
      rw[mem_ready];have hjL:j<L.size:=by omega
      refine⟨?_,ops[j],by simp[hj],?_⟩
      ·unfold aZ at uU;simp[Array.getD_eq_getD_getElem?,hjL] at uU ⊢;exact uU
      ·intro e he hb;have:=uV ops 0 Vg j ops[j] (List.getElem?_eq_getElem hj) e he hb;exact ih e.on (by omega) (by omega)
     rw[hr] at this;cases this
  have e1:dX (aZ L) 0 l s=dX jx 0 l s:=by
   apply Bh (by simp[pA]);intro t;refine kI _ _ t l 0 s s rfl rfl ?_;intro j o r hj _
   have:j<l.length:=by
    rcases Nat.lt_or_ge j l.length with h'|h'
    ·exact h'
    ·rw[List.getElem?_eq_none h'] at hj;cases hj
   simp only[Nat.zero_add,jx];exact all j (by omega)
  have e2:jU (aZ L) 0 l m=jU jx 0 l m:=by
   apply Bi (by simp[nm]);intro t;refine kJ _ _ t l 0 m m rfl rfl ?_;intro j o r x hj _
   have:j<l.length:=by
    rcases Nat.lt_or_ge j l.length with h'|h'
    ·exact h'
    ·rw[List.getElem?_eq_none h'] at hj;cases hj
   simp only[Nat.zero_add,jx];exact all j (by omega)
  rw[e1,e2] at hs;exact hQ a w ids hs
 have one:∀(L:Array Bool) (a:Act) (w:World) (ids:dE) (i:Nat),L.size=ops.length->DC (aZ L) ops ->
   aF c (dX (aZ L) 0 l s) (jU (aZ L) 0 l m) a w ids->i∈Region.ready .any ops.toArray L->∀K:Act->World->Prop,
   (∀a w ids,DC (aZ (L.setIfInBounds i true)) ops->aF c (dX (aZ (L.setIfInBounds i true)) 0 l s) (jU (aZ (L.setIfInBounds i true)) 0 l m) a w ids->K a w)->wpOp P ops.toArray Q i K a w:=by
  intro L a w ids i hL Ss hs hi K hK;rw[mem_ready] at hi;obtain⟨OI,o,ho,LH⟩:=hi
  have Bk:i<L.size:=by
   rcases Nat.lt_or_ge i L.size with h'|h'
   ·exact h'
   ·simp[Array.getD_eq_getD_getElem?,h'] at OI
  have Vh:aZ L i=false:=by
   unfold aZ;simp[Array.getD_eq_getD_getElem?,Bk] at OI ⊢;exact OI
  have NO:ops[i]?=some o:=by simpa using ho
  obtain⟨r,hk⟩:=h.Sq NO
  have OH:∀j,aZ (L.setIfInBounds i true) j=(aZ L j||j==i):=by
   intro j;unfold aZ;by_cases hj:j=i
   ·subst hj;simp[Array.getD_eq_getD_getElem?,Bk]
   ·simp[Array.getD_eq_getD_getElem?,hj,Ne.symm hj]
  have Lw:DC (aZ (L.setIfInBounds i true)) ops:=by
   intro j oj hj uU e he hb;rw[OH] at uU ⊢;rw[Bool.or_eq_true] at uU ⊢;rcases uU with uU|uU
   ·exact .inl (Ss j oj hj uU e he hb)
   ·have:j=i:=by simpa using uU
    subst this;rw[NO] at hj;cases hj;exact .inl (LH e he hb)
  obtain⟨Us,hbk⟩:=h.looks Ss hk Vh (fun i' bV hne=>by
   have:=bV _ Lw (by rw[OH];simp);rw[OH,Bool.or_eq_true] at this;rcases this with h1|h1
   ·exact h1
   ·exact absurd (by simpa using h1) hne)
  obtain⟨SC,hex,Yn⟩:=Sn l s m h.ch i o r hk
  have Pz:dX (aZ (L.setIfInBounds i true)) 0 l s=bf (dX (aZ L) 0 l s) o.dst r.v :=
   OD _ _ l i s o r hk OH Vh (fun j o' r' hj oN fM hne=>by
    cases uU:aZ L j with
    | false=>rfl
    | true =>
     have:=h.bound Ss hk oN hj (by
      simp only[vu,Bool.or_eq_true];refine .inl (.inl (.inl (.inl (.inr ?_))));rw[fM];cases hd:o.dst with
      | none=>exact absurd hd hne
      | some d=>simp only[Py];exact Nat.beq_refl _) uU
     rw[Vh] at this;cases this)
  have PA:jU (aZ (L.setIfInBounds i true)) 0 l m=gK (jU (aZ L) 0 l m) r.oc.u :=
   OE _ _ l i m o r hk OH Vh (fun j o' r' b x x' hj oN hu XB=>by
    cases uU:aZ L j with
    | false=>rfl
    | true =>
     have:=h.bound Ss hk oN hj (by
      simp only[vu,Bool.or_eq_true];exact .inl (.inr (Hb (wJ XB) (wJ hu)))) uU
     rw[Vh] at this;cases this)
  unfold wpOp;rw[ho];simp only
  have wanted:Region.wanted o (yielded ops.toArray a.tmps)=r.ex:=by
   unfold Region.wanted;unfold Gd at SC;split at SC
   ·rename_i hg;rw[hg];simp[SC]
   ·rename_i j want hg
    have ZH:∀d,mQ ops j=some d->d∈o.looksAt ops.toArray:=by
     intro d g1;unfold Oper.looksAt;rw[hg];have:(ops.toArray[j]?).bind (·.dst)=some d:=by simpa[mQ] using g1
     simp only[this];simp
    rcases SC with⟨d,b,g1,g2,g3⟩|⟨d,g1,g2,g3⟩
    ·rw[hg];simp only;have oo:=hs.ev (.tmp d);simp only[ev,Act.eval] at oo;rw[Us d (ZH d g1),g2] at oo;rw[jq g1 oo.dL,g3];cases b<;>cases want<;>rfl
    ·rw[hg];simp only;have oo:=hs.ev (.tmp d);simp only[ev,Act.eval] at oo;rw[Us d (ZH d g1),g2] at oo;obtain⟨us,hu,yz,_⟩:=oo.jC;have Ho:us=[]:=by simpa using yz
     subst Ho
     have hy:yielded ops.toArray a.tmps j=none:=by
      unfold yielded;have h1:(ops.toArray[j]?).bind (·.dst)=some d:=by simpa[mQ] using g1
      rw[h1];rcases Nat.lt_or_ge d a.tmps.size with h|h
      ·have h2:a.tmps[d]?=some (.tuple #[]):=by simpa[Array.getD_eq_getD_getElem?,h] using hu
       simp[h2]
      ·simp[h]
     rw[hy,g3];rfl
  rw[wanted];cases Vi:r.ex with
  | false =>
   obtain⟨q1,q2,q3⟩:=Yn Vi;rw[if_neg (by simp)];refine hK _ w ids Lw ?_;rw[Pz,PA,q1,q2];exact hs.bf o.dst (.aI (.tup [] [] rfl (fun _ h=>by simp at h)))
  | true =>
   rw[if_pos rfl];obtain⟨⟨uT,Ys⟩,Yt⟩:=hex Vi;left
   have Yu:Out P G tt o uT (dX (aZ L) 0 l s) (jU (aZ L) 0 l m) r.oc:=by
    refine Ys.local ?_ ?_ (by simp[nm])
    ·intro x hx;cases x with
     | tmp t =>
      have:t∈o.looksAt ops.toArray:=by
       unfold Oper.looksAt;refine List.mem_append.2 (.inl ?_);rw[List.mem_filterMap];exact⟨.tmp t,by simpa using hx,rfl⟩
      simp only[ev];exact(Us t this).symm
     | const v=>rfl
     | global g=>rfl
     | func f=>rfl
    ·intro b hb;exact(hbk b (.inl hb)).symm
   refine G' aJ hG hs Yu ?_;intro a' w' ab bH;refine hK a' w' ab Lw ?_;rw[Pz,PA];exact bH.refine Yt
 intro fuel
 induction fuel with
 | zero =>
  intro L a w ids hL hu Ss hs
  have hr:Region.ready .any ops.toArray L=[]:=by
   apply List.eq_nil_iff_forall_not_mem.2;intro i hi;rw[mem_ready] at hi;obtain⟨OI,_⟩:=hi
   have Bk:i<L.size:=by
    rcases Nat.lt_or_ge i L.size with h'|h'
    ·exact h'
    ·simp[Array.getD_eq_getD_getElem?,h'] at OI
   have hf:L[i]=false:=by simpa[Array.getD_eq_getD_getElem?,Bk] using OI
   have:=Ft Bk hf;omega
  exact⟨hr,done L a w ids hL hr hs⟩
 | succ fuel ih =>
  intro L a w ids hL hu Ss hs;refine⟨fun hr=>done L a w ids hL hr hs,?_⟩;intro i hi;refine one L a w ids i hL Ss hs hi _ ?_;intro a' w' ab Lw bH;refine ih _ a' w' ab (by simp[hL]) ?_ Lw bH;rw[mem_ready] at hi;obtain⟨OI,_⟩:=hi
  have Bk:i<L.size:=by
   rcases Nat.lt_or_ge i L.size with h'|h'
   ·exact h'
   ·simp[Array.getD_eq_getD_getElem?,h'] at OI
  have hf:L[i]=false:=by simpa[Array.getD_eq_getD_getElem?,Bk] using OI
  have:=Ft Bk hf;omega

def lH:List Oper->Nat
 | []=>0
 | o::os=>match Fs o.op with
  | true=>lH os+1
  | false=>lH os
def Vj:List (Nat×Nat)->Nat
 | []=>0
 | (_,n)::l=>n+Vj l
def Bl:Nat->List aq->(List aq->Prop)->Prop
 | 0,m,K=>K m
 | n+1,m,K=>GD m .dead fun m'=>Bl n m' K
theorem Fu:∀(n:Nat) (m:List aq) (K:List aq->Prop),Bl n m K=K (m++List.replicate n .dead)
 | 0,m,K=>by simp[Bl]
 | n+1,m,K=>by rw[Bl,sQ,Fu n];simp[List.replicate_succ]

theorem tT(rv:List (Nat×Nat))(aJ:bp P tt)(hm:P.follows .mixedOrders=true){QA:Exit->List A->List aq->Prop}{s:List A}{m:List aq}{id:Nat}{l:List Oper}
  (h:Bl (lH l+Vj rv) m fun m'=>dz m.length fun b=>uS P G tt l rv l 0 b s m' fun s' NW yn=>bN l yn=true/\QA .normal s' NW):WA P G (.region id l.toArray true) QA s m:=by
 rw[Fu,aO] at h;obtain⟨Yv,h1,h2,h3,h4⟩:=yp rv l 0 _ _ _ _ h;unfold WA;intro c a w ids hG hs;refine wp_region_any hm ?_;have hb:Bw w.heap.size w { w with drawn:=w.drawn+1 }:=⟨rfl,rfl,rfl,Nat.le_refl _,fun _ _=>rfl,eM.succ _⟩
 have bH:aF c s (m++List.replicate (lH l+Vj rv) .dead) a { w with drawn:=w.drawn+1 } (ids++List.replicate (lH l+Vj rv) .dead):=by
  refine hs.grow hb _ _ (by simp) ?_ ?_ ?_ ?_
  ·intro i g1 g2;simp only[List.getElem_replicate];rfl
  ·intro p hp;rw[List.mem_replicate] at hp;cases hp.2
  ·intro p hp;rw[List.mem_replicate] at hp;cases hp.2
  ·intro i j p q x g1 g2 _ _;rw[List.getElem?_replicate] at g1;split at g1<;>cases g1
 have hyp:Hyp P G tt l Yv s (m++List.replicate (lH l+Vj rv) .dead):=⟨h1,h2,h3⟩
 have hz:∀j,aZ (Array.replicate l.toArray.size false) j=false:=by
  intro j;unfold aZ;simp[Array.getD_eq_getD_getElem?,Array.getElem?_replicate];split<;>rfl
 have wN:∀(r:fO) (i:Nat) (s:List A),dX (aZ (Array.replicate l.toArray.size false)) i r s=s:=by
  intro r;induction r with
  | nil=>intros;rfl
  | cons p r ih=>intro i s;rw[dX];simp only[hz];exact ih _ _
 have Yw:∀(r:fO) (i:Nat) (m:List aq),jU (aZ (Array.replicate l.toArray.size false)) i r m=m:=by
  intro r;induction r with
  | nil=>intros;rfl
  | cons p r ih=>intro i s;rw[jU];simp only[hz];exact ih _ _
 refine Hc aJ hG hyp (fun a w ids hs=>⟨_,_,ids,h4,hs⟩) _ _ a _ _ (by simp) ?_ ?_ (by rw[wN,Yw];exact bH)
 ·unfold Vf;simp;rw[List.countP_replicate];simp
 ·intro j o _ hS;rw[hz] at hS;cases hS
theorem bP(aJ:bp P tt)(hm:P.follows .mixedOrders=true){QA:Exit->List A->List aq->Prop}{s:List A}{m:List aq}{id:Nat}{l:List Oper}
  (h:Bl (lH l) m fun m'=>dz m.length fun b=>uS P G tt l [] l 0 b s m' fun s' NW yn=>bN l yn=true/\QA .normal s' NW):WA P G (.region id l.toArray true) QA s m:=tT [] aJ hm h
end
section
variable {c:Ctx} {s:List A} {m:List aq} {a:Act} {w w':World} {ids ab:dE} {P:Program} {im bo:Nat->Prop} {tt:TT} {G:aG}
variable {next:Act->World->Prop} {Q:Exit->Act->World->Prop} {o:Oper}
/-- A row of ours is written no more: it is a value. -/
theorem mW{code:Code}{Q:Exit->List A->List aq->Prop}(b:Nat)(h:Ob b s m fun s' m'=>WA P G code Q s' m'):WA P G code Q s m:=by
 unfold WA;intro c a w ids hG hs;obtain⟨s',m',ab,h',bH⟩:=uC hs h;unfold WA at h';exact h' c a w ab hG bH

/-- A row of nil slices is a nest. -/
theorem MZ{code:Code}{Q:Exit->List A->List aq->Prop}(b:Nat)(aN:TypeId)(sz:Nat){ty:TypeId}{n:Nat}{row:Nat->List A}(hb:m.getD b .dead=.row ty 1 n row)
  (hz:∀i,i<n->row i=[.aV]) (h:qk m b (.nest ty aN sz n none (fun _=>0) (fun _ _=>[])) fun m'=>WA P G code Q s m'):WA P G code Q s m:=by
 rw[eQ] at h;unfold WA at h ⊢;intro c a w ids hG hs;obtain⟨ly,hm⟩:=getD_some (by simp) hb;have eR:b<ids.length:=by rw[hs.aL];exact ly
 have hB:=hs.bC b ly eR;rw[hm] at hB;cases hp:ids[b] with
 | dead=>rw[hp] at hB;exact hB.elim
 | av=>rw[hp] at hB;exact hB.elim
 | cE vs=>rw[hp] at hB;exact hB.elim
 | aQ =>
  rw[hp] at hB;refine h c a w ids hG ⟨hs.defers,hs.len,hs.bI,by simp[hs.aL],?_,hs.aj,hs.ar,hs.frame,hs.dZ,hs.cE⟩;intro k hk gv;rw[List.getElem_set];split
  ·rename_i he;subst he;rw[hp];exact hB
  ·exact hs.bC k (by simpa using hk) gv
 | lv p =>
  rw[hp] at hB;have bZ:ids[b]?=some (.lv p):=by rw[List.getElem?_eq_getElem eR,hp]
  let p':Id:=⟨p.ao,p.k,p.n,p.sz,fun _=>False,p.uc⟩
  have Ph:∀x,p'.has x->x=p.ao:=fun x h=>by
   rcases h with h|h
   ·exact h
   ·exact False.elim h
  have mem:∀(k:Nat) r,(ids.set b (.lv p'))[k]?=some (dT.lv r)->(k=b/\r=p')\/(k≠b/\ids[k]?=some (.lv r)):=by
   intro k r h;rw[List.getElem?_set] at h;split at h
   ·rename_i e;subst e;cases h;exact .inl ⟨rfl,rfl⟩
   ·rename_i hne;exact .inr ⟨fun e=>hne e.symm,h⟩
  have aU:∀r,dT.lv r∈ids.set b (.lv p')->∀x,r.has x->x<w.heap.size/\(w.heap.size<=x\/∃(b:Nat) (p:Id),ids[b]?=some (.lv p)/\p.has x):=by
   intro r hr x hx;obtain⟨k,hk⟩:=List.getElem?_of_mem hr;rcases mem k r hk with⟨_,rfl⟩|⟨_,e⟩
   ·rw[Ph x hx];exact⟨(hs.fresh p (List.mem_of_getElem? bZ)).2,.inr ⟨b,p,bZ,.inl rfl⟩⟩
   ·exact⟨(hs.ar r (List.mem_of_getElem? e) x hx).2,.inr ⟨k,r,e,hx⟩⟩
  obtain⟨dJ,dB⟩:=hs.cP (w':=w) (ab:=ids.set b (.lv p')) (Nat.le_refl _) (fun _ _ _=>rfl) aU
  have hd:∀(k:Nat) r,ids[k]?=some r->r≠.dead->∃q,(ids.set b (.lv p'))[k]?=some q/\iN r q:=by
   intro k r hr _;rw[List.getElem?_set];split
   ·rename_i e;subst e;rw[bZ] at hr;cases hr;exact⟨_,rfl,p',rfl,rfl,rfl,rfl,rfl,fun _ _ h=>h⟩
   ·exact⟨r,hr,eU r⟩
  refine h c a w _ hG (hs.lU (ab:=ids.set b (.lv p')) rfl rfl rfl (Nat.le_refl _) (fun _ _ _=>rfl) aU (fun vs h=>by
   rcases List.mem_or_eq_of_mem_set h with h|h
   ·exact h
   ·cases h) ?_ rfl (by simp[hs.aL]) (fun i h h'=>(hs.bI i h h').mM dJ dB hd) ?_)
  ·intro k k' r r' x e1 e2 x1 x2;rcases mem k r e1 with⟨rfl,rfl⟩|⟨ne,e⟩<;>rcases mem k' r' e2 with⟨rfl,rfl⟩|⟨ne',e'⟩
   ·rfl
   ·exact absurd (hs.aj _ _ p r' x bZ e' (.inl (Ph x x1)) x2).symm ne'
   ·exact absurd (hs.aj _ _ r p x e bZ x1 (.inl (Ph x x2))) ne
   ·exact hs.aj k k' r r' x e e' x1 x2
  ·intro k hk gv;simp only[List.length_set] at hk gv;rw[List.getElem_set,List.getElem_set];split
   ·obtain⟨g1,g2,vs,h1,h2,h3,h4,h5⟩:=hB;refine⟨g1,g2,(fun h=>h.elim),vs,h1,h2,by rw[Nat.mul_one] at h3;exact h3,fun _=>none,?_⟩;intro i hi _ hiv;refine⟨.inl ⟨?_,rfl,rfl⟩,(fun x h=>by cases h),(fun j _ _ _ h=>absurd rfl h)⟩;have:=(h5 i 0 hi (by rw[h4 i hi];omega) (by omega)).1;simp only[hz i hi,List.getElem_cons_zero,Nat.mul_one,Nat.add_zero] at this;exact(Rel.aI (ids:=[]) this).dr
   ·exact(hs.bC k hk gv).mM dJ dB hd (fun _ _ _ _=>rfl)
end
def OJ(tt:TT)(rv:ResultVar)(s:List A)(m:List aq)(K:A->Prop):Prop :=
 match rv with
 | .tmp t=>fd 3 (s.getD t .af) K
 | .cell p t=>lM tt t (s.getD p .af) m fun v _=>fd 3 v K
def Lx(tt:TT):List ResultVar->List A->List aq->(List A->Prop)->Prop
 | [],_,_,K=>K []
 | r::rs,s,m,K=>OJ tt r s m fun v=>Lx tt rs s m fun vs=>K (v::vs)
def Wj(m:List aq):List Nat->Bool
 | []=>true
 | b::bs=>match Nat.blt b m.length with
  | true=>Wj m bs
  | false=>false
theorem wK{m:List aq}:∀ {l:List Nat},Wj m l=true->∀b∈l,b<m.length
 | [],_,b,hb=>by simp at hb
 | x::xs,h,b,hb=>by
  unfold Wj at h;split at h
  ·rename_i hx;rcases List.mem_cons.1 hb with rfl|hb
   ·exact Nat.le_of_ble_eq_true hx
   ·exact wK h b hb
  ·cases h
def Bm(k:Nat)(m:List aq)(rv:A)(r:A)(mo:List aq):Prop :=
 SS (oq k 0++LM (oq k 0) (reach m 8 rv)) fun ρ=>match Wj m ρ,oe ρ with
  | true,true=>fd 4 (iL (bU (eZ ρ 0)) 5 rv) fun rv'=>qt (ρ.map fun b=>gV (bU (eZ ρ 0)) 4 (m.getD b .dead)) fun m'=>rQ [rv'] m' [r] mo
  | _,_=>False
def Yx(tt:TT)(fn:Func)(k:Nat)(r:A)(mo:List aq):Exit->List A->List aq->Prop
 | .ret,s,m=>Lx tt fn.results.toList s m fun vs=>match vs with
  | [v]=>Bm k m v r mo
  | vs=>Bm k m (.tup vs) r mo
 | .normal,s,m=>Lx tt fn.results.toList s m fun vs=>match vs with
  | [v]=>Bm k m v r mo
  | vs=>Bm k m (.tup vs) r mo
 | _,_,_=>False

section
variable {c:Ctx} {s:List A} {m:List aq} {a:Act} {w w':World} {ids ab:dE} {P:Program} {im bo:Nat->Prop} {tt:TT} {G:aG}

theorem Ly(aJ:bp P tt)(hs:aF c s m a w ids)(rv:ResultVar){K:A->Prop}(h:OJ tt rv s m K):
  ∃r v,(uH a.tmps rv).run P w=.ok v w/\K r/\Rel ids (au c ids w) w r v:=by
 cases rv with
 | tmp t =>
  simp only[OJ,eI] at h;exact⟨_,a.tmps.getD t undef,rfl,h,hs.ev (.tmp t)⟩
 | cell p t =>
  simp only[OJ,eI] at h;obtain⟨ad,r,u,h1,h2,h3,h4⟩:=wA (P:=P) aJ hs (hs.ev (.tmp p)) h;refine⟨_,u,?_,h3,h4⟩;have h1:a.tmps.getD p undef=.pointer (some ad):=h1;show(do loadVar t (<-asAddr (a.tmps.getD p undef)):Sem Value).run P w=_;rw[h1];simp[asAddr,h2]
theorem Bn(aJ:bp P tt)(hs:aF c s m a w ids):∀(rs:List ResultVar) {K:List A->Prop},Lx tt rs s m K ->
  ∃(xs:List A) (vs:List Value),(rs.mapM (uH a.tmps)).run P w=.ok vs w/\K xs /\
   vs.length=xs.length/\∀j (h:j<xs.length) (h':j<vs.length),Rel ids (au c ids w) w xs[j] vs[j]
 | [],K,h=>⟨[],[],by simp,h,rfl,fun j h=>absurd h (Nat.not_lt_zero _)⟩
 | rv::rs,K,h=>by
  obtain⟨r,v,h1,h2,h3⟩:=Ly (P:=P) aJ hs rv h;obtain⟨xs,vs,g1,g2,g3,g4⟩:=Bn aJ hs rs h2;refine⟨r::xs,v::vs,?_,g2,by simp[g3],?_⟩
  ·rw[List.mapM_cons];simp only[Sem.run_bind,h1,Result.andThen_ok,g1];rfl
  ·intro j hj cj;cases j with
   | zero=>exact h3
   | succ j=>exact g4 j (by simpa using hj) (by simpa using cj)

/-- Some blocks alone, and one value. -/
theorem aF.sub(hs:aF c s m a w ids){ρ:List Nat}(pH:ρ.Nodup)(xi:∀b∈ρ,b<m.length){x:A}{v:Value}(hx:Rel ids (au c ids w) w x v):
  aF c [iL (bU (eZ ρ 0)) 5 x] (ρ.map fun b=>gV (bU (eZ ρ 0)) 4 (m.getD b .dead)) ⟨#[v],[]⟩ w (ρ.map fun b=>ids.getD b .dead):=by
 have xQ:∀b,b∈ρ->∃p,ids[b]?=some p/\ids.getD b .dead=p/\aX ids (au c ids w) w (m.getD b .dead) p:=by
  intro b hb;obtain⟨p,h1,h2⟩:=hs.Dd (xi b hb);exact⟨p,h1,by rw[List.getD_eq_getElem?_getD,h1];rfl,h2⟩
 have rp:∀(j:Nat) b,ρ[j]?=some b->(ρ.map fun b=>ids.getD b .dead)[j]?=ids[b]?:=by
  intro j b hj;obtain⟨p,h1,h2,_⟩:=xQ b (List.mem_of_getElem? hj);rw[List.getElem?_map,hj,h1];simp only[Option.map_some,h2]
 have jS:∀(i:Nat) p,(ρ.map fun b=>ids.getD b .dead)[i]?=some p->∃b,ρ[i]?=some b/\ids[b]?=some p:=by
  intro i p hi;cases hj:ρ[i]? with
  | none=>rw[List.getElem?_map,hj] at hi;cases hi
  | some b=>exact⟨b,rfl,by rw[<-rp i b hj];exact hi⟩
 have hτ:rn (bU (eZ ρ 0)) ids (ρ.map fun b=>ids.getD b .dead):=by
  have key:∀b b',eZ ρ 0 b=some b'->(ρ.map fun b=>ids.getD b .dead)[b']?=ids[b]?:=by
   intro b b' hb;obtain⟨h1,h2⟩:=fT _ _ _ _ hb;exact rp _ _ (by simpa using h2)
  exact⟨fun b b' p h1 h2=>⟨p,by rw[key b b' h1];exact h2,rfl⟩,fun b b' p h1 h2 _=>⟨p,by rw[key b b' h1];exact h2,gU p⟩,fun b b' p h1 h2=>⟨p,by rw[key b b' h1];exact h2,rfl⟩,fun b b' h1 h2=>by rw[key b b' h1];exact h2,fun b b' h1 h2=>by rw[key b b' h1];exact h2⟩
 have hi:∀b,au c ids w b->au c (ρ.map fun b=>ids.getD b .dead) w b:=by
  rintro b (h|⟨h1,h2,h3⟩)
  ·exact .inl h
  ·refine .inr ⟨h1,h2,fun p hp=>?_⟩;obtain⟨i,hi⟩:=List.getElem?_of_mem hp;obtain⟨b',_,h5⟩:=jS i _ hi;exact h3 p (List.mem_of_getElem? h5)
 refine⟨rfl,rfl,?_,by simp,?_,?_,?_,hs.frame,hs.dZ,?_⟩
 ·intro i h1 h2;have:i=0:=by simp at h1;omega
  subst this;exact dN hi (fun _ _=>rfl) hτ 5 _ _ hx
 ·intro i h1 h2;have cy:i<ρ.length:=by simpa using h1
  obtain⟨p,q1,q2,q3⟩:=xQ ρ[i] (List.getElem_mem cy);rw[List.getElem_map,List.getElem_map,q2];exact kz hi (fun _ _=>rfl) hτ 4 (fun _ _ _ _=>rfl) q3
 ·intro i j p q x h1 h2 h3 h4;obtain⟨b1,e1,e2⟩:=jS i _ h1;obtain⟨b2,e3,e4⟩:=jS j _ h2;have:=hs.aj b1 b2 p q x e2 e4 h3 h4;subst this;exact(List.getElem?_inj (aT e1) pH).1 (e1.trans e3.symm)
 ·intro p hp x hx;obtain⟨i,hi⟩:=List.getElem?_of_mem hp;obtain⟨b,_,h3⟩:=jS i _ hi;exact hs.ar p (List.mem_of_getElem? h3) x hx
 ·intro vs hv;obtain⟨i,hi⟩:=List.getElem?_of_mem hv;obtain⟨b,_,h3⟩:=jS i _ hi;exact hs.cE vs (List.mem_of_getElem? h3)

theorem uW(hs:aF c s m a w ids){k:Nat}{rv r:A}{mo:List aq}{v:Value}(hx:Rel ids (au c ids w) w rv v)(h:Bm k m rv r mo):∃ab,aF c [r] mo ⟨#[v],[]⟩ w ab:=by
 unfold Bm at h;rw[xM] at h;split at h
 ·rename_i h1 h2;rw[eI,dQ] at h;exact jg h _ _ _ _ (hs.sub (iV h2) (wK h1) hx)
 ·exact h.elim

theorem wL(aJ:bp P tt)(hs:aF c s m a w ids){fn:Func}{k:Nat}{r:A}{mo:List aq}(h:Lx tt fn.results.toList s m fun vs=>match vs with
  | [v]=>Bm k m v r mo
  | vs=>Bm k m (.tup vs) r mo):∃v ab,(results fn a.tmps).run P w=.ok v w/\aF c [r] mo ⟨#[v],[]⟩ w ab:=by
 obtain⟨xs,vs,h1,h2,h3,h4⟩:=Bn (P:=P) aJ hs _ h;have bW:=rC (P:=P) (a:=a) h1;split at h2
 ·rename_i x;have:vs.length=1:=by simpa using h3
  match vs,this with
  | [v],_ =>
   obtain⟨ab,bH⟩:=uW hs (h4 0 (by simp) (by simp)) h2;exact⟨v,ab,bW,bH⟩
 ·rename_i hne
  have hne:¬vs.length=1:=by
   intro e;rw[e] at h3
   match xs,h3 with
   | [x],_=>exact hne x rfl
  rw[dif_neg (by simpa using hne)] at bW;obtain⟨ab,bH⟩:=uW hs (.tup xs vs h3 h4) h2;exact⟨_,ab,bW,bH⟩

theorem aM.ah(aJ:bp P tt){f:FuncId}{fn:Func}{cd:Code}{args:List A}{mi:List aq}{r:A}{mo:List aq}(hf:P.funcs[f]?=some fn)(hb:fn.body=some cd)
  (hn : (fn.name == "runtime.NumGoroutine") = false) (k : Nat) (hk : fn.ntmps - args.length = k)
  (h:fl (args++List.replicate k .af) fun s=>dz mi.length fun n=>WA P G cd (Yx tt fn n r mo) s mi):aM P G f args mi r mo:=by
 rw[ck,aO] at h;refine⟨⟨fn,cd,hf,hb,hn⟩,?_⟩;intro im w vs gs ids hG hs;refine calls_of_wp hf hb ?_;unfold WA at h;have hl:vs.length=args.length:=by have:=hs.len;simpa using this
 have og:aF ⟨w,im,gj ids,gs⟩ (args++List.replicate k .af) mi ⟨vs.toArray++Array.replicate (fn.ntmps-vs.toArray.size) undef,[]⟩ w ids:=by
  refine⟨rfl,by simp[hl,hk],?_,hs.aL,hs.bC,hs.aj,hs.ar,hs.frame,hs.dZ,hs.cE⟩;intro i h1 h2;by_cases hi:i<args.length
  ·rw[List.getElem_append_left hi,Array.getElem_append_left (by simp;omega)];exact hs.bI i hi (by simp;omega)
  ·rw[List.getElem_append_right (by omega)];simp only[List.getElem_replicate];exact .aI (.af _)
 refine wp_mono (h ⟨w,im,gj ids,gs⟩ _ w ids hG og) ?_;rintro e a' w' ⟨s',m',ab,hq,bH⟩;cases e with
 | ret =>
  obtain⟨v,jv,h1,h2⟩:=wL (P:=P) aJ bH hq;exact⟨bH.defers,v,h1,v,jv,rfl,h2⟩
 | normal =>
  obtain⟨v,jv,h1,h2⟩:=wL (P:=P) aJ bH hq;exact⟨bH.defers,v,h1,v,jv,rfl,h2⟩
 | _=>exact hq.elim

/-- A contract serves a state that may be taken for its own. -/
theorem aM.fit{f:FuncId}{args tH:List A}{mi Yy:List aq}{r:A}{mo:List aq}(h:aM P G f args mi r mo)(hl:Yy.length=mi.length)(hf:rQ tH Yy args mi):aM P G f tH Yy r mo:=by
 refine⟨h.1,?_⟩;intro im w vs gs ids hG hs;have bH:=hs.fit hf;rw[List.take_of_length_le (by rw[hs.aL,hl];exact Nat.le_refl _)] at bH;exact h.2 im w vs gs ids hG bH
end
end Go.Proofs.YtijddijloelacaaGreat.Am
namespace Go.Proofs.YtijddijloelacaaGreat.Am
variable [Inhabited cc]
/-- What a branch's test says, in plain words: all rules as one. -/
theorem ae:(∀(p:Prop) [Decidable p],(decide p=true)=p)/\(∀(p:Prop) [Decidable p],(decide p=false)=¬p)/\(∀(α:Type) [BEq α] [LawfulBEq α] (a b:α),((a==b)=true)=(a=b)) /\
  (∀(α:Type) [BEq α] [LawfulBEq α] (a b:α),((a==b)=false)=(a≠b))/\(∀(α:Type) [BEq α] [LawfulBEq α] (a b:α),((a != b)=true)=(a≠b))/\(∀(α:Type) [BEq α] [LawfulBEq α] (a b:α),((a != b)=false)=(a=b)) /\
  (∀(α:Type) (a b:α),(a≠b)=¬(a=b))/\(∀b:Bool,((!b)=true)=(b=false))/\(∀b:Bool,((!b)=false)=(b=true))/\(∀b:Bool,(¬b=true)=(b=false))/\(∀(p:Prop) [Decidable p],(¬¬p)=p) :=
 ⟨fun _ _=>by simp,fun _ _=>by simp,fun _ _ _ _ _=>by simp,fun _ _ _ _ _=>by simp,fun _ _ _ _ _=>by simp,fun _ _ _ _ _=>by simp,fun _ _ _=>rfl,fun _=>by simp,fun _=>by simp,fun _=>by simp,fun _ _=>by simp⟩
theorem QQ:(∀n:Nat,(n:Int).toNat=n)/\(∀a b:Bool,((a&&b)=true)=(a=true/\b=true))/\(∀a b:Bool,((a||b)=true)=(a=true\/b=true))/\(∀b:Bool,((!b)=true)=(b=false)) /\
  (∀a b:Bool,((a&&b)=false)=(a=false\/b=false))/\(∀a b:Bool,((a||b)=false)=(a=false/\b=false))/\(∀(p:Prop) [Decidable p],(decide p=true)=p)/\(∀(p:Prop) [Decidable p],(decide p=false)=¬p) :=
 ⟨fun _=>by simp,fun _ _=>by simp,fun _ _=>by simp,fun _=>by simp,fun a b=>by cases a<;>cases b<;>simp,fun _ _=>by simp,fun _ _=>by simp,fun _ _=>by simp⟩
theorem s9:(∀a b:Int,(a==b)=decide (a=b))/\(∀a b:Int,(a != b) = !decide (a=b))/\(∀a b:Bool,((a&&b)=true)=(a=true/\b=true))/\(∀a b:Bool,((a||b)=true)=(a=true\/b=true))/\(∀b:Bool,((!b)=true)=(b=false))/\(∀b:Bool,((!b)=false)=(b=true)) /\
  (∀a b:Bool,((a&&b)=false)=(a=false\/b=false))/\(∀a b:Bool,((a||b)=false)=(a=false/\b=false))/\(∀(p:Prop) [Decidable p],(decide p=true)=p)/\(∀(p:Prop) [Decidable p],(decide p=false)=¬p)/\((true=true)=True)/\((false=true)=False)/\((true=false)=False)/\((false=false)=True)/\(∀p:Prop,(p/\True)=p)/\(∀p:Prop,(p\/False)=p) :=
 ⟨fun _ _=>rfl,fun _ _=>rfl,fun _ _=>by simp,fun _ _=>by simp,fun _=>by simp,fun _=>by simp,fun a b=>by cases a<;>cases b<;>simp,fun _ _=>by simp,fun _ _=>by simp,fun _ _=>by simp,by simp,by simp,by simp,by simp,by simp,by simp⟩
section
variable {P:Program} {G:aG} {tt:TT} {Q:Exit->List A->List aq->Prop} {s:List A} {m:List aq}
theorem sq{x y:Code}(h:WA P G x (K9 (WA P G y Q) Q) s m):WA P G (.seq x y) Q s m:=cG h
theorem bk{id:Nat}{x:Code}(h:WA P G x (ya id Q) s m):WA P G (.block id x) Q s m:=bq h
theorem cd{t:Operand}{x y:Code}(h:Fg (ev s t) (WA P G x Q s m) (WA P G y Q s m)):WA P G (.cond t x y) Q s m:=bQ h
theorem sk(h:Q .normal s m):WA P G .skip Q s m:=bR h
theorem xt{id:Nat}(h:Q (.exit id) s m):WA P G (.exit id) Q s m:=bS h
theorem rt(h:Q .ret s m):WA P G .ret Q s m:=cH h
theorem rg(aJ:bp P tt){id:Nat}{l:List Oper}(h:mF P G tt l l s m (Q .normal)):WA P G (.region id l.toArray false) Q s m:=aS aJ h
theorem dw(aJ:bp P tt)(hm:P.follows .mixedOrders=true){id:Nat}{l:List Oper}
  (h:Bl (lH l) m fun m'=>dz m.length fun b=>uS P G tt l [] l 0 b s m' fun s' NW yn=>bN l yn=true/\Q .normal s' NW):WA P G (.region id l.toArray true) Q s m:=bP aJ hm h
end
theorem wf{k:IntKind}{n:Int}{K:A->Prop}(h2:K (.int k n))(h1:k.wrap n=n:=by first|exact cV (by omega)|exact cW (by omega)|exact fg (by omega)|exact dg (by omega)|exact dh (by omega)):WR k n K:=cU h1 h2
theorem az{k:IntKind}{n:Int}{K:A->Prop}(h:K (.int k (k.wrap n))):WR k n K:=cr h
theorem ai{l:List Oper}{f:List Fp}{q:Prop}(h2:q)(h1:bN l f=true:=by kernel_rfl):bN l f=true/\q:=⟨h1,h2⟩
theorem an{p q:Prop}(h2:q)(h1:p:=by first|omega|decide|(dsimp only;omega)|(simp at *;omega)):p/\q:=⟨h1,h2⟩
theorem fa{p:Prop}(h:p:=by first|exact rfl|exact trivial|exact Or.inl (fun _ _=>rfl)|exact(fun _=>rfl)|exact(fun _ _=>rfl)|exact Or.inl (fun _ hi=>absurd hi (Nat.not_lt_zero _))):p:=h
theorem fb{p q:Prop}(h2:q)(h:p:=by first|exact rfl|exact Or.inl (fun _ _=>rfl)|exact(fun _=>rfl)|exact(fun _ _=>rfl)):p/\q:=⟨h,h2⟩
def Wv(P:Program)(G:aG)(tt:TT)(Q:Exit->List A->List aq->Prop)(s:List A)(m:List aq):Code->Prop
 | .seq x y=>WA P G x (K9 (WA P G y Q) Q) s m
 | .block id x=>WA P G x (ya id Q) s m
 | .cond t x y=>Fg (ev s t) (WA P G x Q s m) (WA P G y Q s m)
 | .skip=>Q .normal s m
 | .exit id=>Q (.exit id) s m
 | .ret=>Q .ret s m
 | .region _ ⟨l⟩ false=>mF P G tt l l s m (Q .normal)
 | .region _ ⟨l⟩ true=>Bl (lH l) m fun m'=>dz m.length fun b=>uS P G tt l [] l 0 b s m' fun s' NW yn=>bN l yn=true/\Q .normal s' NW
 | _=>False
def Ww:Code->Bool
 | .loop _=>false
 | .rangeFunc ..=>false
 | _=>true
theorem PK{P:Program}{G:aG}{tt:TT}{Q:Exit->List A->List aq->Prop}{s:List A}{m:List aq}(aJ:bp P tt)(hm:P.follows .mixedOrders=true){c:Code}(h:Wv P G tt Q s m c):WA P G c Q s m:=by
 unfold Wv at h;split at h
 ·exact cG h
 ·exact bq h
 ·exact bQ h
 ·exact bR h
 ·exact bS h
 ·exact cH h
 ·exact aS aJ h
 ·exact bP aJ hm h
 ·exact h.elim
/-- A state that says less, ahead of a region. -/
theorem JV{P:Program}{G:aG}{Q:Exit->List A->List aq->Prop}{s:List A}{m:List aq}{id:Nat}{l:Array Oper}{d:Bool}(ov:List (Nat×A))(M:List aq)
  (h0:fl (SL ov s) fun s'=>rQ s m s' M) (h:fl (SL ov s) fun s'=>WA P G (.region id l d) Q s' M):WA P G (.region id l d) Q s m:=by
 rw[ck] at h0 h;exact qg (jg h0) h
theorem ik{l:List Oper}{f:List Fp}(h:bN l f=true):bN l f=true:=h
theorem nn{p q:Prop}(h2:q)(h1:p:=by first|exact ik (by kernel_rfl)|rfl|omega|decide|(dsimp only;omega)|(simp at *;omega)):p/\q:=⟨h1,h2⟩
theorem ff{p:Prop}(h:p:=by (conv=>whnf);repeat (first|exact fa|((first|refine fb ?_|(refine And.intro ?_ ?_;rotate_left));conv=>whnf))):p:=h
theorem nx{ι:Type}{I:ι->Prop}{μ:ι->Nat}{i:ι}{K:ι->Prop}(j:ι)(hI:I j)(h:K j)(hm:μ j<μ i:=by dsimp only;omega):∃j,I j/\μ j<μ i/\K j:=⟨j,hI,hm,h⟩
end Go.Proofs.YtijddijloelacaaGreat.Am
namespace Go.Proofs.YtijddijloelacaaGreat.Am
variable [Inhabited cc]
open Go.RowKit (Below)
/-- A contract serves arguments that may be taken for its own. -/
theorem aa.fit{P:Program}{G:aG}{f:FuncId}{args tH:List A}{r:A}(h:aa P G f args r)(hf:ga (kF.mR 6 0 tH args)):aa P G f tH r:=by
 refine⟨h.1,?_⟩;intro im w vs nC hG hl hr;have hlen:=fH _ _ _ _ hf;refine h.2 im w vs nC hG (by omega) ?_;intro j h1 h2;have:=iC (ids:=[]) (im:=im) (bo:=im) (w:=w) (fun _ h=>h) 6 0 _ _ _ (iB _ _ _ _ hf j (by omega) h1) (.aI (hr j (by omega) h2));exact Rel.sV (by simpa using this)
end Go.Proofs.YtijddijloelacaaGreat.Am
namespace Go.Proofs.YtijddijloelacaaGreat.Am
theorem OK{i j:Inhabited cc}(h:(@default cc j).ns){n:Nat}{w w':World}(k : @Bw i n w w'): @Bw j n w w':=by
 cases k with
 | mk a b c d e f=>exact @Bw.mk j n w w' a b c d e (Or.inl h)
theorem tn{i j:Inhabited cc}{P:Program}{G:aG}{f:FuncId}{args:List A}{r:A}(h:(@default cc j).ns)(c : @aa i P G f args r): @aa j P G f args r:=by
 refine And.intro c.1 (fun im w vs h1 h2 h3 h4=>bl (c.2 im w vs h1 h2 h3 h4) ?_);rintro e w' ⟨v,k1,k2,k3⟩;exact⟨v,k1,k2,OK h k3⟩
abbrev Hj:Inhabited cc:=⟨⟨False⟩⟩
theorem qV{i j:Inhabited cc}{P:Program}{G:aG}{f:FuncId}{args:List A}{mi:List aq}{r:A}{mo:List aq}(h:(@default cc j).ns)(c : @aM i P G f args mi r mo): @aM j P G f args mi r mo:=by
 refine And.intro c.1 (fun im w vs gs ids hG hs=>bl (c.2 im w vs gs ids hG ?_) ?_)
 ·cases hs with
  | mk a b c d e f g h2 k l=>exact @aF.mk i _ _ _ _ _ _ a b c d e f g (@Fr.refl i w im (gj ids) gs) k l
 ·rintro e w' ⟨v,ab,e1,bH⟩;refine⟨v,ab,e1,?_⟩;cases bH with
  | mk a b c d e f g h2 k l =>
   refine @aF.mk j _ _ _ _ _ _ a b c d e f g ?_ k l;cases h2 with
   | mk o1 o2 o3 o4 o5 o6=>exact @Fr.mk j _ _ o1 o2 o3 o4 o5 (Or.inl h)
end Go.Proofs.YtijddijloelacaaGreat.Am

/-
  The walks and plain laws, part 6.
-/
import Derived.Test.YtijddijloelacaaGreatNetOf5
set_option linter.unusedSimpArgs false
set_option linter.unusedSectionVars false
set_option linter.unusedVariables false
set_option maxRecDepth 100000
set_option maxHeartbeats 40000000
namespace Go.Proofs.YtijddijloelacaaGreat
open Go.Proofs.YtijddijloelacaaGreat.Am Go.Sort Go.Proofs Go.Lib Go.NetL
variable [Inhabited cF]
variable {G:aK}
/-- What the walk of ref15.Of leans on. -/
structure RnH (G:aK) (l:List Rd) (S:List Sp) (F:Nat->List Cu) (N:List RS) (R:Nat->List Rn) (B:Nat):Prop where
 hn:S.length<=50
 hN:∀x∈N,Rk x
 Hp:N.length<=1000000
 RP:∀i,i<S.length->∀c∈F i,Rk (jr c)
 VU:∀i,i<S.length->(R i).length+1<=(F i).length/\(kG (S.getD i default).w ((F i).map ph)).length=(R i).length
 VV:∀i,i<S.length->∀k,k<(R i).length->(R i).getD k default=⟨Pd N (jr ((F i).getD k default)),Pd N (jr ((F i).getD (k+1) default)),(kG (S.getD i default).w ((F i).map ph)).getD k 0,(S.getD i default).ow⟩
 WM:∀i,i<S.length->∀r∈R i,r.a≠r.b
 VW:∀i,i<S.length->∀k,(cN R i++(R i).take k).length<=90000
 h1:aa Tryz.prog G 21 [jC l] (AW S)
 h2:aa Tryz.prog G 60 [AW S] (ly S.length F)
 hB:∀i,i<S.length->(F i).length<=B
 mK:B*S.length<=30000
 hF:∀i,i<S.length->∀c∈F i,fJ (jr c)=FE c.1
 h3:aa Tryz.prog G 61 [dM (kH F S.length)] (dM N)
 h4:∀i,i<S.length->aa Tryz.prog G 62 [.int .i64 (S.getD i default).w,AY ((F i).map ph)] (lU (kG (S.getD i default).w ((F i).map ph)))
def Tg(l:List Rd)(S:List Sp)(F:Nat->List Cu)(N:List RS)(R:Nat->List Rn)(B:Nat)(H:RnH G l S F N R B):JP (aa Tryz.prog G 26 [jC l] (jQ N (ER (cN R S.length)) S.length fun i=>(R i).map (ql ((ER (cN R S.length)).map fun e=>⟨e.a,e.b⟩)))):=by
 refine' mkJ (fun rest=>?top)
 case' top=>skip
 obtain⟨hn,hN,Hp,RP,VU,VV,WM,VW,h1,h2,hB,mK,hF,h3,h4⟩:=H;unfold AW at h1;unfold ly at h2;refine aa.af ak Tryz.func26 rfl rfl _ rfl ?_;(conv=>whnf);repeat' ((first|refine st ?_|(refine⟨fun h=>?_,fun h=>?_⟩<;>try simp only[ae] at h)|(refine .inl ?_;(conv=>whnf);refine⟨_,h1,?_⟩)|(refine .inr (.inr (.inl ?_));(conv=>whnf);refine⟨_,h2,?_⟩)|refine wf ?_|refine ao ?_|refine nn ?_|fail)<;>conv=>whnf)
 refine ah (fun i:Nat=>i<=S.length) (fun i=>[(6,.int .i64 (i:Int)),(5,.own 1),(30,.aj)]) (fun i=>[.box 39 [.aC,.aC,.aC],.row 57 26 (kH F i).length (fun j=>fJ ((kH F i).getD j default))]) (fun i=>S.length-i) 0 (Nat.zero_le _) ?_ ?_
 ·exact ff
 ·intro i hi;have hi:i<=S.length:=hi;have hcS:S.length<=50:=hn;rcases Nat.lt_or_ge i S.length with bT|bT
  ·have hFl:(F i).length<=30000:=Nat.le_trans (hB i bT) (Nat.le_trans (Nat.le_mul_of_pos_right B (by omega)) mK);(conv=>whnf);repeat' ((first|(exfalso;omega)|refine st ?_|(refine⟨fun h=>?_,fun h=>?_⟩<;>try simp only[ae] at h)|refine wf ?_|refine ao ?_|refine nn ?_|fail)<;>conv=>whnf)
   refine ah (fun k:Nat=>k<=(F i).length) (fun k=>[(7,.int .i64 (k:Int)),(5,.own 1)]) (fun k=>[.box 39 [.aC,.aC,.aC],.row 57 26 (kH F i++((F i).take k).map jr).length (fun j=>fJ ((kH F i++((F i).take k).map jr).getD j default))]) (fun k=>(F i).length-k) 0 (Nat.zero_le _) ?_ ?_
   ·have ea:kH F i++((F i).take 0).map jr=kH F i:=by simp
    rw[ea];exact ff
   ·intro k hk;have hk:k<=(F i).length:=hk;have e0:(i:Int).toNat=i:=Int.toNat_natCast i
    have hlen:(kH F i++((F i).take k).map jr).length<=30000:=by
     rw[List.length_append,List.length_map,List.length_take];have h1:=qe F B i fun j hj=>hB j (by omega);have h2:=hB i bT;have h3:B*(i+1)<=B*S.length:=Nat.mul_le_mul (Nat.le_refl _) bT;rw[Nat.mul_succ] at h3;omega
    rcases Nat.lt_or_ge k (F i).length with gF|gF
    ·have s9:(k:Int)<(F (i:Int).toNat).length:=by rw[e0];omega
     have hc:=hF i bT _ (List.getElem_mem gF);have hx:(F i).getD k default=(F i)[k]:=gB gF;rw[<-hx] at hc;have et:((F i).take (k+1)).map jr=((F i).take k).map jr++[jr ((F i).getD k default)]:=by rw[List.take_add_one,List.getElem?_eq_getElem gF,hx,List.map_append];rfl
     (conv=>whnf);repeat' ((first|(exfalso;omega)|refine st ?_|(refine⟨fun h=>?_,fun h=>?_⟩<;>try simp only[ae] at h)|refine wf ?_|refine ao ?_|refine nn ?_|fail)<;>conv=>whnf)
     refine⟨k+1,gF,(by show(F i).length-(k+1)<(F i).length-k;omega),?_⟩;(conv=>whnf)
     repeat (first|exact fa|((first|refine fb ?_|(refine And.intro ?_ ?_;rotate_left));conv=>whnf))
     ·exact Or.inl fun j hj=>by rw[et,<-List.append_assoc];exact jq fJ _ (jr ((F i).getD k default)) _ rfl _ hc.symm j hj
     ·rw[et];simp only[List.length_append,List.length_map,List.length_cons,List.length_nil];omega
    ·have e:k=(F i).length:=by omega
     have s9:¬(k:Int)<(F (i:Int).toNat).length:=by rw[e0];omega
     have et:kH F i++((F i).take k).map jr=kH F (i+1):=by rw[xd,e,List.take_length]
     rw[et];(conv=>whnf);repeat' ((first|(exfalso;omega)|refine st ?_|(refine⟨fun h=>?_,fun h=>?_⟩<;>try simp only[ae] at h)|refine wf ?_|refine ao ?_|refine nn ?_|fail)<;>conv=>whnf)
     refine⟨i+1,bT,(by show S.length-(i+1)<S.length-i;omega),?_⟩;exact ff
  ·have e:i=S.length:=by omega
   subst e;unfold dM at h3;(conv=>whnf);exact rest.out
def Th(l:List Rd)(S:List Sp)(F:Nat->List Cu)(N:List RS)(R:Nat->List Rn)(B:Nat)(H:RnH G l S F N R B):JP (Tg l S F N R B H).T:=by
 refine' mkJ (fun rest=>?top)
 case' top=>skip
 obtain⟨hn,hN,Hp,RP,VU,VV,WM,VW,h1,h2,hB,mK,hF,h3,h4⟩:=id H;refine Zi ?_;unfold dM at h3;repeat' ((first|(exfalso;omega)|refine st ?_|(refine⟨fun h=>?_,fun h=>?_⟩<;>try simp only[ae] at h)|(refine .inr (.inr (.inl ?_));(conv=>whnf);refine⟨_,h3,?_⟩)|refine wf ?_|refine ao ?_|refine nn ?_|fail)<;>conv=>whnf)
 refine uH 2 1 67 5 rfl rfl ?_;(conv=>whnf);refine ah (fun i:Nat=>i<=S.length) (fun i=>[(9,.int .i64 (i:Int)),(10,.aj),(16,.aj)]) (fun i=>[.box 39 [.aC,.aC,.aC],.dead,.box 39 [.sl N.length 26 fun i=>fJ (N.getD i default),.own 3,.aC],.row 67 5 (ER (cN R i)).length fun j=>fX ((ER (cN R i)).getD j default)]) (fun i=>S.length-i) 0 (Nat.zero_le _) ?_ ?_
 ·exact ff
 ·intro i dH;have dH:i<=S.length:=dH;rcases Nat.lt_or_ge i S.length with bT|bT
  ·have hFl:(F i).length<=30000:=Nat.le_trans (hB i bT) (Nat.le_trans (Nat.le_mul_of_pos_right B (by omega)) mK);have qv:((F i).map ph).length=(F i).length:=List.length_map ..;(conv=>whnf);repeat' ((first|(exfalso;omega)|refine st ?_|(refine⟨fun h=>?_,fun h=>?_⟩<;>try simp only[ae] at h)|refine wf ?_|refine ao ?_|refine nn ?_|fail)<;>conv=>whnf)
   refine ah (fun k:Nat=>k<=(F i).length) (fun k=>[(11,.int .i64 (k:Int)),(10,.own 4),(66,.aj)]) (fun k=>[.box 39 [.aC,.aC,.aC],.dead,.box 39 [.sl N.length 26 fun i=>fJ (N.getD i default),.own 3,.aC],.row 67 5 (ER (cN R i)).length fun j=>fX ((ER (cN R i)).getD j default),.row 76 2 k (Vt ((F i).map ph))]) (fun k=>(F i).length-k) 0 (Nat.zero_le _) ?_ ?_
   ·conv=>whnf
    repeat (first|exact fa|((first|refine fb ?_|(refine And.intro ?_ ?_;rotate_left));conv=>whnf))
   ·intro k hk;have hk:k<=(F i).length:=hk;have e0:(i:Int).toNat=i:=Int.toNat_natCast i;rcases Nat.lt_or_ge k (F i).length with gF|gF
    ·have s9:(k:Int)<(F (i:Int).toNat).length:=by rw[e0];omega
     have dj:=AZ (F i) k gF;(conv=>whnf);repeat' ((first|(exfalso;omega)|((refine atR 18 ?_;refine eO (id:=18) 7 [0,1,2,3,6] rfl rfl ?_;conv=>whnf))|refine st ?_|(refine⟨fun h=>?_,fun h=>?_⟩<;>try simp only[ae] at h)|refine wf ?_|refine ao ?_|refine nn ?_|fail)<;>conv=>whnf)
     refine⟨k+1,gF,(by show(F i).length-(k+1)<(F i).length-k;omega),?_⟩;(conv=>whnf)
     repeat (first|exact fa|((first|refine fb ?_|(refine And.intro ?_ ?_;rotate_left));conv=>whnf))
     all_goals first|exact Or.inl fun j hj=>dj _ rfl j hj
    ·have e:k=(F i).length:=by omega
     have s9:¬(k:Int)<(F (i:Int).toNat).length:=by rw[e0];omega
     subst e;have k4:=h4 i bT;unfold AY lU at k4;rw[qv] at k4;(conv=>whnf);repeat' ((first|(exfalso;omega)|refine st ?_|(refine⟨fun h=>?_,fun h=>?_⟩<;>try simp only[ae] at h)|(refine .inr (.inr (.inl ?_));(conv=>whnf);refine⟨_,k4,?_⟩)|refine wf ?_|refine ao ?_|refine nn ?_|fail)<;>conv=>whnf)
     obtain⟨r1,r2⟩:=VU i bT;refine ah (fun k:Nat=>k<=(R i).length) (fun k=>[(13,.int .i64 (k:Int)),(16,.aj)]) (fun k=>[.box 39 [.aC,.aC,.aC],.dead,.box 39 [.sl N.length 26 fun i=>fJ (N.getD i default),.own 3,.aC],.row 67 5 (ER (cN R i++(R i).take k)).length fun j=>fX ((ER (cN R i++(R i).take k)).getD j default)]) (fun k=>(R i).length-k) 0 (Nat.zero_le _) ?_ ?_
     ·have e0:cN R i++(R i).take 0=cN R i:=by simp
      rw[e0];exact ff
     ·intro k hk;have hk:k<=(R i).length:=hk;rw[r2];rcases Nat.lt_or_ge k (R i).length with gF|gF
      ·have hr:=VV i bT k gF;have et:cN R i++(R i).take (k+1)=(cN R i++(R i).take k)++[(R i).getD k default]:=by rw[List.take_add_one,List.getElem?_eq_getElem gF,List.getD_eq_getElem?_getD,List.getElem?_eq_getElem gF,List.append_assoc];rfl
       have hne:=WM i bT _ (List.getElem_mem gF);rw[show(R i)[k]=(R i).getD k default by rw[List.getD_eq_getElem?_getD,List.getElem?_eq_getElem gF];rfl] at hne;have m1:=List.getElem_mem (show k<(F i).length by omega);have m2:=List.getElem_mem (show k+1<(F i).length by omega);rw[<-gB] at m1 m2;have k1:=ve (G:=G) N _ hN (RP i bT _ m1) Hp;have k2:=ve (G:=G) N _ hN (RP i bT _ m2) Hp;rw[hF i bT _ m1] at k1;rw[hF i bT _ m2] at k2;unfold dM at k1 k2;have q1:Pd N (jr ((F i).getD k default))=((R i).getD k default).a:=by rw[hr]
       have q2:Pd N (jr ((F i).getD (k+1) default))=((R i).getD k default).b:=by rw[hr]
       have q3:(kG (S.getD i default).w ((F i).map ph)).getD k 0=((R i).getD k default).w:=by rw[hr]
       have q4:(S.getD i default).ow=((R i).getD k default).ow:=by rw[hr]
       rw[q1] at k1;rw[q2] at k2;clear hr;obtain⟨o1,o2⟩:=H7 (cN R i++(R i).take k);have Mw:ER (cN R i++(R i).take (k+1))=xo (ER (cN R i++(R i).take k)) ((R i).getD k default):=by rw[et,RM]
       have hA:=VW i bT k;have hEl:(ER (cN R i++(R i).take k)).length<=90000:=by omega
       clear hA o2 et;generalize (R i).getD k default=r at *;generalize hE:ER (cN R i++(R i).take k)=E at *;have hg:=RI (G:=G) E r.a r.b (by omega);have Sx:=Oz E r o1;have hpt:=VI (G:=G) E (lz none r) (by omega);have hm:=DN r hne;have zA:r.b<r.a->(lz none r).a=r.b/\(lz none r).b=r.a/\(lz none r).w=r.w/\(lz none r).f=(!r.ow)/\(lz none r).k=true:=fun c=>by rw[hm,if_pos c];exact⟨rfl,rfl,rfl,rfl,rfl⟩
       have zB:¬r.b<r.a->(lz none r).a=r.a/\(lz none r).b=r.b/\(lz none r).w=r.w/\(lz none r).f=true/\(lz none r).k=(!r.ow):=fun c=>by rw[hm,if_neg c];exact⟨rfl,rfl,rfl,rfl,rfl⟩
       have ZG:H3 E (r.lo,r.hi)=none->xo E r=ur E (lz none r):=fun hp=>by unfold xo;rw[hp]
       have Ev:∀j,H3 E (r.lo,r.hi)=some j->xo E r=E.set j (WL (VM (Td (E.getD j default) (lz none r)) (lz none r)) (lz none r)):=fun j hp=>by unfold xo;rw[hp,<-RO]
       clear hm;generalize lz none r=z at *;(conv=>whnf);refine RN ?_;intro Q' hQ'
       refine' H8 (fun rest=>?main) ?prf
       case main =>
        repeat' (first|((exfalso;omega))|((refine atR 28 ?_;refine A5 (id:=28) 132 29 [(16,.ref 4 0)] [.box 39 [.aC,.aC,.aC],.dead,.box 39 [.sl N.length 26 fun i=>fJ (N.getD i default),.own 3,.aC],.row 67 5 E.length fun t=>fX (E.getD t default),.box 67 (fX z)] ?_ ?_;rotate_left;(conv=>whnf);exact rest.out))|(refine st ?_;conv=>whnf)|(refine⟨fun h=>?_,fun h=>?_⟩<;>(try simp only[ae] at h)<;>conv=>whnf)|(refine .inl ?_;(conv=>whnf);(first|refine⟨_,k1,?_⟩|refine⟨_,k2,?_⟩);conv=>whnf)|((first|refine wf ?_|refine ao ?_|refine nn ?_|fail);conv=>whnf))
        all_goals
         refine A4 ?_;(conv=>whnf)
         repeat (first|exact fa|((first|refine fb ?_|(refine And.intro ?_ ?_;rotate_left));conv=>whnf))
         all_goals first
          | exact(zA h).1.symm
          | exact(zA h).2.1.symm
          | exact q3.trans (zA h).2.2.1.symm
          | (rw[(zA h).2.2.2.1,<-q4];rfl)
          | exact(zA h).2.2.2.2.symm
          | exact(zB h).1.symm
          | exact(zB h).2.1.symm
          | exact q3.trans (zB h).2.2.1.symm
          | exact(zB h).2.2.2.1.symm
          | (rw[(zB h).2.2.2.2,<-q4];rfl)
                   
       case prf =>
        clear k1 k2 zA zB q3 q4;cases hp:H3 E (r.lo,r.hi) with
        | none =>
         rw[hp] at Sx;simp only[] at Sx;rw[Sx] at hg;rw[ZG hp] at Mw;repeat' ((first|(exfalso;omega)|((refine atR 30 ?_;refine Ac (id:=30) 5 [3] rfl ?_;(conv=>whnf);refine st ?_;conv=>whnf))|((refine atR 23 ?_;refine eO (id:=23) 6 [0,1,2,5] rfl rfl ?_;(conv=>whnf);refine st ?_;conv=>whnf))|refine st ?_|(refine⟨fun h=>?_,fun h=>?_⟩<;>try simp only[ae] at h)|(refine .inr (.inl ?_);(conv=>whnf);refine⟨_,_,hg,?_⟩)|((first|refine .inr (.inr (.inr ?_))|refine .inr ?_);(conv=>whnf);refine⟨_,_,hpt,?_⟩)|refine wf ?_|refine ao ?_|refine nn ?_|fail)<;>conv=>whnf)
         rw[hQ'];(conv=>whnf);refine⟨k+1,gF,(by show(R i).length-(k+1)<(R i).length-k;omega),?_⟩;(conv=>whnf)
         repeat (first|exact fa|((first|refine fb ?_|(refine And.intro ?_ ?_;rotate_left));conv=>whnf))
         all_goals first|(rw[Mw];done)|exact .inl fun t _=>by show _=fX ((ER _).getD t default);rw[Mw]
        | some j =>
         rw[hp] at Sx;simp only[] at Sx;rw[Sx] at hg;obtain⟨hj,EV⟩:=rH hp;rw[Ev j hp] at Mw;obtain⟨e1,xv⟩:∃e1,e1=Td (E.getD j default) z:=⟨_,rfl⟩;obtain⟨e2,gY⟩:∃e2,e2=VM e1 z:=⟨_,rfl⟩;rw[<-xv,<-gY] at Mw
         refine' H8 (fun rest=>?main) ?prf
         case main =>
          repeat' (first|((exfalso;omega))|((refine atR 33 ?_;refine A5 (id:=33) 173 16 [] [.box 39 [.aC,.aC,.aC],.dead,.box 39 [.sl N.length 26 fun i=>fJ (N.getD i default),.own 3,.aC],.row 67 5 E.length fun t=>fX ((E.set j e1).getD t default),.box 67 (fX z)] ?_ ?_;rotate_left;(conv=>whnf);exact rest.out))|(refine st ?_;conv=>whnf)|(refine⟨fun h=>?_,fun h=>?_⟩<;>(try simp only[ae] at h)<;>conv=>whnf)|(refine .inr (.inl ?_);(conv=>whnf);refine⟨_,_,hg,?_⟩;conv=>whnf)|((first|refine wf ?_|refine ao ?_|refine nn ?_|fail);conv=>whnf))
          all_goals
           refine A4 ?_;(conv=>whnf)
           repeat (first|exact fa|((first|refine fb ?_|(refine And.intro ?_ ?_;rotate_left));conv=>whnf))
           all_goals first|exact .inl fun t _=>by rw[xv];exact VN E j hj z h t|exact .inl fun t _=>by rw[xv];exact VO E j hj z h t
         case prf =>
          refine' H8 (fun rest=>?main) ?prf
          case main =>
           repeat' (first|((exfalso;omega))|((refine atR 34 ?_;refine A5 (id:=34) 189 15 [] [.box 39 [.aC,.aC,.aC],.dead,.box 39 [.sl N.length 26 fun i=>fJ (N.getD i default),.own 3,.aC],.row 67 5 E.length fun t=>fX ((E.set j e2).getD t default),.box 67 (fX z)] ?_ ?_;rotate_left;(conv=>whnf);exact rest.out))|(refine st ?_;conv=>whnf)|(refine⟨fun h=>?_,fun h=>?_⟩<;>(try simp only[ae] at h)<;>conv=>whnf)|((first|refine wf ?_|refine ao ?_|refine nn ?_|fail);conv=>whnf))
           all_goals
            refine A4 ?_;(conv=>whnf)
            repeat (first|exact fa|((first|refine fb ?_|(refine And.intro ?_ ?_;rotate_left));conv=>whnf))
            all_goals first|exact .inr fun t _=>by rw[gY];exact VP E j hj e1 z (Te E j hj e1 true h) t|exact .inl fun t _=>by rw[gY];exact Zc E j hj e1 z z.f (by rw[Te E j hj e1 false h];rfl) t
          case prf =>
           repeat' ((first|(exfalso;omega)|refine st ?_|(refine⟨fun h=>?_,fun h=>?_⟩<;>try simp only[ae] at h)|refine wf ?_|refine ao ?_|refine nn ?_|fail)<;>conv=>whnf)
           all_goals
            rw[hQ'];(conv=>whnf);refine⟨k+1,gF,(by show(R i).length-(k+1)<(R i).length-k;omega),?_⟩;(conv=>whnf)
            repeat (first|exact fa|((first|refine fb ?_|(refine And.intro ?_ ?_;rotate_left));conv=>whnf))
            all_goals first|(rw[Mw];done)|(rw[Mw,List.length_set];done)|exact .inr fun t _=>by rw[Mw];exact VS E j hj e2 z (Tf E j hj e2 true h) t|exact .inl fun t _=>by rw[Mw];exact Zd E j hj e2 z z.k (by rw[Tf E j hj e2 false h];rfl) t
      ·have e:k=(R i).length:=by omega
       subst e;have et:cN R i++(R i).take (R i).length=cN R (i+1):=by rw[List.take_length,oZ]
       rw[et];(conv=>whnf);repeat' ((first|(exfalso;omega)|refine st ?_|(refine⟨fun h=>?_,fun h=>?_⟩<;>try simp only[ae] at h)|refine wf ?_|refine ao ?_|refine nn ?_|fail)<;>conv=>whnf)
       refine⟨i+1,bT,(by show S.length-(i+1)<S.length-i;omega),?_⟩;(conv=>whnf)
       repeat (first|exact fa|((first|refine fb ?_|(refine And.intro ?_ ?_;rotate_left));conv=>whnf))
  ·have e:i=S.length:=by omega
   subst e;(conv=>whnf);exact rest.out
theorem Zj(l:List Rd)(S:List Sp)(F:Nat->List Cu)(N:List RS)(R:Nat->List Rn)(B:Nat)(H:RnH G l S F N R B):(Th l S F N R B H).T:=by
 obtain⟨hn,hN,Hp,RP,VU,VV,WM,VW,h1,h2,hB,mK,hF,h3,h4⟩:=id H;refine Zi ?_;have Vi:=VT (cN R S.length)
 have hEl:(ER (cN R S.length)).length<=1000000:=by
  have h1:=(H7 (cN R S.length)).2;rcases Nat.eq_zero_or_pos S.length with q|q
  ·refine Nat.le_trans h1 ?_;rw[q];exact Nat.zero_le _
  ·have h2:=VW (S.length-1) (by omega) (R (S.length-1)).length;rw[List.take_length,<-oZ,show S.length-1+1=S.length by omega] at h2;omega
 generalize hE:ER (cN R S.length)=E at *;generalize hK:(E.map fun e=>(⟨e.a,e.b⟩:Pr))=K at *;(conv=>whnf);repeat' ((first|(exfalso;omega)|refine st ?_|(refine⟨fun h=>?_,fun h=>?_⟩<;>try simp only[ae] at h)|refine wf ?_|refine ao ?_|refine nn ?_|fail)<;>conv=>whnf)
 refine gL 3 ?_;(conv=>whnf);refine uH 2 2 63 1 rfl rfl ?_;(conv=>whnf);refine ah (fun i:Nat=>i<=S.length) (fun i=>[(18,.int .i64 (i:Int)),(19,.aj),(22,.aj)]) (fun i=>[.box 39 [.aC,.aC,.aC],.dead,.box 39 [.sl N.length 26 fun i=>fJ (N.getD i default),.sl E.length 5 fun j=>fX (E.getD j default),.own 4],.dead,.row 63 1 i fun j=>[jt ((R j).map (ql K))]]) (fun i=>S.length-i) 0 (Nat.zero_le _) ?_ ?_
 ·conv=>whnf
  repeat (first|exact fa|((first|refine fb ?_|(refine And.intro ?_ ?_;rotate_left));conv=>whnf))
 ·intro i Uk;have Uk:i<=S.length:=Uk;rcases Nat.lt_or_ge i S.length with bT|bT
  ·have hFl:(F i).length<=30000:=Nat.le_trans (hB i bT) (Nat.le_trans (Nat.le_mul_of_pos_right B (by omega)) mK);have qv:((F i).map ph).length=(F i).length:=List.length_map ..;(conv=>whnf);repeat' ((first|(exfalso;omega)|refine st ?_|(refine⟨fun h=>?_,fun h=>?_⟩<;>try simp only[ae] at h)|refine wf ?_|refine ao ?_|refine nn ?_|fail)<;>conv=>whnf)
   refine ah (fun k:Nat=>k<=(F i).length) (fun k=>[(20,.int .i64 (k:Int)),(19,.own 5),(225,.aj)]) (fun k=>[.box 39 [.aC,.aC,.aC],.dead,.box 39 [.sl N.length 26 fun i=>fJ (N.getD i default),.sl E.length 5 fun j=>fX (E.getD j default),.own 4],.dead,.row 63 1 i fun j=>[jt ((R j).map (ql K))],.row 76 2 k (Vt ((F i).map ph))]) (fun k=>(F i).length-k) 0 (Nat.zero_le _) ?_ ?_
   ·conv=>whnf
    repeat (first|exact fa|((first|refine fb ?_|(refine And.intro ?_ ?_;rotate_left));conv=>whnf))
   ·intro k hk;have hk:k<=(F i).length:=hk;have e0:(i:Int).toNat=i:=Int.toNat_natCast i;rcases Nat.lt_or_ge k (F i).length with gF|gF
    ·have s9:(k:Int)<(F (i:Int).toNat).length:=by rw[e0];omega
     have dj:=AZ (F i) k gF;clear Vi;(conv=>whnf);repeat' ((first|(exfalso;omega)|((refine atR 41 ?_;refine eO (id:=41) 8 [0,1,2,3,4,7] rfl rfl ?_;conv=>whnf))|refine st ?_|(refine⟨fun h=>?_,fun h=>?_⟩<;>try simp only[ae] at h)|refine wf ?_|refine ao ?_|refine nn ?_|fail)<;>conv=>whnf)
     refine⟨k+1,gF,(by show(F i).length-(k+1)<(F i).length-k;omega),?_⟩;(conv=>whnf)
     repeat (first|exact fa|((first|refine fb ?_|(refine And.intro ?_ ?_;rotate_left));conv=>whnf))
     all_goals first|exact Or.inl fun j hj=>dj _ rfl j hj
    ·have e:k=(F i).length:=by omega
     have s9:¬(k:Int)<(F (i:Int).toNat).length:=by rw[e0];omega
     subst e;have k4:=h4 i bT;unfold AY lU at k4;rw[qv] at k4;(conv=>whnf);repeat' ((first|(exfalso;omega)|refine st ?_|(refine⟨fun h=>?_,fun h=>?_⟩<;>try simp only[ae] at h)|(refine .inr (.inr (.inl ?_));(conv=>whnf);refine⟨_,k4,?_⟩)|refine wf ?_|refine ao ?_|refine nn ?_|fail)<;>conv=>whnf)
     obtain⟨r1,r2⟩:=VU i bT;refine ah (fun k:Nat=>k<=(R i).length) (fun k=>[(23,.int .i64 (k:Int)),(22,.own 6),(262,.aj)]) (fun k=>[.box 39 [.aC,.aC,.aC],.dead,.box 39 [.sl N.length 26 fun i=>fJ (N.getD i default),.sl E.length 5 fun j=>fX (E.getD j default),.own 4],.dead,.row 63 1 i fun j=>[jt ((R j).map (ql K))],.dead,.row 65 3 k fun j=>Ou (((R i).map (ql K)).getD j default)]) (fun k=>(R i).length-k) 0 (Nat.zero_le _) ?_ ?_
     ·conv=>whnf
      repeat (first|exact fa|((first|refine fb ?_|(refine And.intro ?_ ?_;rotate_left));conv=>whnf))
     ·intro k hk;have hk:k<=(R i).length:=hk;rw[r2];rcases Nat.lt_or_ge k (R i).length with gF|gF
      ·have hr:=VV i bT k gF;have m1:=List.getElem_mem (show k<(F i).length by omega);have m2:=List.getElem_mem (show k+1<(F i).length by omega);rw[<-gB] at m1 m2;have k1:=ve (G:=G) N _ hN (RP i bT _ m1) Hp;have k2:=ve (G:=G) N _ hN (RP i bT _ m2) Hp;rw[hF i bT _ m1] at k1;rw[hF i bT _ m2] at k2;unfold dM at k1 k2;have q1:Pd N (jr ((F i).getD k default))=((R i).getD k default).a:=by rw[hr]
       have q2:Pd N (jr ((F i).getD (k+1) default))=((R i).getD k default).b:=by rw[hr]
       have q3:(kG (S.getD i default).w ((F i).map ph)).getD k 0=((R i).getD k default).w:=by rw[hr]
       rw[q1] at k1;rw[q2] at k2;clear hr;have hx:(R i).getD k default=(R i)[k]:=by rw[List.getD_eq_getElem?_getD,List.getElem?_eq_getElem gF];rfl
       have hrm:(R i).getD k default∈cN R S.length:=by
        unfold cN;rw[List.mem_flatMap];exact⟨i,List.mem_range.2 bT,by rw[hx];exact List.getElem_mem gF⟩
       have hgv:=OD (G:=G) E ((R i).getD k default).a ((R i).getD k default).b hEl;rw[Vi _ hrm] at hgv;unfold qg at hgv;have hy:((R i).map (ql K)).getD k default=ql K ((R i).getD k default):=by rw[hx,List.getD_eq_getElem?_getD,List.getElem?_map,List.getElem?_eq_getElem gF];rfl
       have TP:∀(r:Nat->List A),r 0=Ou (ql K ((R i).getD k default))->∀j,j<k+1->aO k (fun j=>Ou (((R i).map (ql K)).getD j default)) r j=Ou (((R i).map (ql K)).getD j default):=fun r hr j hj=>JR (fun j=>Ou (((R i).map (ql K)).getD j default)) k r (by
        rw[hr,hy]) j hj
       generalize (R i).getD k default=r at *;clear Vi;(conv=>whnf);repeat' ((first|(exfalso;omega)|((refine atR 47 ?_;refine eO (id:=47) 9 [0,1,2,3,4,5,8] rfl rfl ?_;conv=>whnf))|refine st ?_|(refine⟨fun h=>?_,fun h=>?_⟩<;>try simp only[ae] at h)|(refine .inl ?_;(conv=>whnf);(first|refine⟨_,k1,?_⟩|refine⟨_,k2,?_⟩|refine⟨_,hgv,?_⟩))|refine wf ?_|refine ao ?_|refine nn ?_|fail)<;>conv=>whnf)
       refine⟨k+1,gF,(by show(R i).length-(k+1)<(R i).length-k;omega),?_⟩;(conv=>whnf)
       repeat (first|exact fa|((first|refine fb ?_|(refine And.intro ?_ ?_;rotate_left));conv=>whnf))
       all_goals first|exact Or.inl fun j hj=>TP _ (by show[A.int .i64 ((ql K r).e:Nat),.sb (decide (r.a<r.b)),.int .i64 ((kG (S.getD i default).w ((F i).map ph)).getD k 0)]=_;rw[q3];rfl) j hj
      ·have e:k=(R i).length:=by omega
       subst e;clear Vi;(conv=>whnf);repeat' ((first|(exfalso;omega)|((refine atR 50 ?_;refine Ac (id:=50) 7 [6] rfl ?_;(conv=>whnf);refine st ?_;conv=>whnf))|((refine atR 37 ?_;refine eO (id:=37) 9 [0,1,2,3,8] rfl rfl ?_;(conv=>whnf);refine st ?_;conv=>whnf))|refine st ?_|(refine⟨fun h=>?_,fun h=>?_⟩<;>try simp only[ae] at h)|refine wf ?_|refine ao ?_|refine nn ?_|fail)<;>conv=>whnf)
       refine⟨i+1,bT,(by show S.length-(i+1)<S.length-i;omega),?_⟩;(conv=>whnf)
       repeat (first|exact fa|((first|refine fb ?_|(refine And.intro ?_ ?_;rotate_left));conv=>whnf))
       all_goals first|exact .inl fun j hj=>JR (fun j=>[jt ((R j).map (ql K))]) i _ (by show[A.sl (R i).length 3 fun j=>Ou (((R i).map (ql K)).getD j default)]=[A.sl ((R i).map (ql K)).length 3 fun j=>Ou (((R i).map (ql K)).getD j default)];rw[List.length_map]) j hj
  ·have e:i=S.length:=by omega
   subst e;clear Vi;(conv=>whnf);repeat' ((first|(exfalso;omega)|refine st ?_|(refine⟨fun h=>?_,fun h=>?_⟩<;>try simp only[ae] at h)|refine wf ?_|refine ao ?_|refine nn ?_|fail)<;>conv=>whnf)
   repeat (first|exact fa|((first|refine fb ?_|(refine And.intro ?_ ?_;rotate_left));conv=>whnf))
   all_goals first|exact .inl fun _ _=>rfl
theorem VX(l:List Rd)(S:List Sp)(hn:S.length<=50)(F:Nat->List Cu)(N:List RS)(hN:∀x∈N,Rk x)(Hp:N.length<=1000000)(R:Nat->List Rn)
  (RP:∀i,i<S.length->∀c∈F i,Rk (jr c)) (VU:∀i,i<S.length->(R i).length+1<=(F i).length/\(kG (S.getD i default).w ((F i).map ph)).length=(R i).length)
  (VV:∀i,i<S.length->∀k,k<(R i).length->(R i).getD k default=⟨Pd N (jr ((F i).getD k default)),Pd N (jr ((F i).getD (k+1) default)),(kG (S.getD i default).w ((F i).map ph)).getD k 0,(S.getD i default).ow⟩)
  (WM:∀i,i<S.length->∀r∈R i,r.a≠r.b) (VW:∀i,i<S.length->∀k,(cN R i++(R i).take k).length<=90000)
  (h1:aa Tryz.prog G 21 [jC l] (AW S)) (h2:aa Tryz.prog G 60 [AW S] (ly S.length F))
  (B:Nat) (hB:∀i,i<S.length->(F i).length<=B) (mK:B*S.length<=30000) (hF:∀i,i<S.length->∀c∈F i,fJ (jr c)=FE c.1)
  (h3:aa Tryz.prog G 61 [dM (kH F S.length)] (dM N))
  (h4:∀i,i<S.length->aa Tryz.prog G 62 [.int .i64 (S.getD i default).w,AY ((F i).map ph)] (lU (kG (S.getD i default).w ((F i).map ph)))) :
  aa Tryz.prog G 26 [jC l] (jQ N (ER (cN R S.length)) S.length fun i=>(R i).map (ql ((ER (cN R S.length)).map fun e=>⟨e.a,e.b⟩))) :=
 have H:RnH G l S F N R B:=⟨hn,hN,Hp,RP,VU,VV,WM,VW,h1,h2,hB,mK,hF,h3,h4⟩
 (Tg l S F N R B H).main ⟨(Th l S F N R B H).main ⟨Zj l S F N R B H⟩⟩
end Go.Proofs.YtijddijloelacaaGreat

/- Part of the proof: SyF SyG. Conditions: as each states. -/
import Derived.Test.YtmbdghclhpboaaaGreatPq13
set_option linter.all false
namespace Go.Proofs.YtmbdghclhpboaaaGreat.Ev
structure aN(E:Env)(t:aE)(H:List ai)(r:Row):Prop where
 out:∃out,bK E t (hp H) r.o.op=some out/\(match out with
  | .read v=>(match r.o.dst with
    | some d=>t.get d=some v
    | none=>True)
  | .pure _=>True
  | _=>False)
def ni(E:Env)(pm:Nat)(t:aE)(H:List ai):List Row->Prop->Prop
 | [],X=>X
 | r::l,X=>match has pm r.i with
   | true=>ni E pm t H l X
   | false=>aN E t H r/\ni E pm t H l X
theorem qO{E:Env}{pm:Nat}{t:aE}{H:List ai}:∀{l:List Row} {X:Prop},ni E pm t H l X->X/\∀r∈l,has pm r.i=false->aN E t H r
 | [],X,h=>⟨h,by simp⟩
 | r::l,X,h=>by
   simp only[ni] at h;split at h
   ·rename_i hh;obtain ⟨h1,h2⟩:=qO h;refine ⟨h1,fun q hq hp=>?_⟩;rcases List.mem_cons.1 hq with rfl|hq
    ·rw[hh] at hp;cases hp
    ·exact h2 q hq hp
   ·obtain ⟨h1,h2⟩:=qO h.2;refine ⟨h1,fun q hq hp=>?_⟩;rcases List.mem_cons.1 hq with rfl|hq
    ·exact h.1
    ·exact h2 q hq hp
def VF:Op->Bool
 | .load _ _|.lookup _ _ _ _|.entry _|.convert _ _ _|.call _=>true
 | _=>false
theorem Kp{E:Env}{t:aE}{σ:AS}{op:Op}{v:AV}(h:bK E t σ op=some (.read v)):VF op=true:=by
 cases op<;>first
  | rfl
  | (exfalso;simp only[bK] at h;(repeat' split at h)<;>first|(cases h;done)|(obtain ⟨_,_,e⟩:=oM1.1 h;cases e;done))
def l6(pm:Nat):List (Nat×Nat)->List Nat
 | []=>[]
 | (j,o)::l=>match has pm j with
   | true=>l6 pm l
   | false=>o::l6 pm l
theorem Cs{pm j o:Nat}:∀{l:List (Nat×Nat)},(j,o)∈l->has pm j=false->o∈l6 pm l
 | (j',o')::l,h,hj=>by
   simp only[l6];rcases List.mem_cons.1 h with e|h
   ·cases e
    rw[hj];simp
   ·have:=Cs h hj;split
    ·exact this
    ·exact List.mem_cons_of_mem _ this
def XU(t:aE):Op->Bool
 | .load _ a=>match aL t a with
   | some (.lit (.pointer (some _)))=>true
   | _=>false
 | .fieldAddr _ x _=>match aL t x with
   | some (.lit (.pointer (some _)))=>true
   | _=>false
 | .indexAddr _ x _=>match aL t x with
   | some v=>Gc v
   | none=>false
 | .slice _ x _ _ _=>match aL t x with
   | some (.lit (.slice (some _) _ _))=>true
   | _=>false
 | _=>false
structure ky(X Y:Prop):Prop where
 l:X
 r:Y
def LU(p:Row->Bool)(F:Row->List Row->Prop):Nat->List Row->List Row->Prop
 | 0,_,_=>False
 | f+1,pre,rem=>match gF p rem with
   | none=>True
   | some (r,pE)=>match gF p pE with
     | none=>F r (pre++pE)
     | some _=>ky (F r (pre++pE)) (LU p F f (r::pre) pE)
theorem Hh{p:Row->Bool}{F:Row->List Row->Prop}{r:Row}(hp:p r=true):∀(f:Nat) (pre rem:List Row),LU p F f pre rem->r∈rem->∃m,(pre++rem).Perm (r::m)/\F r m
 | 0,_,_,h,_=>h.elim
 | f+1,pre,rem,h,hr=>by
   rw[LU] at h;cases hq:gF p rem with
   | none=>
     have:=rz hq r hr;rw[hp] at this;cases this
   | some x=>
     obtain ⟨q,m⟩:=x;rw[hq] at h;simp only[] at h;obtain ⟨_,h2⟩:=qw hq;have h3:(pre++rem).Perm (q::(pre++m)):=(h2.append_left pre).trans List.perm_middle;rcases List.mem_cons.1 (h2.mem_iff.1 hr) with e|hr
     ·rw[e];refine ⟨pre++m,h3,?_⟩;cases hm:gF p m with
      | none=>rw[hm] at h;exact h
      | some y=>rw[hm] at h;exact h.l
     ·cases hm:gF p m with
      | none=>
        have:=rz hm r hr;rw[hp] at this;cases this
      | some y=>
        rw[hm] at h;obtain ⟨m2,h4,h5⟩:=Hh hp f (q::pre) m h.r hr;exact ⟨m2,h3.trans h4,h5⟩
def zb(E:Env)(P:Program)(n:Nat)(ops:List Oper):Nat->Nat->List Row->List Row->List (Nat×Nat)->aE->List ai->(aE->List ai->Prop)->Prop
 | 0,_,_,_,_,_,_,_=>False
 | f+1,done,rem,rd,cO,t,H,K=>match rem with
   | []=>K t H
   | _::_=>match gF (fun r=>r.early&&ready done r&&!XU t r.o.op) rem with
     | some (r,pE)=>match dD ops t r.o with
       | none=>False
       | some false=>r7 n r.o.dst t aQ fun t'=>zb E P n ops f (Nat.lor done (Nat.shiftLeft 1 r.i)) pE rd cO t' H K
       | some true=>TQ E P false [] t H (fun v H'=>fv v fun v=>r7 n r.o.dst t v fun t'=>match Nat.beq (qT H' 0) (qT H 0) with
         | true=>match VF r.o.op with
           | true=>zb E P n ops f (Nat.lor done (Nat.shiftLeft 1 r.i)) pE (r::rd) cO t' H' K
           | false=>zb E P n ops f (Nat.lor done (Nat.shiftLeft 1 r.i)) pE rd cO t' H' K
         | false=>ni E 0 t' H' rd (zb E P n ops f (Nat.lor done (Nat.shiftLeft 1 r.i)) pE rd ((r.i,qT H 0)::cO) t' H' K)) r.o.op
     | none=>match gF (ready done) rem with
       | none=>False
       | some (r,pE)=>match pE.all (fun q=>!ready done q) with
         | true=>rM E P (l6 r.pm cO) ops r.o t H (fun v H'=>fv v fun v=>r7 n r.o.dst t v fun t'=>ni E r.pm t' H' rd (zb E P n ops f (Nat.lor done (Nat.shiftLeft 1 r.i)) pE rd cO t' H' K))
         | false=>LU (ready done) (fun r pE=>rM E P (l6 r.pm cO) ops r.o t H (fun v H'=>fv v fun v=>r7 n r.o.dst t v fun t'=>ni E r.pm t' H' rd (zb E P n ops f (Nat.lor done (Nat.shiftLeft 1 r.i)) pE rd cO t' H' K))) f [] rem
structure Lk(F0 F:dN)(H:List ai):Prop where
 out:∀ay cJ w',aU F ay cJ w'->aU F0 ay cJ w'/\∀H',bj (cz H) (cz H')->Rs F0 ay H' w'
theorem Lk.Bs{F0 F:dN}{H H':List ai}(h:Lk F0 F H)(e:bj (cz H) (cz H')):Lk F0 F H':=
 ⟨fun γ σ w hR=>⟨(h.out γ σ w hR).1,fun H2 e2=>(h.out γ σ w hR).2 H2 (e.trans e2)⟩⟩
section
variable{F0 F:dN}{P:Program}{E:Env}(hE:cL P E){ops:Array Oper}{rows:List Row}(hrows:n7 ops rows){n:Nat}{γ0:aT}{σ0:AS}{done:Nat}{rem rd:List Row}{t:aE}{H:List ai}{kd:Nat->PK}{γ:aT}{aq:Array Bool}{a:Act}{w:World}
structure DQ(kd:Nat->PK)(cO:List (Nat×Nat))(H:List ai)(γ:aT)(aq:Array Bool):Prop where
 un:∀o,o<H.length->γ o=none->∃j,(j,o)∈cO/\aq.getD j false=false
 kd:∀j o,(j,o)∈cO->∃ob k,kd j=.new ob k o
 lt:∀j o,(j,o)∈cO->o<H.length
 ix:∀j o,(j,o)∈cO->j<aq.size
theorem aN.read{r:Row}{v:AV}{σ:AS}{u':AV}(h:aN E t H r)(hb:bK E t σ r.o.op=some (.read u'))(hd:∀d,r.o.dst=some d->t.get d=some v):∃u,bK E t (hp H) r.o.op=some (.read u)/\(r.o.dst≠none->u=v):=by
 obtain ⟨out,h1,h2⟩:=h.out;cases out with
 | read u=>
   refine ⟨u,h1,fun aP=>?_⟩;cases vz:r.o.dst with
   | none=>exact absurd vz aP
   | some d=>
     rw[vz] at h2;simp only[] at h2;rw[hd d vz] at h2;exact (Option.some.inj h2).symm
 | pure u=>
   have:=Bw σ h1;rw[hb] at this;cases this
 | _=>exact h2.elim
include hrows
include hE in
theorem Inv.KY(uO:Lk F0 F H)(hI:Inv F E ops rows n γ0 σ0 done rem rd t (hp H) kd γ aq a w)(hn:n<=aY){cO:List (Nat×Nat)}(kG:DQ kd cO H γ aq)(pk:∀j o,(j,o)∈cO->has done j=true){r:Row}{fj:List Row}(bX:rem.Perm (r::fj))(hc:∀j,has r.pm j=true->aq.getD j false=true)
  {L:aE->List ai->Prop} (hs:rM E P (l6 r.pm cO) ops.toList r.o t H (fun v H'=>fv v fun v=>r7 n r.o.dst t v fun t'=>ni E r.pm t' H' rd (L t' H'))) {Q:Exit->Act->World->Prop} {K:Act->World->Prop}
  (hK:∀F1 ay t1 H1 a' w',L t1 H1->Lk F0 F1 H1->Inv F1 E ops rows n γ0 σ0 (Nat.lor done (Nat.shiftLeft 1 r.i)) fj rd t1 (hp H1) kd ay (aq.setIfInBounds r.i true) a' w'->DQ kd cO H1 ay (aq.setIfInBounds r.i true)->K a' w'):wpOp P ops Q r.i K a w:=by
 have B0:r∈rem:=bX.mem_iff.2 (by simp);obtain ⟨hr,tq⟩:=hI.mR r B0;have hD:(r::fj).Pairwise (fun r q=>r.i≠q.i):=(bX.pairwise_iff (fun h=>Ne.symm h)).1 hI.Jl;rw[List.pairwise_cons] at hD;have eI:=vF hrows hI hr (fun h=>absurd h.1 (by rw[tq];simp)) hc;rw[hrows.lZ hr] at eI;have pW:∀o,o<H.length->o∉l6 r.pm cO->γ o≠none:=fun o ho hS hg=>by
  obtain ⟨j,h1,h2⟩:=kG.un o ho hg;have h3:has r.pm j=false:=by
   cases hh:has r.pm j with
   | false=>rfl
   | true=>have:=hc _ hh;rw[h2] at this;cases this
  exact hS (Cs h1 h3)
 have g9:=(hrows.row r hr).1;have XE:∀{K':Act->World->Prop},(∀v H' ay x w',(fv v fun v=>r7 n r.o.dst t v fun t'=>ni E r.pm t' H' rd (L t' H'))->aw ay v x->GX F0 γ (l6 r.pm cO) H ay H' w'->K' (a.put r.o.dst x) w')->wpOp P ops Q r.i K' a w:=by
  intro K' WX;obtain ⟨Dt,IJ⟩:=uO.out _ _ _ hI.rel;have cK:=IJ H (.refl _);have oU:=hs;unfold rM at oU;unfold wpOp;simp only[g9];have hw:=iJ eI;cases hwa:dD ops.toList t r.o with
  | none=>rw[hwa] at oU;exact oU.elim
  | some b=>
    rw[hwa] at oU;have kI:=pc (a:=a) (γ:=γ) (n:=n) (hw ▸ hwa) fun d u _ hu=>hI.tmps.get d u hu;cases b with
    | false=>
      rw[kI];simp only[Bool.false_eq_true,if_false];exact WX aQ H γ undef w oU (aS γ _) ⟨Dt,.refl γ _,pW,cK⟩
    | true=>
      rw[kI];simp only[if_true];refine .inl ?_;rcases Cj hI.rel.aY oU with ⟨out,h1,h2⟩|⟨_,h1⟩
      ·rw[fC eI] at h1;exact Eu hE Dt pW cK hI.tmps.aL h1 h2 WX
      ·refine I8 h1 Dt pW cK hI.tmps.aL (fun x hx=>?_) WX;cases x with
       | tmp d=>exact eI d (List.mem_append_left _ (List.mem_filterMap.2 ⟨.tmp d,by simpa using hx,rfl⟩))
       | _=>rfl
 refine XE fun v H1 ay x w' hL hx hA=>?_;obtain ⟨t1,ht,hL⟩:=l8 (sU hL);obtain ⟨hL,nA⟩:=qO hL;obtain ⟨F1,fJ,iW⟩:=tK hA.rel hA.rs;have hi:r.i<aq.size:=by rw[hI.size];exact hrows.idx hr
 have fP:∀j,(aq.setIfInBounds r.i true).getD j false=if j=r.i then true else aq.getD j false:=fun j=>by
  by_cases e:j=r.i
  ·subst e;rw[if_pos rfl,jK hi]
  ·rw[if_neg e,getD_set_ne _ (Ne.symm e)]
 have fq:∀j,has (Nat.lor done (Nat.shiftLeft 1 r.i)) j=true↔has done j=true\/j=r.i:=fun j=>by rw[kQ];simp
 have ff:∀q,cA (Nat.lor done (Nat.shiftLeft 1 r.i)) (aq.setIfInBounds r.i true) q↔cA done aq q:=fun q=>by
  unfold cA;rw[fP,fq];by_cases e:q.i=r.i
  ·simp[e,tq]
  ·simp[e]
 have jM:=fun (q:Row) (hq:q∈rows) (fu:cA done aq q)=>tD hrows hI hr tq hq fu (.inr hc);have dz:=qz ht hn;refine hK F1 ay t1 H1 _ w' hL ⟨iW⟩ ⟨fun q hq=>?_,fun q hq=>?_,hD.2,fun q hq h j hj=>?_,fun q hq h=>?_,by simp[hI.size],fun q hq h=>?_,fun q hq q' fu h h'=>hI.ids q hq q' fu ((ff q).1 h) ((ff q').1 h'),fun q hq h=>hI.fresh q hq ((ff q).1 h),fJ,hI.step.trans hA.step,?_⟩ ⟨fun o ho hg=>?_,kG.kd,fun j o h=>Nat.lt_of_lt_of_le (kG.lt j o h) (show H.length<=H1.length from hA.step.le),fun j o h=>by simpa using kG.ix j o h⟩
 ·have fu:q∈rem:=bX.mem_iff.2 (by simp[hq]);obtain ⟨h1,h2⟩:=hI.mR q fu;refine ⟨h1,?_⟩;rw[kQ,h2];simp[Ne.symm (hD.1 q hq)]
 ·rcases hI.cover q hq with h|h
  ·exact .inl ((fq _).2 (.inl h))
  ·rcases List.mem_cons.1 (bX.mem_iff.1 h) with rfl|h
   ·exact .inl ((fq _).2 (.inr rfl))
   ·exact .inr h
 ·rcases (fq _).1 h with h|h
  ·exact (fq _).2 (.inl (hI.down q hq h j hj))
  ·have e:=hrows.eq hq hr h;subst e;have h1:=hc j hj;have an:j<ops.size:=Nat.lt_trans (hrows.lt q hq j hj) (hrows.idx hq);have h2:=hrows.all j _ (Array.getElem?_eq_getElem an);exact (fq _).2 (.inl (hI.sub _ h2 h1))
 ·rw[fP] at h;by_cases e:q.i=r.i
  ·exact (fq _).2 (.inr e)
  ·rw[if_neg e] at h;exact (fq _).2 (.inl (hI.sub q hq h))
 ·have h':=(ff q).1 h;obtain ⟨h1,h2,h3⟩:=hI.cO q hq h';have uu:nh q.looks t t1:=fun d hd=>by
   rw[dz,if_neg];intro e;exact (jM q hq h' d e).1 hd
  have tz:∀d,q.o.dst=some d->t1.get d=t.get d:=fun d hd=>by
   rw[dz,if_neg];intro e;exact (jM q hq h' d e).2 hd
  refine ⟨h1,uT.mu hrows hq uu (fun v ev hm=>?_) hA.step h2,fun d hd=>?_⟩
  ·have Xu:has r.pm q.i=false:=by
    cases hh:has r.pm q.i with
    | false=>rfl
    | true=>have:=hc _ hh;rw[h'.2] at this;cases this
   have h2':=h2;rw[ev] at h2';obtain ⟨_,_,u,h4,h5⟩:=h2';have mN:=uu;rw[hrows.lZ hq] at mN;rw[fC mN] at h4;exact ⟨hm,(nA q hm Xu).read h4 fun d hd=>by rw[tz d hd,(h3 d hd).1,ev];rfl⟩
  ·rw[tz d hd];exact h3 d hd
 ·refine ⟨by cases r.o.dst<;>simpa [Act.put] using hI.tmps.size,by cases r.o.dst<;>exact hI.tmps.defers,fun i u hu=>?_⟩;rw[T.eW] at hu;split at hu
  ·cases hu
  ·rename_i hm;have hm:=iG.1 (Bool.not_eq_true _ ▸ hm:_=false);rw[dz] at hu;by_cases e:r.o.dst=some i
   ·rw[if_pos e] at hu;cases hu
    refine ⟨x,?_,hx⟩;rw[e] at ht ⊢;simp only[Act.put];rw[Array.getElem?_setIfInBounds_self_of_lt (Nat.lt_of_lt_of_le (Cy ht) hI.tmps.size)]
   ·rw[if_neg e] at hu;obtain ⟨y,h1,h2⟩:=hI.tmps.get i u (by
     rw[T.eW,if_neg,hu];rw[Bool.not_eq_true,iG];exact fun q hq h=>hm q hq ((ff q).2 h))
    refine ⟨y,?_,h2.mono hA.step.ext _ _⟩;cases hd:r.o.dst with
    | none=>exact h1
    | some d=>
      simp only[Act.put];rw[Array.getElem?_setIfInBounds_ne (fun h=>e (by rw[hd,h]))];exact h1
 ·by_cases hS:o∈l6 r.pm cO
  ·have iS:∀{l:List (Nat×Nat)},o∈l6 r.pm l->∃j,(j,o)∈l:=by
    intro l;induction l with
    | nil=>intro h;simp[l6] at h
    | cons x l ih=>
      obtain ⟨j,q⟩:=x;intro h;simp only[l6] at h;split at h
      ·obtain ⟨j',h'⟩:=ih h;exact ⟨j',List.mem_cons_of_mem _ h'⟩
      ·rcases List.mem_cons.1 h with rfl|h
       ·exact ⟨j,by simp⟩
       ·obtain ⟨j',h'⟩:=ih h;exact ⟨j',List.mem_cons_of_mem _ h'⟩
   obtain ⟨j0,z7⟩:=iS hS;obtain ⟨ob,k,gl⟩:=kG.kd j0 o z7;cases og:γ o with
   | some p=>rcases hA.step.ext o p og with h|h<;>rw[h] at hg<;>cases hg
   | none=>
     have an:=kG.lt j0 o z7;obtain ⟨j,h1,h2⟩:=kG.un o an og;refine ⟨j,h1,?_⟩;rw[fP,if_neg,h2];rintro rfl;have:=pk _ _ h1;rw[tq] at this;cases this
  ·exact absurd hg (hA.pl o ho hS)
theorem CT(hn:n<=aY){L:aE->List ai->Prop}:∀(fuel:Nat) (done:Nat) (rem rd:List Row) (cO:List (Nat×Nat)) (t:aE) (H:List ai) (kd:Nat->PK),zb E P n ops.toList fuel done rem rd cO t H L->Lk F0 F H ->
  Inv F E ops rows n γ0 σ0 done rem rd t (hp H) kd γ aq a w->DQ kd cO H γ aq->(∀j o,(j,o)∈cO->has done j=true) ->
  ∃gy fj ou ry t1 H1 Ad,Lk F0 F H1/\Inv F E ops rows n γ0 σ0 gy fj ou t1 (hp H1) Ad γ aq a w/\DQ Ad ry H1 γ aq/\(∀j o,(j,o)∈ry->has gy j=true)/\(∃f0,zb E P n ops.toList f0 gy fj ou ry t1 H1 L)/\((fj=[]/\L t1 H1) \/
   fj≠[]/\∃f,∀r∈fj,ready gy r=true->∃r8,fj.Perm (r::r8) /\
    rM E P (l6 r.pm ry) ops.toList r.o t1 H1 (fun v H'=>fv v fun v=>r7 n r.o.dst t1 v fun t'=>ni E r.pm t' H' ou (zb E P n ops.toList f (Nat.lor gy (Nat.shiftLeft 1 r.i)) r8 ou ry t' H' L))):=by
 intro fuel;induction fuel with
 | zero=>intro done rem rd cO t H kd h;exact h.elim
 | succ fuel ih=>
   intro done rem rd cO t H kd h uO hI kG pk;have h0:=h;simp only[zb] at h;split at h
   ·exact ⟨done,[],rd,cO,t,H,kd,uO,hI,kG,pk,⟨_,h0⟩,.inl ⟨rfl,h⟩⟩
   ·rename_i x l;split at h
    ·rename_i r fj Qh;obtain ⟨h1,fK⟩:=qw Qh;simp only[Bool.and_eq_true] at h1;obtain ⟨⟨q8,nW⟩,_⟩:=h1;obtain ⟨hr,tq⟩:=hI.mR r (fK.mem_iff.2 (by simp));have Xq:aq.getD r.i false=false:=by
      cases hh:aq.getD r.i false with
      | false=>rfl
      | true=>have:=hI.sub r hr hh;rw[tq] at this;cases this
     have ID:∀j,has done j=true->has (Nat.lor done (Nat.shiftLeft 1 r.i)) j=true:=fun j hj=>by rw[kQ,hj];rfl
     have IC:∀(k:PK) j o,(j,o)∈cO->∃ob x,(fun j=>if j=r.i then k else kd j) j=.new ob x o:=fun k j o hj=>by
      have hd:=pk j o hj;have:j≠r.i:=fun e=>by rw[e,tq] at hd;cases hd
      simp only[if_neg this];exact kG.kd j o hj
     have sat:∀{t1:aE} {v:AV},o3 n t r.o.dst v=some t1->dD ops.toList t1 r.o=dD ops.toList t r.o/\∀σ,bK E t1 σ r.o.op=bK E t σ r.o.op:=fun {t1 v} ht=>by
      have eI:nh r.looks t t1:=fun d hd=>by
       rw[qz ht hn,if_neg];intro e;exact hrows.self r hr q8 d e hd
      rw[hrows.lZ hr] at eI;exact ⟨(iJ eI).symm,fun σ=>(fC (E:=E) (σ:=σ) eI).symm⟩
     split at h
     ·exact h.elim
     ·rename_i hw;obtain ⟨t1,ht,h⟩:=l8 h;obtain ⟨e1,e2⟩:=sat ht;exact ih _ _ _ _ _ _ _ h uO (hI.ahead hrows hn fK q8 nW (k:=.no) ht (e1.trans hw) (fun _ _ _ e=>by cases e) (fun q v hq hk hm he hd=>⟨hm,he⟩) hI.rel (.refl _ _)) ⟨kG.un,IC _,kG.lt,kG.ix⟩ fun j o hj=>ID j (pk j o hj)
     ·rename_i hw;obtain ⟨out,g0,hk⟩:=(Cj hI.rel.aY h).resolve_right (fun h=>by cases h.1);have Md:Nat.beq (qT H 0) (qT H 0)=true:=Nat.beq_refl _;have he:=hrows.HY hr;rw[q8] at he;rcases sL he.symm g0 with ⟨v,rfl⟩|⟨v,rfl⟩|⟨ob,k,rfl⟩
      ·obtain ⟨t1,ht,hk⟩:=l8 (sU hk);simp only[Md] at hk;obtain ⟨e1,e2⟩:=sat ht;split at hk
       ·exact ih _ _ _ _ _ _ _ hk uO (hI.ahead hrows hn fK q8 nW (k:=.now v) ht ⟨e1.trans hw,(e2 _).trans g0⟩ (fun _ _ _ e=>by cases e) (fun q v hq hk hm he hd=>⟨List.mem_cons_of_mem _ hm,he⟩) hI.rel (.refl _ _)) ⟨kG.un,IC _,kG.lt,kG.ix⟩ fun j o hj=>ID j (pk j o hj)
       ·exact ih _ _ _ _ _ _ _ hk uO (hI.ahead hrows hn fK q8 nW (k:=.now v) ht ⟨e1.trans hw,(e2 _).trans g0⟩ (fun _ _ _ e=>by cases e) (fun q v hq hk hm he hd=>⟨hm,he⟩) hI.rel (.refl _ _)) ⟨kG.un,IC _,kG.lt,kG.ix⟩ fun j o hj=>ID j (pk j o hj)
      ·obtain ⟨t1,ht,hk⟩:=l8 (sU hk);simp only[Md,Kp g0] at hk;obtain ⟨e1,e2⟩:=sat ht;exact ih _ _ _ _ _ _ _ hk uO (hI.ahead hrows hn fK q8 nW (k:=.read v) ht ⟨e1.trans hw,by simp,v,(e2 _).trans g0,fun _=>rfl⟩ (fun _ _ _ e=>by cases e) (fun q v hq hk hm he hd=>⟨List.mem_cons_of_mem _ hm,he⟩) hI.rel (.refl _ _)) ⟨kG.un,IC _,kG.lt,kG.ix⟩ fun j o hj=>ID j (pk j o hj)
      ·obtain ⟨an,hk⟩:=hk;obtain ⟨t1,ht,hk⟩:=l8 (sU hk);have aP:Nat.beq (qT (H++[ob]) 0) (qT H 0)=false:=by
        rw[lQ,lQ];cases hb:Nat.beq (0+(H++[ob]).length) (0+H.length) with
        | false=>rfl
        | true=>have:=nQ1 hb;simp at this
       simp only[aP] at hk;obtain ⟨hk,nA⟩:=qO hk;obtain ⟨e1,e2⟩:=sat ht;have NW:=wT g0;have fy:=hI.rel.aY;have fy:H.length<=aY:=fy;have hm:=hI.rel.more (show (hp H).next<aY from an) ob;have heq:zc { heap:=(hp H).heap.put (hp H).next ob,next:=(hp H).next+1 } (H++[ob]):=by
        refine ⟨by simp[hp],fun q=>?_⟩;simp only[];rw[T.bN _ _ _ _ (show (hp H).next<=aY from Nat.le_of_lt an),aZ fy];by_cases e:q=(hp H).next
        ·subst e;rw[if_pos rfl];simp[hp,NW]
        ·rw[if_neg e];have e:q≠H.length:=e;rcases Nat.lt_or_ge q H.length with h5|h5
         ·rw[List.getElem?_append_left h5]
         ·rw[List.getElem?_eq_none h5,List.getElem?_eq_none (by simp;omega)]
       have yu:=hm.J0 heq;have nV:iI ob=aB:=by cases ob<;>first|rfl|cases NW
       have FM:qT H 0=H.length:=by rw[lQ,Nat.zero_add]
       rw[FM] at hk;refine ih _ _ _ _ _ _ _ hk (uO.Bs (qd nV)) (hI.ahead hrows hn fK q8 nW (k:=.new ob k H.length) ht ⟨e1.trans hw,(e2 _).trans (yk _ g0),by show H.length<(H++[ob]).length;simp,hI.rel.j6 _ (Nat.le_refl _),?_⟩ (fun _ _ _ e=>by cases e;exact Nat.le_refl _) (fun q v hq z8 ZR he hd=>?_) yu ((Step.more hI.rel an ob).J0 heq (show (H++[ob]).length<=aY from yu.aY))) ⟨fun o ho hg=>?_,fun j o hj=>?_,fun j o hj=>?_,fun j o hj=>?_⟩ fun j o hj=>?_
       ·rw[aZ (show (H++[ob]).length<=aY from yu.aY)];simp[NW]
       ·obtain ⟨u,hu,_⟩:=he;exact ⟨ZR,(nA q ZR (j9 _)).read hu hd⟩
       ·simp only[List.length_append,List.length_cons,List.length_nil] at ho;rcases Nat.lt_or_ge o H.length with h5|h5
        ·obtain ⟨j,b1,b2⟩:=kG.un o h5 hg;exact ⟨j,List.mem_cons_of_mem _ b1,b2⟩
        ·obtain rfl:o=H.length:=by omega
         exact ⟨r.i,by simp,Xq⟩
       ·rcases List.mem_cons.1 hj with e|hj
        ·cases e
         exact ⟨ob,k,by simp⟩
        ·exact IC _ j o hj
       ·rcases List.mem_cons.1 hj with e|hj
        ·cases e;simp
        ·have:=kG.lt j o hj;simp;omega
       ·rcases List.mem_cons.1 hj with e|hj
        ·cases e;rw[hI.size];exact hrows.idx hr
        ·exact kG.ix j o hj
       ·rcases List.mem_cons.1 hj with e|hj
        ·cases e
         rw[kQ];simp
        ·exact ID j (pk j o hj)
    ·split at h
     ·exact h.elim
     ·rename_i r0 aau Qi;obtain ⟨h1,fK⟩:=qw Qi;refine ⟨done,x::l,rd,cO,t,H,kd,uO,hI,kG,pk,⟨_,h0⟩,.inr ⟨by simp,fuel,fun r hr bu=>?_⟩⟩;split at h
      ·rename_i kn;rcases List.mem_cons.1 (fK.mem_iff.1 hr) with e|hr
       ·rw[e];exact ⟨aau,fK,h⟩
       ·have:=List.all_eq_true.1 kn r hr;rw[bu] at this;cases this
      ·exact Hh bu fuel [] _ h hr
include hE in
theorem Ko(hn:n<=aY){L:aE->List ai->Prop}{Q:Exit->Act->World->Prop}(hQ:∀t' H' ay a' w',L t' H'->Rl F0 ay H' w'->cW ay n t' a'->Step γ0 σ0 ay (hp H')->Q .normal a' w') :
  ∀(m:Nat) (F:dN) (fuel:Nat) (done:Nat) (rem rd:List Row) (cO:List (Nat×Nat)) (t:aE) (H:List ai) (kd:Nat->PK) (γ:aT) (aq:Array Bool) (a:Act) (w:World),zb E P n ops.toList fuel done rem rd cO t H L->Lk F0 F H ->
  Inv F E ops rows n γ0 σ0 done rem rd t (hp H) kd γ aq a w->DQ kd cO H γ aq->(∀j o,(j,o)∈cO->has done j=true)->aq.toList.count false<=m->wpAny P .any ops Q m aq a w:=by
 intro m;have nV:∀(F:dN) (fuel:Nat) (done:Nat) (rem rd:List Row) (cO:List (Nat×Nat)) (t:aE) (H:List ai) (kd:Nat->PK) (γ:aT) (aq:Array Bool) (a:Act) (w:World),zb E P n ops.toList fuel done rem rd cO t H L->Lk F0 F H ->
   Inv F E ops rows n γ0 σ0 done rem rd t (hp H) kd γ aq a w->DQ kd cO H γ aq->(∀j o,(j,o)∈cO->has done j=true)->Region.ready .any ops aq=[]->Q .normal a w:=by
  intro F fuel done rem rd cO t H kd γ aq a w h uO hI kG pk nV;have kn:∀i,i<ops.size->aq.getD i false=true:=by
   intro i;induction i using Nat.strongRecOn with
   | _ i ih=>
     intro hi;cases hl:aq.getD i false with
     | true=>rfl
     | false=>
       exfalso;have xd:=hrows.all i _ (Array.getElem?_eq_getElem hi);have hs:i<aq.size:=by rw[hI.size];exact hi
       have pW:aq.getD i true=false:=by simpa [hs] using hl
       have:i∈Region.ready .any ops aq:=mem_ready.2 ⟨pW,_,Array.getElem?_eq_getElem hi,fun e he hb=>by
        have Xx:has (yJ ops i ops[i]).pm e.on=true:=(kT _ _).2 ⟨e,by simpa using he,hb,rfl⟩;have an:=hrows.lt _ xd _ Xx;have an:e.on<i:=an;exact ih e.on an (by omega)⟩
       rw[nV] at this;cases this
  obtain ⟨gy,fj,ou,ry,t1,H1,Ad,Iq,mi,sW,IG,⟨f0,w6⟩,vy⟩:=CT (hrows:=hrows) hn fuel done rem rd cO t H kd h uO hI kG pk;have Qm:fj=[]:=by
   cases hr:fj with
   | nil=>rfl
   | cons q l=>
     exfalso;obtain ⟨h1,h2⟩:=mi.mR q (by rw[hr];simp);have:=mi.sub q h1 (kn _ (hrows.idx h1));rw[h2] at this;cases this
  rcases vy with ⟨_,hL⟩|⟨aP,_⟩
  ·refine hQ t1 H1 γ a w hL ⟨(Iq.out _ _ _ mi.rel).1,fun o ho hg=>?_,(Iq.out _ _ _ mi.rel).2 _ (.refl _)⟩ ⟨mi.tmps.size,mi.tmps.defers,fun i v hv=>mi.tmps.get i v ?_⟩ mi.step
   ·obtain ⟨j,b1,b2⟩:=sW.un o ho hg;have b3:=IG j o b1;rw[kn j (by have:=sW.ix j o b1;rw[mi.size] at this;exact this)] at b2;cases b2
   ·rw[T.eW,if_neg,hv];rw[Bool.not_eq_true,iG];intro q hq hp;have h2:=hp.2;rw[kn _ (hrows.idx hq)] at h2;cases h2
  ·exact absurd Qm aP
 induction m with
 | zero=>
   intro F fuel done rem rd cO t H kd γ aq a w h uO hI kG pk hm;have hr:Region.ready .any ops aq=[]:=by
    apply List.eq_nil_iff_forall_not_mem.2;intro i hi;have hf:=(mem_ready.1 hi).1;have an:i<aq.size:=by
     rcases Nat.lt_or_ge i aq.size with h'|h'
     ·exact h'
     ·simp[Array.getElem?_eq_none h'] at hf
    have:=count_set an hf;omega
   exact ⟨hr,nV F fuel done rem rd cO t H kd γ aq a w h uO hI kG pk hr⟩
 | succ m ih=>
   intro F fuel done rem rd cO t H kd γ aq a w h uO hI kG pk hm;refine ⟨nV F fuel done rem rd cO t H kd γ aq a w h uO hI kG pk,fun i hi=>?_⟩;obtain ⟨r,hr,rfl,pW,hc⟩:=CD hrows hi;have an:r.i<aq.size:=by rw[hI.size];exact hrows.idx hr
   have Md:=count_set an pW;have Qq:=sV hI.size pW;obtain ⟨gy,fj,ou,ry,t1,H1,Ad,Iq,mi,sW,IG,⟨f0,w6⟩,vy⟩:=CT (hrows:=hrows) hn fuel done rem rd cO t H kd h uO hI kG pk;by_cases hd:has gy r.i=true
   ·refine mi.Ex hE hrows hr ⟨hd,Qq⟩ hc fun ay a' w' Ip hg=>?_;refine ih F f0 gy fj ou ry t1 H1 Ad ay _ a' w' w6 Iq Ip ⟨fun o ho FW=>?_,sW.kd,sW.lt,fun j o h=>by simpa using sW.ix j o h⟩ IG (by omega);have fP:∀j,(aq.setIfInBounds r.i true).getD j false=if j=r.i then true else aq.getD j false:=fun j=>by
     by_cases e:j=r.i
     ·subst e;rw[if_pos rfl,jK an]
     ·rw[if_neg e,getD_set_ne _ (Ne.symm e)]
    rcases hg with ⟨rfl,qm⟩|⟨ob,k,id,p,hk,rfl⟩
    ·obtain ⟨j,b1,b2⟩:=sW.un o ho FW;refine ⟨j,b1,?_⟩;rw[fP,if_neg,b2];rintro rfl;obtain ⟨ob,k,b3⟩:=sW.kd _ o b1;exact qm _ _ _ b3
    ·by_cases e:o=id
     ·subst e;rw[bI] at FW;cases FW
     ·rw[ck _ _ e] at FW;obtain ⟨j,b1,b2⟩:=sW.un o ho FW;refine ⟨j,b1,?_⟩;rw[fP,if_neg,b2];rintro rfl;obtain ⟨dq,k',b3⟩:=sW.kd _ o b1;rw[hk] at b3;cases b3
      exact e rfl
   ·have hd:has gy r.i=false:=by simpa using hd
    have B0:=(mi.cover r hr).resolve_left (by rw[hd];simp);have nW:ready gy r=true:=CE.2 fun j hj=>by
     have an:j<ops.size:=Nat.lt_trans (hrows.lt r hr j hj) (hrows.idx hr);exact mi.sub _ (hrows.all j _ (Array.getElem?_eq_getElem an)) (hc j hj)
    rcases vy with ⟨rfl,_⟩|⟨_,f,kn⟩
    ·cases B0
    ·obtain ⟨r8,fK,hs⟩:=kn r B0 nW;exact mi.KY hE hrows Iq hn sW IG fK hc hs fun F1 ay t2 H2 a' w' hL Zr Ip Zt=>ih F1 f _ r8 ou ry t2 H2 Ad ay _ a' w' hL Zr Ip Zt (fun j o hj=>by rw[kQ,IG j o hj];rfl) (by omega)
omit hrows in
include hE in
theorem aM.drawn{k:Nat}{id:Nat}{n:Nat}(hn:Nat.ble n aY=true){t:aE}{H:List ai}{Q:fR->aE->List ai->Prop}(hi:indep (eE ops 0 ops.toList)=true)
  (h:zb E P n ops.toList (ops.toList.length+1) 0 (eE ops 0 ops.toList) [] [] t H (fun t H=>Q .normal t H)):aM P n k (.region id ops true) t H Q:=⟨fun F γ w a R hR hT hQ=>by
 have hrows:=Jq hi;obtain ⟨F1,fJ,iW⟩:=tK hR.rel hR.rs;refine wp_region_any hE.wide ?_;refine Ko hE hrows (nB1 hn) (F0:=F) (γ0:=γ) (σ0:=hp H) (L:=fun t H=>Q .normal t H) (fun t' H' ay a' w' h1 h2 h3 h4=>hQ .normal t' H' ay a' w' h1 h2 h3 (.AB h4.ext k)) ops.size F1 _ 0 _ [] [] t H (fun _=>.no) γ _ a _ h ⟨fun ay cJ w' h1=>iW ay cJ w' h1⟩ ?_ ⟨fun o ho hg=>absurd hg (hR.pl o ho),fun j o hj=>(by cases hj),fun j o hj=>(by cases hj),fun j o hj=>(by cases hj)⟩ (fun j o hj=>(by cases hj)) ?_
 ·have qm:∀q,¬cA 0 (Array.replicate ops.size false) q:=fun q hq=>by have:=hq.1;rw[j9] at this;cases this
  have KI:∀j,(Array.replicate ops.size false).getD j false=false:=fun j=>by simp[Array.getElem?_replicate];split<;>rfl
  refine ⟨fun r hr=>⟨hr,j9 _⟩,fun r hr=>.inr hr,?_,fun r _ h=>(by rw[j9] at h;cases h),fun r _ h=>(by rw[KI] at h;cases h),(by simp),fun q _ hq=>absurd hq (qm q),fun q _ _ _ hq=>absurd hq (qm q),fun q _ hq=>absurd hq (qm q),fJ.heap rfl,.refl _ _,⟨hT.size,hT.defers,fun i v hv=>hT.get i v ?_⟩⟩
  ·have:∀(l:List Oper) (i:Nat),(eE ops i l).Pairwise (fun r q=>r.i≠q.i)/\∀r∈eE ops i l,i<=r.i:=by
    intro l;induction l with
    | nil=>intro i;simp[eE]
    | cons o l ih=>
      intro i;obtain ⟨h1,h2⟩:=ih (i+1);simp only[eE,List.pairwise_cons];refine ⟨⟨fun r hr=>?_,h1⟩,fun r hr=>?_⟩
      ·have:=h2 r hr;show i≠r.i;omega
      ·rcases List.mem_cons.1 hr with rfl|hr
       ·exact Nat.le_refl i
       ·have:=h2 r hr;omega
   exact (this ops.toList 0).1
  ·rw[T.eW] at hv;split at hv
   ·cases hv
   ·exact hv
 ·exact Nat.le_trans List.count_le_length (by simp)⟩
end
section
variable{κ α:Type}[DecidableEq κ]
def jr(k:κ):List (κ×α)->Nat->Option (Nat×α)
 | [],_=>none
 | p::l,i=>if k=p.1 then some (i,p.2) else jr k l (i+1)
def dy(k:κ)(l:List (κ×α)):Option α:=(jr k l 0).map (·.2)
def jx(k:κ)(v:α)(l:List (κ×α)):List (κ×α):=
 match jr k l 0 with
 | some (i,_)=>l.set i (k,v)
 | none=>l++[(k,v)]
def AW(k:κ)(l:List (κ×α)):List (κ×α):=
 match jr k l 0 with
 | some (i,_)=>l.eraseIdx i
 | none=>l
end
def mE{κ α:Type}(ek:κ->Value)(ev:α->Value)(l:List (κ×α)):List (Value×Value):=l.map fun p=>(ek p.1,ev p.2)
structure po{κ:Type}[DecidableEq κ](E:Env)(kt:TypeId)(ek:κ->Value):Prop where
 eq:∃d,GA d=true/\(∀a,lX E kt (ofValue (ek a))=some d)/\∀a b,js d (ofValue (ek a)) (ofValue (ek b))=some (decide (a=b))
structure p8(E:Env)(ty kt:TypeId)(zv:AV):Prop where
 out:∃r et er z,E.ty ty=some r/\r.bp=.map kt et/\E.ty et=some er/\er.info.zero=some z/\ofValue z=zv
theorem po.int{E:Env}{kt:TypeId}{q:IntKind}(h:∃r,E.ty kt=some r/\r.bp=.int q):po E kt (fun i:Int=>Value.int q i):=by
 obtain ⟨r,hr,hu⟩:=h;refine ⟨.int q,rfl,fun a=>by simp only[lX,hr,hu,ofValue],fun a b=>?_⟩;simp only[ofValue,js,if_true,Option.some.injEq];by_cases h:a=b<;>simp[h]
section
variable{κ α:Type}[DecidableEq κ]{E:Env}{kt ty:TypeId}{ek:κ->Value}{ev:α->Value}{zv:AV}
theorem uq{d:TypeDesc}(hk:∀a b,js d (ofValue (ek a)) (ofValue (ek b))=some (decide (a=b)))(k:κ):∀(l:List (κ×α)) (i:Nat),eP d (ofValue (ek k)) (uN (mE ek ev l)) i=some ((jr k l i).map fun p=>(p.1,ofValue (ev p.2)))
 | [],_=>rfl
 | p::l,i=>by
   have ih:=uq hk k l (i+1);unfold uN mE at ih ⊢;simp only[List.map_cons,eP,hk];unfold jr;by_cases h:k=p.1
   ·simp[h]
   ·simp only[h,decide_false,if_false];exact ih
variable{P:Program}{mm:Bool}{S:List Nat}{t:aE}{H:List ai}{K:AV->List ai->Prop}{o:Nat}{key:κ}{l:List (κ×α)}{x k m v:Operand}
theorem vn(hT:p8 E ty kt zv)(hK:po E kt ek)(hl:H.length<=aY)(hx:aL t x=some (.map o))(hk:aL t k=some (ofValue (ek key)))(ho:H[o]?=some (.bE (mE ek ev l)))(c:Bool) :
  bK E t (hp H) (.lookup ty x k c)=some (.read (match dy key l with
   | some a=>match c with|true=>.tuple [ofValue (ev a),.lit (.bool true)]|false=>ofValue (ev a)
   | none=>match c with|true=>.tuple [zv,.lit (.bool false)]|false=>zv)):=by
 obtain ⟨r,et,er,z,h1,h2,h3,h4,rfl⟩:=hT.out;obtain ⟨d,_,hd,ql⟩:=hK.eq;have hm:yH (hp H) (.map o)=some (uN (mE ek ev l)):=by
  simp only[yH,aZ hl,ho,Option.map_some,vw]
 simp only[bK,hx,hk,xj,h1,h2,hd,hm,h3,uq ql];unfold dy;cases hf:jr key l 0 with
 | none=>simp only[Option.map_none,h4,Option.map_some];cases c<;>rfl
 | some p=>simp only[Option.map_some];cases c<;>rfl
def XY(ev:α->Value)(zv:AV)(c:Bool):Option α->AV
 | some a=>match c with|true=>.tuple [ofValue (ev a),.lit (.bool true)]|false=>ofValue (ev a)
 | none=>match c with|true=>.tuple [zv,.lit (.bool false)]|false=>zv
theorem aN.look{r:Row}{c:Bool}{oa:Option α}{d:Nat}(zv:AV)(hT:p8 E ty kt zv)(hK:po E kt ek)(FZ:r.o.op=.lookup ty x k c)(hx:aL t x=some (.map o))(hk:aL t k=some (ofValue (ek key)))(ho:H[o]?=some (.bE (mE ek ev l)))(hl:Nat.ble H.length aY=true)
  (ha:dy key l=oa) (hd:r.o.dst=some d) (hv:t.get d=some (XY ev zv c oa)):aN E t H r:=⟨by
 refine ⟨_,by rw[FZ];exact vn hT hK (nB1 hl) hx hk ho c,?_⟩;rw[ha];simp only[hd];rw[hv];cases oa<;>rfl⟩
theorem al.lY(zv:AV)(hT:p8 E ty kt zv)(hK:po E kt ek)(hx:aL t x=some (.map o))(hk:aL t k=some (ofValue (ek key)))(ho:H[o]?=some (.bE (mE ek ev l)))(hl:Nat.ble H.length aY=true)
  (k1:∀a,dy key l=some a->K (.tuple [ofValue (ev a),.lit (.bool true)]) H) (k2:dy key l=none->K (.tuple [zv,.lit (.bool false)]) H):al E P mm S t H (.lookup ty x k true) K:=.ev (by
 refine ⟨_,vn hT hK (nB1 hl) hx hk ho true,?_⟩;cases h:dy key l with
 | some a=>exact k1 a h
 | none=>exact k2 h)
theorem al.jQ(zv:AV)(hT:p8 E ty kt zv)(hK:po E kt ek)(hx:aL t x=some (.map o))(hk:aL t k=some (ofValue (ek key)))(ho:H[o]?=some (.bE (mE ek ev l)))(hl:Nat.ble H.length aY=true)
  (k1:∀a,dy key l=some a->K (ofValue (ev a)) H) (k2:dy key l=none->K zv H):al E P mm S t H (.lookup ty x k false) K:=.ev (by
 refine ⟨_,vn hT hK (nB1 hl) hx hk ho false,?_⟩;cases h:dy key l with
 | some a=>exact k1 a h
 | none=>exact k2 h)
theorem al.dM{a:α}{kv vv:AV}(hT:p8 E ty kt zv)(hK:po E kt ek)(hm:aL t m=some (.map o))(hk:aL t k=some kv)(hv:aL t v=some vv)(ek_:kv=ofValue (ek key))(hkf:kv.flat=some (ek key))(hvf:vv.flat=some (ev a))(ho:H[o]?=some (.bE (mE ek ev l)))(hl:Nat.ble H.length aY=true)
  (k1:mz H o (.bE (mE ek ev (jx key a l))) fun H'=>K aQ H'):al E P mm S t H (.mapUpdate ty m k v) K:=.ev (by
 subst ek_;have hl:=nB1 hl;obtain ⟨r,et,er,z,h1,h2,h3,h4,rfl⟩:=hT.out;obtain ⟨d,_,hd,ql⟩:=hK.eq;rw[k9] at k1;have an:=(lE1.1 ho).1;have hg:(hp H).heap.get o=some (.bE (mE ek ev l)):=by rw[aZ hl,ho];rfl
 refine ⟨.act aQ { hp H with heap:=(hp H).heap.put o (vw (.bE (mE ek ev (jx key a l)))) },?_,_,qn (ob:=.bE (mE ek ev (jx key a l))) hl an,jS _,.of_eq (qC (ob:=.bE (mE ek ev (jx key a l))) ho rfl).symm,k1⟩;simp only[bK,hm,hk,hv,qJ,h1,h2,hd,hg,hkf,hvf,uq ql,vw];unfold jx;cases hf:jr key l 0 with
 | none=>simp[mE]
 | some p=>
   simp only[Option.map_some,Option.some.injEq,Out.act.injEq,true_and,AS.mk.injEq,and_true];simp[mE,List.map_set])
theorem al.QI{op:Op}{r:dd}{kt' et:TypeId}{d:TypeDesc}{es:List (AV×AV×Nat)}{clock:Nat}{kv vv:AV}(FZ:op=.mapUpdate ty m k v\/op=.insert ty m k v)(hr:E.ty ty=some r)(hu:r.bp=.map kt' et)(hm:aL t m=some (.map o))(hk:aL t k=some kv)(hv:aL t v=some vv)(iY:lX E kt' kv=some d)(ho:H[o]?=some (.map es clock))(hf:eP d kv es 0=some none)(hl:Nat.ble H.length aY=true)
  (k1:p6 es (kv,vv,clock) fun es=>oX (clock+1) fun n=>mz H o (.map es n) fun H'=>K aQ H'):al E P mm S t H op K:=.ev (by
 have hl:=nB1 hl;rw[lF,jh,k9] at k1;have an:=(lE1.1 ho).1;have hg:(hp H).heap.get o=some (.map es clock):=by rw[aZ hl,ho];rfl
 refine ⟨.act aQ { hp H with heap:=(hp H).heap.put o (vw (.map (es++[(kv,vv,clock)]) (clock+1))) },?_,_,qn (ob:=.map (es++[(kv,vv,clock)]) (clock+1)) hl an,jS _,.of_eq (qC (ob:=.map (es++[(kv,vv,clock)]) (clock+1)) ho rfl).symm,k1⟩;rcases FZ with rfl|rfl<;>simp only[bK,hm,hk,hv,qJ,hr,hu,iY,hg,hf,vw,Option.map_some])
theorem al.my{c:Call}{ts:List TypeId}(hc:c.callee=.builtin .delete)(nP:c.argTypes.toList=ty::ts)(iD:kD t c.args.toList=some [.map o,ofValue (ek key)])(hT:p8 E ty kt zv)(hK:po E kt ek)(ho:H[o]?=some (.bE (mE ek ev l)))(hl:Nat.ble H.length aY=true)
  (k1:mz H o (.bE (mE ek ev (AW key l))) fun H'=>K aQ H'):al E P mm S t H (.call c) K:=.ev (by
 have hl:=nB1 hl;obtain ⟨r,et,er,z,h1,h2,h3,h4,rfl⟩:=hT.out;obtain ⟨d,hs,hd,ql⟩:=hK.eq;rw[k9] at k1;have an:=(lE1.1 ho).1;have hg:(hp H).heap.get o=some (.bE (mE ek ev l)):=by rw[aZ hl,ho];rfl
 refine ⟨.act aQ { hp H with heap:=(hp H).heap.put o (vw (.bE (mE ek ev (AW key l)))) },?_,_,qn (ob:=.bE (mE ek ev (AW key l))) hl an,jS _,.of_eq (qC (ob:=.bE (mE ek ev (AW key l))) ho rfl).symm,k1⟩;simp only[bK,iD,hc,nP,gP,wL,h1,h2,hd,hg,hs,uq ql,vw];unfold AW;cases hf:jr key l 0 with
 | none=>simp
 | some p=>simp[mE,mH])
end
section
variable{P:Program}{E:Env}{mm:Bool}{S:List Nat}{t:aE}{H:List ai}{K:AV->List ai->Prop}
theorem al.shr{ty yt:TypeId}{x y:Operand}{q q':IntKind}{a b:Int}(hx:aL t x=some (.lit (.int q a)))(hy:aL t y=some (.lit (.int q' b)))(hb:0<=b)(k:K (.lit (.int q (a.fdiv (2 ^ min b.toNat q.bits)))) H):al E P mm S t H (.binOp .shr ty x y yt) K:=.ev
 ⟨.pure (.lit (.int q (a.fdiv (2 ^ min b.toNat q.bits)))),by
  simp only[bK,hx,hy,Bc,Go.binOp,Op.shift,if_neg (show ¬b<0 by omega)];rfl,k⟩
theorem al.shl{ty yt:TypeId}{x y:Operand}{q q':IntKind}{a b:Int}(hx:aL t x=some (.lit (.int q a)))(hy:aL t y=some (.lit (.int q' b)))(hb:0<=b)(k:K (.lit (.int q (q.wrap (a * 2 ^ min b.toNat q.bits)))) H):al E P mm S t H (.binOp .shl ty x y yt) K:=.ev
 ⟨.pure (.lit (.int q (q.wrap (a * 2 ^ min b.toNat q.bits)))),by
  simp only[bK,hx,hy,Bc,Go.binOp,Op.shift,if_neg (show ¬b<0 by omega)];rfl,k⟩
theorem al.quo{ty yt:TypeId}{x y:Operand}{q:IntKind}{a b:Int}(hx:aL t x=some (.lit (.int q a)))(hy:aL t y=some (.lit (.int q b)))(hb:(b==0)=false)(k:K (.lit (.int q (q.wrap (a.tdiv b)))) H):al E P mm S t H (.binOp .quo ty x y yt) K:=.ev
 ⟨.pure (.lit (.int q (q.wrap (a.tdiv b)))),by
  have hb:b≠0:=by simpa using hb
  simp only[bK,hx,hy,Bc,Go.binOp,Op.intDiv,if_neg hb,ne_eq,not_true_eq_false,if_false];rfl,k⟩
theorem al.rem{ty yt:TypeId}{x y:Operand}{q:IntKind}{a b:Int}(hx:aL t x=some (.lit (.int q a)))(hy:aL t y=some (.lit (.int q b)))(hb:(b==0)=false)(k:K (.lit (.int q (a.tmod b))) H):al E P mm S t H (.binOp .rem ty x y yt) K:=.ev
 ⟨.pure (.lit (.int q (a.tmod b))),by
  have hb:b≠0:=by simpa using hb
  simp only[bK,hx,hy,Bc,Go.binOp,Op.intDiv,if_neg hb,ne_eq,not_true_eq_false,if_false];rfl,k⟩
end
def Ce:List (AV×AV×Nat)->Option (List (Value×Value))
 | []=>some []
 | (k,v,_)::l=>match k.flat,v.flat,Ce l with
   | some a,some b,some r=>some ((a,b)::r)
   | _,_,_=>none
def CL:Nat->List (AV×AV×Nat)->Nat->Bool
 | _,[],_=>true
 | b,(_,_,n)::l,c=>Nat.ble b n&&Nat.blt n c&&CL (n+1) l c
inductive Wk:List ai->List ai->Prop
 | nil:Wk [] []
 | same {a:ai} {H H':List ai}:Wk H H'->Wk (a::H) (a::H')
 | map {es:List (AV×AV×Nat)} {c:Nat} {fs:List (Value×Value)} {H H':List ai}:Ce es=some fs->CL 0 es c=true->(fs.map (·.1)).Nodup->Wk H H'->Wk (.map es c::H) (.bE fs::H')
theorem Wk.len{H H':List ai}(h:Wk H H'):H'.length=H.length:=by
 induction h<;>simp_all
theorem Wk.cz{H H':List ai}(h:Wk H H'):cz H'=cz H:=by
 unfold Ev.cz;induction h with
 | nil=>rfl
 | same _ ih=>simp[ih]
 | map _ _ _ _ ih=>simp[ih,iI]
theorem Wk.get{H H':List ai}(h:Wk H H'):∀{o:Nat} {b:ai},H'[o]?=some b->∃a,H[o]?=some a/\(a=b\/∃es c fs,a=.map es c/\b=.bE fs/\Ce es=some fs/\CL 0 es c=true/\(fs.map (·.1)).Nodup):=by
 induction h with
 | nil=>intro o b hb;simp at hb
 | @same a H H' _ ih=>
   intro o b hb;cases o with
   | zero=>simp at hb;subst hb;exact ⟨a,by simp,.inl rfl⟩
   | succ o=>simpa using ih (by simpa using hb)
 | @map es c fs H H' h1 h2 h3 _ ih=>
   intro o b hb;cases o with
   | zero=>simp at hb;subst hb;exact ⟨_,by simp,.inr ⟨es,c,fs,rfl,rfl,h1,h2,h3⟩⟩
   | succ o=>simpa using ih (by simpa using hb)
theorem EM:∀{es:List (AV×AV×Nat)} {b c:Nat} {γ:aT} {l:List MapEntry},CL b es c=true->bf γ es l->(∀x∈l,b<=x.born/\x.born<c)/\(l.map (·.born)).Nodup
 | [],b,c,γ,l,_,he=>by
   simp only[bf] at he;subst he;simp
 | (k,v,n)::es,b,c,γ,l,h,he=>by
   simp only[bf] at he;obtain ⟨k',v',rest,rfl,_,_,he⟩:=he;simp only[CL,Bool.and_eq_true] at h;obtain ⟨⟨h1,h2⟩,h3⟩:=h;have h1:=nB1 h1;have h2:n<c:=nB1 h2;obtain ⟨h4,h5⟩:=EM h3 he;refine ⟨fun x hx=>?_,?_⟩
   ·rcases List.mem_cons.1 hx with rfl|hx
    ·exact ⟨h1,h2⟩
    ·have:=h4 x hx;exact ⟨by omega,this.2⟩
   ·simp only[List.map_cons,List.nodup_cons,List.mem_map,not_exists,not_and];refine ⟨fun x hx e=>?_,h5⟩;have:=(h4 x hx).1;omega
theorem Ep:∀{es:List (AV×AV×Nat)} {fs:List (Value×Value)} {γ:aT} {l:List MapEntry},Ce es=some fs->bf γ es l->l.map (fun e=>(e.key,e.val))=fs
 | [],fs,γ,l,h,he=>by
   simp only[bf] at he;subst he;cases h
   rfl
 | (k,v,n)::es,fs,γ,l,h,he=>by
   simp only[bf] at he;obtain ⟨k',v',rest,rfl,h1,h2,he⟩:=he;simp only[Ce] at h;split at h
   ·rename_i a b r ha hb hr;cases h
    have e1:=jI k a k' ha h1;have e2:=jI v b v' hb h2;subst e1 e2;simp[Ep hr he]
   ·cases h
theorem aU.wk{F:dN}{γ:aT}{H H':List ai}{w:World}(hR:aU F γ (hp H) w)(h:Wk H H'):aU F γ (hp H') w:=by
 have hl:H.length<=aY:=hR.aY;have hl':H'.length<=aY:=by rw[h.len];exact hl
 have key:∀o p,γ o=some (some p)->∃ob,(hp H').heap.get o=some ob/\eo γ ob p w/\((hp H).heap.get o≠some .dead->ob≠.dead):=by
  intro o p bX;obtain ⟨ob,h1,h2⟩:=hR.obj o p bX;rw[aZ hl] at h1;obtain ⟨a,ha,rfl⟩:=oM1.1 h1;have an:=(lE1.1 ha).1;have hlt':o<H'.length:=by rw[h.len];exact an
  have hb:H'[o]?=some H'[o]:=List.getElem?_eq_getElem hlt';obtain ⟨a',yo,Ta⟩:=h.get hb;rw[ha] at yo;cases yo
  rw[aZ hl',hb,aZ hl,ha];refine ⟨_,rfl,?_,?_⟩
  ·rcases Ta with e|⟨es,c,fs,rfl,e,k1,k2,k3⟩
   ·rw[<-e];exact h2
   ·rw[e];obtain ⟨es',hw,he⟩:=h2;obtain ⟨r1,r2⟩:=EM k2 he;have r3:=Ep k1 he;refine ⟨es',c,hw,r3,fun _=>⟨fun x hx=>(r1 x hx).2,r2,?_⟩⟩;rw[<-r3,List.map_map] at k3;exact k3
  ·intro aP hd;rcases Ta with e|⟨es,c,fs,rfl,e,_⟩
   ·exact aP (by rw[e,Option.map_some,hd])
   ·rw[e] at hd;cases hd
 refine ⟨⟨fun o ho=>hR.j6 o (by show H.length<=o;rw[<-h.len];exact ho),fun o p bX=>?_,fun o ho=>?_,hR.inj,hl'⟩,fun o p bX=>?_,hR.frame⟩
 ·obtain ⟨ob,h1,h2,_⟩:=key o p bX;exact ⟨ob,h1,h2⟩
 ·have h1:=hR.gone o ho;rw[aZ hl] at h1;obtain ⟨a,ha,hd⟩:=oM1.1 h1;have an:=(lE1.1 ha).1;have hlt':o<H'.length:=by rw[h.len];exact an
  have hb:H'[o]?=some H'[o]:=List.getElem?_eq_getElem hlt';obtain ⟨a',yo,Ta⟩:=h.get hb;rw[ha] at yo;cases yo
  rw[aZ hl',hb];rcases Ta with e|⟨es,c,fs,rfl,e,_⟩
  ·rw[<-e];simp[hd]
  ·cases hd
 ·obtain ⟨ob,h1,_,h3⟩:=key o p bX;rw[h1];exact fun e=>h3 (hR.live o p bX) (Option.some.inj e)
theorem Rs.wk{F:dN}{γ:aT}{H H':List ai}{w:World}(hR:Rs F γ H w)(h:Wk H H'):Rs F γ H' w:=hR.Bs (.of_eq h.cz.symm)
theorem Rl.wk{F:dN}{γ:aT}{H H':List ai}{w:World}(hR:Rl F γ H w)(h:Wk H H'):Rl F γ H' w:=⟨hR.rel.wk h,fun o ho=>hR.pl o (by rw[<-h.len];exact ho),hR.rs.wk h⟩
theorem aM.wk{P:Program}{n k:Nat}{c:Code}{t:aE}{H H':List ai}{Q:fR->aE->List ai->Prop}(hw:Wk H H')(h:aM P n k c t H' Q):aM P n k c t H Q:=
 ⟨fun F γ w a R hR hT hQ=>h.out F γ w a R (hR.wk hw) hT hQ⟩
theorem aj.wk{P:Program}{f:Nat}{args:List AV}{H:List ai}{K K':AV->List ai->Prop}(h:aj P [] f args H K)(hk:∀v H1,K v H1->∃H2,Wk H1 H2/\K' v H2):aj P [] f args H K':=⟨fun F γ w xs hR cE cK ha=>by
 obtain ⟨h1,h2⟩:=h.out F γ w xs hR cE cK ha;refine ⟨h1,fun R fx=>h2 R fun v H1 ay x w' k1 k2 k3=>?_⟩;obtain ⟨H2,k4,k5⟩:=hk v H1 k1;have hl:=k3.rel.aY;refine fx v H2 ay x w' k5 k2 ⟨k3.rel.wk k4,⟨k3.step.ext,k3.step.new,by show H.length<=H2.length;rw[k4.len];exact k3.step.le,fun o ho hg=>absurd hg (cE o ho (by simp))⟩,fun q hq=>k3.pl q (by rw[<-k4.len];exact hq),k3.rs.wk k4⟩⟩

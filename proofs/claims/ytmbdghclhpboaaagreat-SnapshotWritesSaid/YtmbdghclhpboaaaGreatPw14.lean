/- Part of the proof: SyF SyG. Conditions: as each states. -/
import Derived.Test.YtmbdghclhpboaaaGreatPw13
set_option linter.all false
namespace Go.Proofs.YtmbdghclhpboaaaGreat.Ev
structure aG(E:Env)(t:ax)(H:List af)(r:Row):Prop where
 out:∃out,bz E t (hp H) r.o.op=some out/\(match out with
  | .read v=>(match r.o.dst with
    | some d=>t.get d=some v
    | none=>True)
  | .pure _=>True
  | _=>False)
def mj(E:Env)(pm:Nat)(t:ax)(H:List af):List Row->Prop->Prop
 | [],X=>X
 | r::l,X=>match has pm r.i with
   | true=>mj E pm t H l X
   | false=>aG E t H r/\mj E pm t H l X
theorem p6{E:Env}{pm:Nat}{t:ax}{H:List af}:∀{l:List Row} {X:Prop},mj E pm t H l X->X/\∀r∈l,has pm r.i=false->aG E t H r
 | [],X,h=>⟨h,by simp⟩
 | r::l,X,h=>by
   simp only[mj] at h;split at h
   ·rename_i hh;obtain ⟨h1,h2⟩:=p6 h;refine ⟨h1,fun q hq hp=>?_⟩;rcases List.mem_cons.1 hq with rfl|hq
    ·rw[hh] at hp;cases hp
    ·exact h2 q hq hp
   ·obtain ⟨h1,h2⟩:=p6 h.2;refine ⟨h1,fun q hq hp=>?_⟩;rcases List.mem_cons.1 hq with rfl|hq
    ·exact h.1
    ·exact h2 q hq hp
def SX:Op->Bool
 | .load _ _|.lookup _ _ _ _|.entry _|.convert _ _ _|.call _=>true
 | _=>false
theorem I3{E:Env}{t:ax}{σ:AS}{op:Op}{v:AV}(h:bz E t σ op=some (.read v)):SX op=true:=by
 cases op<;>first
  | rfl
  | (exfalso;simp only[bz] at h;(repeat' split at h)<;>first|(cases h;done)|(obtain ⟨_,_,e⟩:=Option.map_eq_some_iff.1 h;cases e;done))
def lA(pm:Nat):List (Nat×Nat)->List Nat
 | []=>[]
 | (j,o)::l=>match has pm j with
   | true=>lA pm l
   | false=>o::lA pm l
theorem Bq{pm j o:Nat}:∀{l:List (Nat×Nat)},(j,o)∈l->has pm j=false->o∈lA pm l
 | (j',o')::l,h,hj=>by
   simp only[lA];rcases List.mem_cons.1 h with e|h
   ·cases e
    rw[hj];simp
   ·have:=Bq h hj;split
    ·exact this
    ·exact List.mem_cons_of_mem _ this
def Vj(t:ax):Op->Bool
 | .load _ a=>match aE t a with
   | some (.lit (.pointer (some _)))=>true
   | _=>false
 | .fieldAddr _ x _=>match aE t x with
   | some (.lit (.pointer (some _)))=>true
   | _=>false
 | .indexAddr _ x _=>match aE t x with
   | some v=>EV v
   | none=>false
 | .slice _ x _ _ _=>match aE t x with
   | some (.lit (.slice (some _) _ _))=>true
   | _=>false
 | _=>false
structure jJ(X Y:Prop):Prop where
 l:X
 r:Y
def Ko(p:Row->Bool)(F:Row->List Row->Prop):Nat->List Row->List Row->Prop
 | 0,_,_=>False
 | f+1,pre,rem=>match fW p rem with
   | none=>True
   | some (r,oU)=>match fW p oU with
     | none=>F r (pre++oU)
     | some _=>jJ (F r (pre++oU)) (Ko p F f (r::pre) oU)
theorem FL{p:Row->Bool}{F:Row->List Row->Prop}{r:Row}(hp:p r=true):∀(f:Nat) (pre rem:List Row),Ko p F f pre rem->r∈rem->∃m,(pre++rem).Perm (r::m)/\F r m
 | 0,_,_,h,_=>h.elim
 | f+1,pre,rem,h,hr=>by
   rw[Ko] at h;cases hq:fW p rem with
   | none=>
     have:=qz hq r hr;rw[hp] at this;cases this
   | some x=>
     obtain ⟨q,m⟩:=x;rw[hq] at h;simp only[] at h;obtain ⟨_,h2⟩:=pL hq;have h3:(pre++rem).Perm (q::(pre++m)):=(h2.append_left pre).trans List.perm_middle;rcases List.mem_cons.1 (h2.mem_iff.1 hr) with e|hr
     ·rw[e];refine ⟨pre++m,h3,?_⟩;cases hm:fW p m with
      | none=>rw[hm] at h;exact h
      | some y=>rw[hm] at h;exact h.l
     ·cases hm:fW p m with
      | none=>
        have:=qz hm r hr;rw[hp] at this;cases this
      | some y=>
        rw[hm] at h;obtain ⟨m2,h4,h5⟩:=FL hp f (q::pre) m h.r hr;exact ⟨m2,h3.trans h4,h5⟩
def yd(E:Env)(P:Program)(n:Nat)(ops:List Oper):Nat->Nat->List Row->List Row->List (Nat×Nat)->ax->List af->(ax->List af->Prop)->Prop
 | 0,_,_,_,_,_,_,_=>False
 | f+1,done,rem,rd,cz,t,H,K=>match rem with
   | []=>K t H
   | _::_=>match fW (fun r=>r.early&&ready done r&&!Vj t r.o.op) rem with
     | some (r,oU)=>match cY ops t r.o with
       | none=>False
       | some false=>q8 n r.o.dst t aP fun t'=>yd E P n ops f (Nat.lor done (Nat.shiftLeft 1 r.i)) oU rd cz t' H K
       | some true=>Rj E P false [] t H (fun v H'=>fv v fun v=>q8 n r.o.dst t v fun t'=>match Nat.beq (qb H' 0) (qb H 0) with
         | true=>match SX r.o.op with
           | true=>yd E P n ops f (Nat.lor done (Nat.shiftLeft 1 r.i)) oU (r::rd) cz t' H' K
           | false=>yd E P n ops f (Nat.lor done (Nat.shiftLeft 1 r.i)) oU rd cz t' H' K
         | false=>mj E 0 t' H' rd (yd E P n ops f (Nat.lor done (Nat.shiftLeft 1 r.i)) oU rd ((r.i,qb H 0)::cz) t' H' K)) r.o.op
     | none=>match fW (ready done) rem with
       | none=>False
       | some (r,oU)=>match oU.all (fun q=>!ready done q) with
         | true=>qN E P (lA r.pm cz) ops r.o t H (fun v H'=>fv v fun v=>q8 n r.o.dst t v fun t'=>mj E r.pm t' H' rd (yd E P n ops f (Nat.lor done (Nat.shiftLeft 1 r.i)) oU rd cz t' H' K))
         | false=>Ko (ready done) (fun r oU=>qN E P (lA r.pm cz) ops r.o t H (fun v H'=>fv v fun v=>q8 n r.o.dst t v fun t'=>mj E r.pm t' H' rd (yd E P n ops f (Nat.lor done (Nat.shiftLeft 1 r.i)) oU rd cz t' H' K))) f [] rem
structure Lk(F0 F:di)(H:List af):Prop where
 out:∀aq cd w',aL F aq cd w'->aL F0 aq cd w'/\∀H',bc (cC H) (cC H')->Rs F0 aq H' w'
theorem Lk.Ai{F0 F:di}{H H':List af}(h:Lk F0 F H)(e:bc (cC H) (cC H')):Lk F0 F H':=
 ⟨fun γ σ w hR=>⟨(h.out γ σ w hR).1,fun H2 e2=>(h.out γ σ w hR).2 H2 (e.trans e2)⟩⟩
section
variable{F0 F:di}{P:Program}{E:Env}(hE:ch P E){ops:Array Oper}{rows:List Row}(hrows:mZ ops rows){n:Nat}{γ0:aK}{σ0:AS}{done:Nat}{rem rd:List Row}{t:ax}{H:List af}{kd:Nat->PK}{γ:aK}{ak:Array Bool}{a:Act}{w:World}
structure CK(kd:Nat->PK)(cz:List (Nat×Nat))(H:List af)(γ:aK)(ak:Array Bool):Prop where
 un:∀o,o<H.length->γ o=none->∃j,(j,o)∈cz/\ak.getD j false=false
 kd:∀j o,(j,o)∈cz->∃ob k,kd j=.new ob k o
 lt:∀j o,(j,o)∈cz->o<H.length
 ix:∀j o,(j,o)∈cz->j<ak.size
theorem aG.read{r:Row}{v:AV}{σ:AS}{u':AV}(h:aG E t H r)(hb:bz E t σ r.o.op=some (.read u'))(hd:∀d,r.o.dst=some d->t.get d=some v):∃u,bz E t (hp H) r.o.op=some (.read u)/\(r.o.dst≠none->u=v):=by
 obtain ⟨out,h1,h2⟩:=h.out;cases out with
 | read u=>
   refine ⟨u,h1,fun aN=>?_⟩;cases uU:r.o.dst with
   | none=>exact absurd uU aN
   | some d=>
     rw[uU] at h2;simp only[] at h2;rw[hd d uU] at h2;exact (Option.some.inj h2).symm
 | pure u=>
   have:=Ao σ h1;rw[hb] at this;cases this
 | _=>exact h2.elim
include hrows
include hE in
theorem Inv.Jx(tJ:Lk F0 F H)(hI:Inv F E ops rows n γ0 σ0 done rem rd t (hp H) kd γ ak a w)(hn:n<=aU){cz:List (Nat×Nat)}(jQ:CK kd cz H γ ak)(oG:∀j o,(j,o)∈cz->has done j=true){r:Row}{eH:List Row}(bN:rem.Perm (r::eH))(hc:∀j,has r.pm j=true->ak.getD j false=true)
  {L:ax->List af->Prop} (hs:qN E P (lA r.pm cz) ops.toList r.o t H (fun v H'=>fv v fun v=>q8 n r.o.dst t v fun t'=>mj E r.pm t' H' rd (L t' H'))) {Q:Exit->Act->World->Prop} {K:Act->World->Prop}
  (hK:∀F1 aq t1 H1 a' w',L t1 H1->Lk F0 F1 H1->Inv F1 E ops rows n γ0 σ0 (Nat.lor done (Nat.shiftLeft 1 r.i)) eH rd t1 (hp H1) kd aq (ak.setIfInBounds r.i true) a' w'->CK kd cz H1 aq (ak.setIfInBounds r.i true)->K a' w'):wpOp P ops Q r.i K a w:=by
 have AT:r∈rem:=bN.mem_iff.2 (by simp);obtain ⟨hr,sg⟩:=hI.l8 r AT;have hD:(r::eH).Pairwise (fun r q=>r.i≠q.i):=(bN.pairwise_iff (fun h=>Ne.symm h)).1 hI.HT;rw[List.pairwise_cons] at hD;have dT:=uZ hrows hI hr (fun h=>absurd h.1 (by rw[sg];simp)) hc;rw[hrows.ly hr] at dT;have rk:∀o,o<H.length->o∉lA r.pm cz->γ o≠none:=fun o ho hS hg=>by
  obtain ⟨j,h1,h2⟩:=jQ.un o ho hg;have h3:has r.pm j=false:=by
   cases hh:has r.pm j with
   | false=>rfl
   | true=>have:=hc _ hh;rw[h2] at this;cases this
  exact hS (Bq h1 h3)
 have j5:=(hrows.row r hr).1;have UZ:∀{K':Act->World->Prop},(∀v H' aq x w',(fv v fun v=>q8 n r.o.dst t v fun t'=>mj E r.pm t' H' rd (L t' H'))->an aq v x->FB F0 γ (lA r.pm cz) H aq H' w'->K' (a.put r.o.dst x) w')->wpOp P ops Q r.i K' a w:=by
  intro K' Um;obtain ⟨Cl,GZ⟩:=tJ.out _ _ _ hI.rel;have cJ:=GZ H (.refl _);have nY:=hs;unfold qN at nY;unfold wpOp;simp only[j5];have hw:=gY dT;cases hwa:cY ops.toList t r.o with
  | none=>rw[hwa] at nY;exact nY.elim
  | some b=>
    rw[hwa] at nY;have jS:=oC (a:=a) (γ:=γ) (n:=n) (hw ▸ hwa) fun d u _ hu=>hI.tmps.get d u hu;cases b with
    | false=>
      rw[jS];simp only[Bool.false_eq_true,if_false];exact Um aP H γ undef w nY (aM γ _) ⟨Cl,.refl γ _,rk,cJ⟩
    | true=>
      rw[jS];simp only[if_true];refine .inl ?_;rcases Bh hI.rel.aU nY with ⟨out,h1,h2⟩|⟨_,h1⟩
      ·rw[eS dT] at h1;exact Dq hE Cl rk cJ hI.tmps.aE h1 h2 Um
      ·refine Hr h1 Cl rk cJ hI.tmps.aE (fun x hx=>?_) Um;cases x with
       | tmp d=>exact dT d (List.mem_append_left _ (List.mem_filterMap.2 ⟨.tmp d,by simpa using hx,rfl⟩))
       | _=>rfl
 refine UZ fun v H1 aq x w' hL hx hA=>?_;obtain ⟨t1,ht,hL⟩:=lC (rV hL);obtain ⟨hL,lk⟩:=p6 hL;obtain ⟨F1,fq,iN⟩:=wP hA.rel hA.rs;have hi:r.i<ak.size:=by rw[hI.size];exact hrows.idx hr
 have fk:∀j,(ak.setIfInBounds r.i true).getD j false=if j=r.i then true else ak.getD j false:=fun j=>by
  by_cases e:j=r.i
  ·subst e;rw[if_pos rfl,ja hi]
  ·rw[if_neg e,getD_set_ne _ (Ne.symm e)]
 have eM:∀j,has (Nat.lor done (Nat.shiftLeft 1 r.i)) j=true↔has done j=true\/j=r.i:=fun j=>by rw[jY];simp
 have eC:∀q,bW (Nat.lor done (Nat.shiftLeft 1 r.i)) (ak.setIfInBounds r.i true) q↔bW done ak q:=fun q=>by
  unfold bW;rw[fk,eM];by_cases e:q.i=r.i
  ·simp[e,sg]
  ·simp[e]
 have jc:=fun (q:Row) (hq:q∈rows) (eN:bW done ak q)=>su hrows hI hr sg hq eN (.inr hc);have dd:=pM ht hn;refine hK F1 aq t1 H1 _ w' hL ⟨iN⟩ ⟨fun q hq=>?_,fun q hq=>?_,hD.2,fun q hq h j hj=>?_,fun q hq h=>?_,by simp[hI.size],fun q hq h=>?_,fun q hq q' eN h h'=>hI.ids q hq q' eN ((eC q).1 h) ((eC q').1 h'),fun q hq h=>hI.fresh q hq ((eC q).1 h),fq,hI.step.trans hA.step,?_⟩ ⟨fun o ho hg=>?_,jQ.kd,fun j o h=>Nat.lt_of_lt_of_le (jQ.lt j o h) (show H.length<=H1.length from hA.step.le),fun j o h=>by simpa using jQ.ix j o h⟩
 ·have eN:q∈rem:=bN.mem_iff.2 (by simp[hq]);obtain ⟨h1,h2⟩:=hI.l8 q eN;refine ⟨h1,?_⟩;rw[jY,h2];simp[Ne.symm (hD.1 q hq)]
 ·rcases hI.cover q hq with h|h
  ·exact .inl ((eM _).2 (.inl h))
  ·rcases List.mem_cons.1 (bN.mem_iff.1 h) with rfl|h
   ·exact .inl ((eM _).2 (.inr rfl))
   ·exact .inr h
 ·rcases (eM _).1 h with h|h
  ·exact (eM _).2 (.inl (hI.down q hq h j hj))
  ·have e:=hrows.eq hq hr h;subst e;have h1:=hc j hj;have ah:j<ops.size:=Nat.lt_trans (hrows.lt q hq j hj) (hrows.idx hq);have h2:=hrows.all j _ (Array.getElem?_eq_getElem ah);exact (eM _).2 (.inl (hI.sub _ h2 h1))
 ·rw[fk] at h;by_cases e:q.i=r.i
  ·exact (eM _).2 (.inr e)
  ·rw[if_neg e] at h;exact (eM _).2 (.inl (hI.sub q hq h))
 ·have h':=(eC q).1 h;obtain ⟨h1,h2,h3⟩:=hI.cz q hq h';have tj:mi q.looks t t1:=fun d hd=>by
   rw[dd,if_neg];intro e;exact (jc q hq h' d e).1 hd
  have sj:∀d,q.o.dst=some d->t1.get d=t.get d:=fun d hd=>by
   rw[dd,if_neg];intro e;exact (jc q hq h' d e).2 hd
  refine ⟨h1,ui.lP hrows hq tj (fun v ev hm=>?_) hA.step h2,fun d hd=>?_⟩
  ·have UN:has r.pm q.i=false:=by
    cases hh:has r.pm q.i with
    | false=>rfl
    | true=>have:=hc _ hh;rw[h'.2] at this;cases this
   have h2':=h2;rw[ev] at h2';obtain ⟨_,_,u,h4,h5⟩:=h2';have pb:=tj;rw[hrows.ly hq] at pb;rw[eS pb] at h4;exact ⟨hm,(lk q hm UN).read h4 fun d hd=>by rw[sj d hd,(h3 d hd).1,ev];rfl⟩
  ·rw[sj d hd];exact h3 d hd
 ·refine ⟨by cases r.o.dst<;>simpa [Act.put] using hI.tmps.size,by cases r.o.dst<;>exact hI.tmps.defers,fun i u hu=>?_⟩;rw[T.eo] at hu;split at hu
  ·cases hu
  ·rename_i hm;have hm:=gW.1 (Bool.not_eq_true _ ▸ hm:_=false);rw[dd] at hu;by_cases e:r.o.dst=some i
   ·rw[if_pos e] at hu;cases hu
    refine ⟨x,?_,hx⟩;rw[e] at ht ⊢;simp only[Act.put];rw[Array.getElem?_setIfInBounds_self_of_lt (Nat.lt_of_lt_of_le (Bw ht) hI.tmps.size)]
   ·rw[if_neg e] at hu;obtain ⟨y,h1,h2⟩:=hI.tmps.get i u (by
     rw[T.eo,if_neg,hu];rw[Bool.not_eq_true,gW];exact fun q hq h=>hm q hq ((eC q).2 h))
    refine ⟨y,?_,h2.mono hA.step.ext _ _⟩;cases hd:r.o.dst with
    | none=>exact h1
    | some d=>
      simp only[Act.put];rw[Array.getElem?_setIfInBounds_ne (fun h=>e (by rw[hd,h]))];exact h1
 ·by_cases hS:o∈lA r.pm cz
  ·have ig:∀{l:List (Nat×Nat)},o∈lA r.pm l->∃j,(j,o)∈l:=by
    intro l;induction l with
    | nil=>intro h;simp[lA] at h
    | cons x l ih=>
      obtain ⟨j,q⟩:=x;intro h;simp only[lA] at h;split at h
      ·obtain ⟨j',h'⟩:=ih h;exact ⟨j',List.mem_cons_of_mem _ h'⟩
      ·rcases List.mem_cons.1 h with rfl|h
       ·exact ⟨j,by simp⟩
       ·obtain ⟨j',h'⟩:=ih h;exact ⟨j',List.mem_cons_of_mem _ h'⟩
   obtain ⟨j0,Ji⟩:=ig hS;obtain ⟨ob,k,gT⟩:=jQ.kd j0 o Ji;cases ni:γ o with
   | some p=>rcases hA.step.ext o p ni with h|h<;>rw[h] at hg<;>cases hg
   | none=>
     have ah:=jQ.lt j0 o Ji;obtain ⟨j,h1,h2⟩:=jQ.un o ah ni;refine ⟨j,h1,?_⟩;rw[fk,if_neg,h2];rintro rfl;have:=oG _ _ h1;rw[sg] at this;cases this
  ·exact absurd hg (hA.pl o ho hS)
theorem BP(hn:n<=aU){L:ax->List af->Prop}:∀(fuel:Nat) (done:Nat) (rem rd:List Row) (cz:List (Nat×Nat)) (t:ax) (H:List af) (kd:Nat->PK),yd E P n ops.toList fuel done rem rd cz t H L->Lk F0 F H ->
  Inv F E ops rows n γ0 σ0 done rem rd t (hp H) kd γ ak a w->CK kd cz H γ ak->(∀j o,(j,o)∈cz->has done j=true) ->
  ∃fS eH nw qw t1 H1 zf,Lk F0 F H1/\Inv F E ops rows n γ0 σ0 fS eH nw t1 (hp H1) zf γ ak a w/\CK zf qw H1 γ ak/\(∀j o,(j,o)∈qw->has fS j=true)/\(∃f0,yd E P n ops.toList f0 fS eH nw qw t1 H1 L)/\((eH=[]/\L t1 H1) \/
   eH≠[]/\∃f,∀r∈eH,ready fS r=true->∃ra,eH.Perm (r::ra) /\
    qN E P (lA r.pm qw) ops.toList r.o t1 H1 (fun v H'=>fv v fun v=>q8 n r.o.dst t1 v fun t'=>mj E r.pm t' H' nw (yd E P n ops.toList f (Nat.lor fS (Nat.shiftLeft 1 r.i)) ra nw qw t' H' L))):=by
 intro fuel;induction fuel with
 | zero=>intro done rem rd cz t H kd h;exact h.elim
 | succ fuel ih=>
   intro done rem rd cz t H kd h tJ hI jQ oG;have h0:=h;simp only[yd] at h;split at h
   ·exact ⟨done,[],rd,cz,t,H,kd,tJ,hI,jQ,oG,⟨_,h0⟩,.inl ⟨rfl,h⟩⟩
   ·rename_i x l;split at h
    ·rename_i r eH Oa;obtain ⟨h1,fe⟩:=pL Oa;simp only[Bool.and_eq_true] at h1;obtain ⟨⟨qj,mW⟩,_⟩:=h1;obtain ⟨hr,sg⟩:=hI.l8 r (fe.mem_iff.2 (by simp));have UK:ak.getD r.i false=false:=by
      cases hh:ak.getD r.i false with
      | false=>rfl
      | true=>have:=hI.sub r hr hh;rw[sg] at this;cases this
     have GS:∀j,has done j=true->has (Nat.lor done (Nat.shiftLeft 1 r.i)) j=true:=fun j hj=>by rw[jY,hj];rfl
     have GR:∀(k:PK) j o,(j,o)∈cz->∃ob x,(fun j=>if j=r.i then k else kd j) j=.new ob x o:=fun k j o hj=>by
      have hd:=oG j o hj;have:j≠r.i:=fun e=>by rw[e,sg] at hd;cases hd
      simp only[if_neg this];exact jQ.kd j o hj
     have sat:∀{t1:ax} {v:AV},oj n t r.o.dst v=some t1->cY ops.toList t1 r.o=cY ops.toList t r.o/\∀σ,bz E t1 σ r.o.op=bz E t σ r.o.op:=fun {t1 v} ht=>by
      have dT:mi r.looks t t1:=fun d hd=>by
       rw[pM ht hn,if_neg];intro e;exact hrows.self r hr qj d e hd
      rw[hrows.ly hr] at dT;exact ⟨(gY dT).symm,fun σ=>(eS (E:=E) (σ:=σ) dT).symm⟩
     split at h
     ·exact h.elim
     ·rename_i hw;obtain ⟨t1,ht,h⟩:=lC h;obtain ⟨e1,e2⟩:=sat ht;exact ih _ _ _ _ _ _ _ h tJ (hI.ahead hrows hn fe qj mW (k:=.no) ht (e1.trans hw) (fun _ _ _ e=>by cases e) (fun q v hq hk hm he hd=>⟨hm,he⟩) hI.rel (.refl _ _)) ⟨jQ.un,GR _,jQ.lt,jQ.ix⟩ fun j o hj=>GS j (oG j o hj)
     ·rename_i hw;obtain ⟨out,gB,hk⟩:=(Bh hI.rel.aU h).resolve_right (fun h=>by cases h.1);have KF:Nat.beq (qb H 0) (qb H 0)=true:=Nat.beq_refl _;have he:=hrows.Gk hr;rw[qj] at he;rcases rN he.symm gB with ⟨v,rfl⟩|⟨v,rfl⟩|⟨ob,k,rfl⟩
      ·obtain ⟨t1,ht,hk⟩:=lC (rV hk);simp only[KF] at hk;obtain ⟨e1,e2⟩:=sat ht;split at hk
       ·exact ih _ _ _ _ _ _ _ hk tJ (hI.ahead hrows hn fe qj mW (k:=.now v) ht ⟨e1.trans hw,(e2 _).trans gB⟩ (fun _ _ _ e=>by cases e) (fun q v hq hk hm he hd=>⟨List.mem_cons_of_mem _ hm,he⟩) hI.rel (.refl _ _)) ⟨jQ.un,GR _,jQ.lt,jQ.ix⟩ fun j o hj=>GS j (oG j o hj)
       ·exact ih _ _ _ _ _ _ _ hk tJ (hI.ahead hrows hn fe qj mW (k:=.now v) ht ⟨e1.trans hw,(e2 _).trans gB⟩ (fun _ _ _ e=>by cases e) (fun q v hq hk hm he hd=>⟨hm,he⟩) hI.rel (.refl _ _)) ⟨jQ.un,GR _,jQ.lt,jQ.ix⟩ fun j o hj=>GS j (oG j o hj)
      ·obtain ⟨t1,ht,hk⟩:=lC (rV hk);simp only[KF,I3 gB] at hk;obtain ⟨e1,e2⟩:=sat ht;exact ih _ _ _ _ _ _ _ hk tJ (hI.ahead hrows hn fe qj mW (k:=.read v) ht ⟨e1.trans hw,by simp,v,(e2 _).trans gB,fun _=>rfl⟩ (fun _ _ _ e=>by cases e) (fun q v hq hk hm he hd=>⟨List.mem_cons_of_mem _ hm,he⟩) hI.rel (.refl _ _)) ⟨jQ.un,GR _,jQ.lt,jQ.ix⟩ fun j o hj=>GS j (oG j o hj)
      ·obtain ⟨ah,hk⟩:=hk;obtain ⟨t1,ht,hk⟩:=lC (rV hk);have aN:Nat.beq (qb (H++[ob]) 0) (qb H 0)=false:=by
        rw[lf,lf];cases hb:Nat.beq (0+(H++[ob]).length) (0+H.length) with
        | false=>rfl
        | true=>have:=Nat.eq_of_beq_eq_true hb;simp at this
       simp only[aN] at hk;obtain ⟨hk,lk⟩:=p6 hk;obtain ⟨e1,e2⟩:=sat ht;have LW:=vR gB;have eO:=hI.rel.aU;have eO:H.length<=aU:=eO;have hm:=hI.rel.more (show (hp H).next<aU from ah) ob;have heq:ye { heap:=(hp H).heap.put (hp H).next ob,next:=(hp H).next+1 } (H++[ob]):=by
        refine ⟨by simp[hp],fun q=>?_⟩;simp only[];rw[T.bH _ _ _ _ (show (hp H).next<=aU from Nat.le_of_lt ah),aT eO];by_cases e:q=(hp H).next
        ·subst e;rw[if_pos rfl];simp[hp,LW]
        ·rw[if_neg e];have e:q≠H.length:=e;rcases Nat.lt_or_ge q H.length with h5|h5
         ·rw[List.getElem?_append_left h5]
         ·rw[List.getElem?_eq_none h5,List.getElem?_eq_none (by simp;omega)]
       have Cq:=hm.ID heq;have pC:kh ob=aA:=by cases ob<;>first|rfl|cases LW
       have EF:qb H 0=H.length:=by rw[lf,Nat.zero_add]
       rw[EF] at hk;refine ih _ _ _ _ _ _ _ hk (tJ.Ai (pv pC)) (hI.ahead hrows hn fe qj mW (k:=.new ob k H.length) ht ⟨e1.trans hw,(e2 _).trans (xn _ gB),by show H.length<(H++[ob]).length;simp,hI.rel.jv _ (Nat.le_refl _),?_⟩ (fun _ _ _ e=>by cases e;exact Nat.le_refl _) (fun q v hq za Xg he hd=>?_) Cq ((Step.more hI.rel ah ob).ID heq (show (H++[ob]).length<=aU from Cq.aU))) ⟨fun o ho hg=>?_,fun j o hj=>?_,fun j o hj=>?_,fun j o hj=>?_⟩ fun j o hj=>?_
       ·rw[aT (show (H++[ob]).length<=aU from Cq.aU)];simp[LW]
       ·obtain ⟨u,hu,_⟩:=he;exact ⟨Xg,(lk q Xg (jy _)).read hu hd⟩
       ·simp only[List.length_append,List.length_cons,List.length_nil] at ho;rcases Nat.lt_or_ge o H.length with h5|h5
        ·obtain ⟨j,b1,b2⟩:=jQ.un o h5 hg;exact ⟨j,List.mem_cons_of_mem _ b1,b2⟩
        ·obtain rfl:o=H.length:=by omega
         exact ⟨r.i,by simp,UK⟩
       ·rcases List.mem_cons.1 hj with e|hj
        ·cases e
         exact ⟨ob,k,by simp⟩
        ·exact GR _ j o hj
       ·rcases List.mem_cons.1 hj with e|hj
        ·cases e;simp
        ·have:=jQ.lt j o hj;simp;omega
       ·rcases List.mem_cons.1 hj with e|hj
        ·cases e;rw[hI.size];exact hrows.idx hr
        ·exact jQ.ix j o hj
       ·rcases List.mem_cons.1 hj with e|hj
        ·cases e
         rw[jY];simp
        ·exact GS j (oG j o hj)
    ·split at h
     ·exact h.elim
     ·rename_i r0 XT Ob;obtain ⟨h1,fe⟩:=pL Ob;refine ⟨done,x::l,rd,cz,t,H,kd,tJ,hI,jQ,oG,⟨_,h0⟩,.inr ⟨by simp,fuel,fun r hr bq=>?_⟩⟩;split at h
      ·rename_i jF;rcases List.mem_cons.1 (fe.mem_iff.1 hr) with e|hr
       ·rw[e];exact ⟨XT,fe,h⟩
       ·have:=List.all_eq_true.1 jF r hr;rw[bq] at this;cases this
      ·exact FL bq fuel [] _ h hr
include hE in
theorem I2(hn:n<=aU){L:ax->List af->Prop}{Q:Exit->Act->World->Prop}(hQ:∀t' H' aq a' w',L t' H'->Rl F0 aq H' w'->cE aq n t' a'->Step γ0 σ0 aq (hp H')->Q .normal a' w') :
  ∀(m:Nat) (F:di) (fuel:Nat) (done:Nat) (rem rd:List Row) (cz:List (Nat×Nat)) (t:ax) (H:List af) (kd:Nat->PK) (γ:aK) (ak:Array Bool) (a:Act) (w:World),yd E P n ops.toList fuel done rem rd cz t H L->Lk F0 F H ->
  Inv F E ops rows n γ0 σ0 done rem rd t (hp H) kd γ ak a w->CK kd cz H γ ak->(∀j o,(j,o)∈cz->has done j=true)->ak.toList.count false<=m->wpAny P .any ops Q m ak a w:=by
 intro m;have pC:∀(F:di) (fuel:Nat) (done:Nat) (rem rd:List Row) (cz:List (Nat×Nat)) (t:ax) (H:List af) (kd:Nat->PK) (γ:aK) (ak:Array Bool) (a:Act) (w:World),yd E P n ops.toList fuel done rem rd cz t H L->Lk F0 F H ->
   Inv F E ops rows n γ0 σ0 done rem rd t (hp H) kd γ ak a w->CK kd cz H γ ak->(∀j o,(j,o)∈cz->has done j=true)->Region.ready .any ops ak=[]->Q .normal a w:=by
  intro F fuel done rem rd cz t H kd γ ak a w h tJ hI jQ oG pC;have jF:∀i,i<ops.size->ak.getD i false=true:=by
   intro i;induction i using Nat.strongRecOn with
   | _ i ih=>
     intro hi;cases hl:ak.getD i false with
     | true=>rfl
     | false=>
       exfalso;have wm:=hrows.all i _ (Array.getElem?_eq_getElem hi);have hs:i<ak.size:=by rw[hI.size];exact hi
       have rk:ak.getD i true=false:=by simpa [hs] using hl
       have:i∈Region.ready .any ops ak:=mem_ready.2 ⟨rk,_,Array.getElem?_eq_getElem hi,fun e he hb=>by
        have UR:has (xK ops i ops[i]).pm e.on=true:=(jZ _ _).2 ⟨e,by simpa using he,hb,rfl⟩;have ah:=hrows.lt _ wm _ UR;have ah:e.on<i:=ah;exact ih e.on ah (by omega)⟩
       rw[pC] at this;cases this
  obtain ⟨fS,eH,nw,qw,t1,H1,zf,GD,lJ,rZ,GW,⟨f0,v9⟩,uS⟩:=BP (hrows:=hrows) hn fuel done rem rd cz t H kd h tJ hI jQ oG;have Of:eH=[]:=by
   cases hr:eH with
   | nil=>rfl
   | cons q l=>
     exfalso;obtain ⟨h1,h2⟩:=lJ.l8 q (by rw[hr];simp);have:=lJ.sub q h1 (jF _ (hrows.idx h1));rw[h2] at this;cases this
  rcases uS with ⟨_,hL⟩|⟨aN,_⟩
  ·refine hQ t1 H1 γ a w hL ⟨(GD.out _ _ _ lJ.rel).1,fun o ho hg=>?_,(GD.out _ _ _ lJ.rel).2 _ (.refl _)⟩ ⟨lJ.tmps.size,lJ.tmps.defers,fun i v hv=>lJ.tmps.get i v ?_⟩ lJ.step
   ·obtain ⟨j,b1,b2⟩:=rZ.un o ho hg;have b3:=GW j o b1;rw[jF j (by have:=rZ.ix j o b1;rw[lJ.size] at this;exact this)] at b2;cases b2
   ·rw[T.eo,if_neg,hv];rw[Bool.not_eq_true,gW];intro q hq hp;have h2:=hp.2;rw[jF _ (hrows.idx hq)] at h2;cases h2
  ·exact absurd Of aN
 induction m with
 | zero=>
   intro F fuel done rem rd cz t H kd γ ak a w h tJ hI jQ oG hm;have hr:Region.ready .any ops ak=[]:=by
    apply List.eq_nil_iff_forall_not_mem.2;intro i hi;have hf:=(mem_ready.1 hi).1;have ah:i<ak.size:=by
     rcases Nat.lt_or_ge i ak.size with h'|h'
     ·exact h'
     ·simp[Array.getElem?_eq_none h'] at hf
    have:=count_set ah hf;omega
   exact ⟨hr,pC F fuel done rem rd cz t H kd γ ak a w h tJ hI jQ oG hr⟩
 | succ m ih=>
   intro F fuel done rem rd cz t H kd γ ak a w h tJ hI jQ oG hm;refine ⟨pC F fuel done rem rd cz t H kd γ ak a w h tJ hI jQ oG,fun i hi=>?_⟩;obtain ⟨r,hr,rfl,rk,hc⟩:=BB hrows hi;have ah:r.i<ak.size:=by rw[hI.size];exact hrows.idx hr
   have KF:=count_set ah rk;have Oj:=rY hI.size rk;obtain ⟨fS,eH,nw,qw,t1,H1,zf,GD,lJ,rZ,GW,⟨f0,v9⟩,uS⟩:=BP (hrows:=hrows) hn fuel done rem rd cz t H kd h tJ hI jQ oG;by_cases hd:has fS r.i=true
   ·refine lJ.Ds hE hrows hr ⟨hd,Oj⟩ hc fun aq a' w' GC hg=>?_;refine ih F f0 fS eH nw qw t1 H1 zf aq _ a' w' v9 GD GC ⟨fun o ho Jm=>?_,rZ.kd,rZ.lt,fun j o h=>by simpa using rZ.ix j o h⟩ GW (by omega);have fk:∀j,(ak.setIfInBounds r.i true).getD j false=if j=r.i then true else ak.getD j false:=fun j=>by
     by_cases e:j=r.i
     ·subst e;rw[if_pos rfl,ja ah]
     ·rw[if_neg e,getD_set_ne _ (Ne.symm e)]
    rcases hg with ⟨rfl,pD⟩|⟨ob,k,id,p,hk,rfl⟩
    ·obtain ⟨j,b1,b2⟩:=rZ.un o ho Jm;refine ⟨j,b1,?_⟩;rw[fk,if_neg,b2];rintro rfl;obtain ⟨ob,k,b3⟩:=rZ.kd _ o b1;exact pD _ _ _ b3
    ·by_cases e:o=id
     ·subst e;rw[bu] at Jm;cases Jm
     ·rw[bU _ _ e] at Jm;obtain ⟨j,b1,b2⟩:=rZ.un o ho Jm;refine ⟨j,b1,?_⟩;rw[fk,if_neg,b2];rintro rfl;obtain ⟨cT,k',b3⟩:=rZ.kd _ o b1;rw[hk] at b3;cases b3
      exact e rfl
   ·have hd:has fS r.i=false:=by simpa using hd
    have AT:=(lJ.cover r hr).resolve_left (by rw[hd];simp);have mW:ready fS r=true:=BC.2 fun j hj=>by
     have ah:j<ops.size:=Nat.lt_trans (hrows.lt r hr j hj) (hrows.idx hr);exact lJ.sub _ (hrows.all j _ (Array.getElem?_eq_getElem ah)) (hc j hj)
    rcases uS with ⟨rfl,_⟩|⟨_,f,jF⟩
    ·cases AT
    ·obtain ⟨ra,fe,hs⟩:=jF r AT mW;exact lJ.Jx hE hrows GD hn rZ GW fe hc hs fun F1 aq t2 H2 a' w' hL WI GC WK=>ih F1 f _ ra nw qw t2 H2 zf aq _ a' w' hL WI GC WK (fun j o hj=>by rw[jY,GW j o hj];rfl) (by omega)
omit hrows in
include hE in
theorem aJ.drawn{k:Nat}{id:Nat}{n:Nat}(hn:Nat.ble n aU=true){t:ax}{H:List af}{Q:fp->ax->List af->Prop}(hi:indep (dR ops 0 ops.toList)=true)
  (h:yd E P n ops.toList (ops.toList.length+1) 0 (dR ops 0 ops.toList) [] [] t H (fun t H=>Q .normal t H)):aJ P n k (.region id ops true) t H Q:=⟨fun F γ w a R hR hT hQ=>by
 have hrows:=HY hi;obtain ⟨F1,fq,iN⟩:=wP hR.rel hR.rs;refine wp_region_any hE.wide ?_;refine I2 hE hrows (Nat.le_of_ble_eq_true hn) (F0:=F) (γ0:=γ) (σ0:=hp H) (L:=fun t H=>Q .normal t H) (fun t' H' aq a' w' h1 h2 h3 h4=>hQ .normal t' H' aq a' w' h1 h2 h3 (.zD h4.ext k)) ops.size F1 _ 0 _ [] [] t H (fun _=>.no) γ _ a _ h ⟨fun aq cd w' h1=>iN aq cd w' h1⟩ ?_ ⟨fun o ho hg=>absurd hg (hR.pl o ho),fun j o hj=>(by cases hj),fun j o hj=>(by cases hj),fun j o hj=>(by cases hj)⟩ (fun j o hj=>(by cases hj)) ?_
 ·have pD:∀q,¬bW 0 (Array.replicate ops.size false) q:=fun q hq=>by have:=hq.1;rw[jy] at this;cases this
  have Jl:∀j,(Array.replicate ops.size false).getD j false=false:=fun j=>by simp[Array.getElem?_replicate];split<;>rfl
  refine ⟨fun r hr=>⟨hr,jy _⟩,fun r hr=>.inr hr,?_,fun r _ h=>(by rw[jy] at h;cases h),fun r _ h=>(by rw[Jl] at h;cases h),(by simp),fun q _ hq=>absurd hq (pD q),fun q _ _ _ hq=>absurd hq (pD q),fun q _ hq=>absurd hq (pD q),fq.heap rfl,.refl _ _,⟨hT.size,hT.defers,fun i v hv=>hT.get i v ?_⟩⟩
  ·have:∀(l:List Oper) (i:Nat),(dR ops i l).Pairwise (fun r q=>r.i≠q.i)/\∀r∈dR ops i l,i<=r.i:=by
    intro l;induction l with
    | nil=>intro i;simp[dR]
    | cons o l ih=>
      intro i;obtain ⟨h1,h2⟩:=ih (i+1);simp only[dR,List.pairwise_cons];refine ⟨⟨fun r hr=>?_,h1⟩,fun r hr=>?_⟩
      ·have:=h2 r hr;show i≠r.i;omega
      ·rcases List.mem_cons.1 hr with rfl|hr
       ·exact Nat.le_refl i
       ·have:=h2 r hr;omega
   exact (this ops.toList 0).1
  ·rw[T.eo] at hv;split at hv
   ·cases hv
   ·exact hv
 ·exact Nat.le_trans List.count_le_length (by simp)⟩
end
section
variable{κ α:Type}[DecidableEq κ]
def iM(k:κ):List (κ×α)->Nat->Option (Nat×α)
 | [],_=>none
 | p::l,i=>if k=p.1 then some (i,p.2) else iM k l (i+1)
def cV(k:κ)(l:List (κ×α)):Option α:=(iM k l 0).map (·.2)
def iR(k:κ)(v:α)(l:List (κ×α)):List (κ×α):=
 match iM k l 0 with
 | some (i,_)=>l.set i (k,v)
 | none=>l++[(k,v)]
def zR(k:κ)(l:List (κ×α)):List (κ×α):=
 match iM k l 0 with
 | some (i,_)=>l.eraseIdx i
 | none=>l
end
def mE{κ α:Type}(ek:κ->Value)(ev:α->Value)(l:List (κ×α)):List (Value×Value):=l.map fun p=>(ek p.1,ev p.2)
structure oI{κ:Type}[DecidableEq κ](E:Env)(kt:TypeId)(ek:κ->Value):Prop where
 eq:∃d,Fh d=true/\(∀a,lu E kt (ofValue (ek a))=some d)/\∀a b,iO d (ofValue (ek a)) (ofValue (ek b))=some (decide (a=b))
structure pj(E:Env)(ty kt:TypeId)(zv:AV):Prop where
 out:∃r et er z,E.ty ty=some r/\r.bg=.map kt et/\E.ty et=some er/\er.info.zero=some z/\ofValue z=zv
theorem oI.int{E:Env}{kt:TypeId}{q:IntKind}(h:∃r,E.ty kt=some r/\r.bg=.int q):oI E kt (fun i:Int=>Value.int q i):=by
 obtain ⟨r,hr,hu⟩:=h;refine ⟨.int q,rfl,fun a=>by simp only[lu,hr,hu,ofValue],fun a b=>?_⟩;simp only[ofValue,iO,if_true,Option.some.injEq];by_cases h:a=b<;>simp[h]
section
variable{κ α:Type}[DecidableEq κ]{E:Env}{kt ty:TypeId}{ek:κ->Value}{ev:α->Value}{zv:AV}
theorem tf{d:TypeDesc}(hk:∀a b,iO d (ofValue (ek a)) (ofValue (ek b))=some (decide (a=b)))(k:κ):∀(l:List (κ×α)) (i:Nat),dZ d (ofValue (ek k)) (tI (mE ek ev l)) i=some ((iM k l i).map fun p=>(p.1,ofValue (ev p.2)))
 | [],_=>rfl
 | p::l,i=>by
   have ih:=tf hk k l (i+1);unfold tI mE at ih ⊢;simp only[List.map_cons,dZ,hk];unfold iM;by_cases h:k=p.1
   ·simp[h]
   ·simp only[h,decide_false,if_false];exact ih
variable{P:Program}{mm:Bool}{S:List Nat}{t:ax}{H:List af}{K:AV->List af->Prop}{o:Nat}{key:κ}{l:List (κ×α)}{x k m v:Operand}
theorem uN(hT:pj E ty kt zv)(hK:oI E kt ek)(hl:H.length<=aU)(hx:aE t x=some (.map o))(hk:aE t k=some (ofValue (ek key)))(ho:H[o]?=some (.br (mE ek ev l)))(c:Bool) :
  bz E t (hp H) (.lookup ty x k c)=some (.read (match cV key l with
   | some a=>match c with|true=>.tuple [ofValue (ev a),.lit (.bool true)]|false=>ofValue (ev a)
   | none=>match c with|true=>.tuple [zv,.lit (.bool false)]|false=>zv)):=by
 obtain ⟨r,et,er,z,h1,h2,h3,h4,rfl⟩:=hT.out;obtain ⟨d,_,hd,pB⟩:=hK.eq;have hm:xI (hp H) (.map o)=some (tI (mE ek ev l)):=by
  simp only[xI,aT hl,ho,Option.map_some,vw]
 simp only[bz,hx,hk,wz,h1,h2,hd,hm,h3,tf pB];unfold cV;cases hf:iM key l 0 with
 | none=>simp only[Option.map_none,h4,Option.map_some];cases c<;>rfl
 | some p=>simp only[Option.map_some];cases c<;>rfl
def Vn(ev:α->Value)(zv:AV)(c:Bool):Option α->AV
 | some a=>match c with|true=>.tuple [ofValue (ev a),.lit (.bool true)]|false=>ofValue (ev a)
 | none=>match c with|true=>.tuple [zv,.lit (.bool false)]|false=>zv
theorem aG.look{r:Row}{c:Bool}{oa:Option α}{d:Nat}(zv:AV)(hT:pj E ty kt zv)(hK:oI E kt ek)(EO:r.o.op=.lookup ty x k c)(hx:aE t x=some (.map o))(hk:aE t k=some (ofValue (ek key)))(ho:H[o]?=some (.br (mE ek ev l)))(hl:Nat.ble H.length aU=true)
  (ha:cV key l=oa) (hd:r.o.dst=some d) (hv:t.get d=some (Vn ev zv c oa)):aG E t H r:=⟨by
 refine ⟨_,by rw[EO];exact uN hT hK (Nat.le_of_ble_eq_true hl) hx hk ho c,?_⟩;rw[ha];simp only[hd];rw[hv];cases oa<;>rfl⟩
theorem ai.lx(zv:AV)(hT:pj E ty kt zv)(hK:oI E kt ek)(hx:aE t x=some (.map o))(hk:aE t k=some (ofValue (ek key)))(ho:H[o]?=some (.br (mE ek ev l)))(hl:Nat.ble H.length aU=true)
  (k1:∀a,cV key l=some a->K (.tuple [ofValue (ev a),.lit (.bool true)]) H) (k2:cV key l=none->K (.tuple [zv,.lit (.bool false)]) H):ai E P mm S t H (.lookup ty x k true) K:=.ev (by
 refine ⟨_,uN hT hK (Nat.le_of_ble_eq_true hl) hx hk ho true,?_⟩;cases h:cV key l with
 | some a=>exact k1 a h
 | none=>exact k2 h)
theorem ai.jg(zv:AV)(hT:pj E ty kt zv)(hK:oI E kt ek)(hx:aE t x=some (.map o))(hk:aE t k=some (ofValue (ek key)))(ho:H[o]?=some (.br (mE ek ev l)))(hl:Nat.ble H.length aU=true)
  (k1:∀a,cV key l=some a->K (ofValue (ev a)) H) (k2:cV key l=none->K zv H):ai E P mm S t H (.lookup ty x k false) K:=.ev (by
 refine ⟨_,uN hT hK (Nat.le_of_ble_eq_true hl) hx hk ho false,?_⟩;cases h:cV key l with
 | some a=>exact k1 a h
 | none=>exact k2 h)
theorem ai.dg{a:α}{kv vv:AV}(hT:pj E ty kt zv)(hK:oI E kt ek)(hm:aE t m=some (.map o))(hk:aE t k=some kv)(hv:aE t v=some vv)(YG:kv=ofValue (ek key))(Y7:kv.flat=some (ek key))(Zq:vv.flat=some (ev a))(ho:H[o]?=some (.br (mE ek ev l)))(hl:Nat.ble H.length aU=true)
  (k1:lS H o (.br (mE ek ev (iR key a l))) fun H'=>K aP H'):ai E P mm S t H (.mapUpdate ty m k v) K:=.ev (by
 subst YG;have hl:=Nat.le_of_ble_eq_true hl;obtain ⟨r,et,er,z,h1,h2,h3,h4,rfl⟩:=hT.out;obtain ⟨d,_,hd,pB⟩:=hK.eq;rw[ki] at k1;have ah:=(List.getElem?_eq_some_iff.1 ho).1;have hg:(hp H).heap.get o=some (.br (mE ek ev l)):=by rw[aT hl,ho];rfl
 refine ⟨.act aP { hp H with heap:=(hp H).heap.put o (vw (.br (mE ek ev (iR key a l)))) },?_,_,pE (ob:=.br (mE ek ev (iR key a l))) hl ah,ji _,.of_eq (pP (ob:=.br (mE ek ev (iR key a l))) ho rfl).symm,k1⟩;simp only[bz,hm,hk,hv,pT,h1,h2,hd,hg,Y7,Zq,tf pB,vw];unfold iR;cases hf:iM key l 0 with
 | none=>simp[mE]
 | some p=>
   simp only[Option.map_some,Option.some.injEq,Out.act.injEq,true_and,AS.mk.injEq,and_true];simp[mE,List.map_set])
theorem ai.OB{op:Op}{r:cZ}{XG et:TypeId}{d:TypeDesc}{es:List (AV×AV×Nat)}{clock:Nat}{kv vv:AV}(EO:op=.mapUpdate ty m k v\/op=.insert ty m k v)(hr:E.ty ty=some r)(hu:r.bg=.map XG et)(hm:aE t m=some (.map o))(hk:aE t k=some kv)(hv:aE t v=some vv)(iq:lu E XG kv=some d)(ho:H[o]?=some (.map es clock))(hf:dZ d kv es 0=some none)(hl:Nat.ble H.length aU=true)
  (k1:pg es (kv,vv,clock) fun es=>oc (clock+1) fun n=>lS H o (.map es n) fun H'=>K aP H'):ai E P mm S t H op K:=.ev (by
 have hl:=Nat.le_of_ble_eq_true hl;rw[kQ,iE,ki] at k1;have ah:=(List.getElem?_eq_some_iff.1 ho).1;have hg:(hp H).heap.get o=some (.map es clock):=by rw[aT hl,ho];rfl
 refine ⟨.act aP { hp H with heap:=(hp H).heap.put o (vw (.map (es++[(kv,vv,clock)]) (clock+1))) },?_,_,pE (ob:=.map (es++[(kv,vv,clock)]) (clock+1)) hl ah,ji _,.of_eq (pP (ob:=.map (es++[(kv,vv,clock)]) (clock+1)) ho rfl).symm,k1⟩;rcases EO with rfl|rfl<;>simp only[bz,hm,hk,hv,pT,hr,hu,iq,hg,hf,vw,Option.map_some])
theorem ai.lR{c:Call}{ts:List TypeId}(hc:c.callee=.builtin .delete)(mR:c.argTypes.toList=ty::ts)(gR:jN t c.args.toList=some [.map o,ofValue (ek key)])(hT:pj E ty kt zv)(hK:oI E kt ek)(ho:H[o]?=some (.br (mE ek ev l)))(hl:Nat.ble H.length aU=true)
  (k1:lS H o (.br (mE ek ev (zR key l))) fun H'=>K aP H'):ai E P mm S t H (.call c) K:=.ev (by
 have hl:=Nat.le_of_ble_eq_true hl;obtain ⟨r,et,er,z,h1,h2,h3,h4,rfl⟩:=hT.out;obtain ⟨d,hs,hd,pB⟩:=hK.eq;rw[ki] at k1;have ah:=(List.getElem?_eq_some_iff.1 ho).1;have hg:(hp H).heap.get o=some (.br (mE ek ev l)):=by rw[aT hl,ho];rfl
 refine ⟨.act aP { hp H with heap:=(hp H).heap.put o (vw (.br (mE ek ev (zR key l)))) },?_,_,pE (ob:=.br (mE ek ev (zR key l))) hl ah,ji _,.of_eq (pP (ob:=.br (mE ek ev (zR key l))) ho rfl).symm,k1⟩;simp only[bz,gR,hc,mR,gp,vL,h1,h2,hd,hg,hs,tf pB,vw];unfold zR;cases hf:iM key l 0 with
 | none=>simp
 | some p=>simp[mE,lV])
end
section
variable{P:Program}{E:Env}{mm:Bool}{S:List Nat}{t:ax}{H:List af}{K:AV->List af->Prop}
theorem ai.shr{ty yt:TypeId}{x y:Operand}{q q':IntKind}{a b:Int}(hx:aE t x=some (.lit (.int q a)))(hy:aE t y=some (.lit (.int q' b)))(hb:0<=b)(k:K (.lit (.int q (a.fdiv (2 ^ min b.toNat q.bits)))) H):ai E P mm S t H (.binOp .shr ty x y yt) K:=.ev
 ⟨.pure (.lit (.int q (a.fdiv (2 ^ min b.toNat q.bits)))),by
  simp only[bz,hx,hy,zX,Go.binOp,Op.shift,if_neg (show ¬b<0 by omega)];rfl,k⟩
theorem ai.shl{ty yt:TypeId}{x y:Operand}{q q':IntKind}{a b:Int}(hx:aE t x=some (.lit (.int q a)))(hy:aE t y=some (.lit (.int q' b)))(hb:0<=b)(k:K (.lit (.int q (q.wrap (a * 2 ^ min b.toNat q.bits)))) H):ai E P mm S t H (.binOp .shl ty x y yt) K:=.ev
 ⟨.pure (.lit (.int q (q.wrap (a * 2 ^ min b.toNat q.bits)))),by
  simp only[bz,hx,hy,zX,Go.binOp,Op.shift,if_neg (show ¬b<0 by omega)];rfl,k⟩
theorem ai.quo{ty yt:TypeId}{x y:Operand}{q:IntKind}{a b:Int}(hx:aE t x=some (.lit (.int q a)))(hy:aE t y=some (.lit (.int q b)))(hb:(b==0)=false)(k:K (.lit (.int q (q.wrap (a.tdiv b)))) H):ai E P mm S t H (.binOp .quo ty x y yt) K:=.ev
 ⟨.pure (.lit (.int q (q.wrap (a.tdiv b)))),by
  have hb:b≠0:=by simpa using hb
  simp only[bz,hx,hy,zX,Go.binOp,Op.intDiv,if_neg hb,ne_eq,not_true_eq_false,if_false];rfl,k⟩
theorem ai.rem{ty yt:TypeId}{x y:Operand}{q:IntKind}{a b:Int}(hx:aE t x=some (.lit (.int q a)))(hy:aE t y=some (.lit (.int q b)))(hb:(b==0)=false)(k:K (.lit (.int q (a.tmod b))) H):ai E P mm S t H (.binOp .rem ty x y yt) K:=.ev
 ⟨.pure (.lit (.int q (a.tmod b))),by
  have hb:b≠0:=by simpa using hb
  simp only[bz,hx,hy,zX,Go.binOp,Op.intDiv,if_neg hb,ne_eq,not_true_eq_false,if_false];rfl,k⟩
end
def Bc:List (AV×AV×Nat)->Option (List (Value×Value))
 | []=>some []
 | (k,v,_)::l=>match k.flat,v.flat,Bc l with
   | some a,some b,some r=>some ((a,b)::r)
   | _,_,_=>none
def BI:Nat->List (AV×AV×Nat)->Nat->Bool
 | _,[],_=>true
 | b,(_,_,n)::l,c=>Nat.ble b n&&Nat.blt n c&&BI (n+1) l c
inductive Wk:List af->List af->Prop
 | nil:Wk [] []
 | same {a:af} {H H':List af}:Wk H H'->Wk (a::H) (a::H')
 | map {es:List (AV×AV×Nat)} {c:Nat} {fs:List (Value×Value)} {H H':List af}:Bc es=some fs->BI 0 es c=true->(fs.map (·.1)).Nodup->Wk H H'->Wk (.map es c::H) (.br fs::H')
theorem Wk.len{H H':List af}(h:Wk H H'):H'.length=H.length:=by
 induction h<;>simp_all
theorem Wk.cC{H H':List af}(h:Wk H H'):cC H'=cC H:=by
 unfold Ev.cC;induction h with
 | nil=>rfl
 | same _ ih=>simp[ih]
 | map _ _ _ _ ih=>simp[ih,kh]
theorem Wk.get{H H':List af}(h:Wk H H'):∀{o:Nat} {b:af},H'[o]?=some b->∃a,H[o]?=some a/\(a=b\/∃es c fs,a=.map es c/\b=.br fs/\Bc es=some fs/\BI 0 es c=true/\(fs.map (·.1)).Nodup):=by
 induction h with
 | nil=>intro o b hb;simp at hb
 | @same a H H' _ ih=>
   intro o b hb;cases o with
   | zero=>simp at hb;subst hb;exact ⟨a,by simp,.inl rfl⟩
   | succ o=>simpa using ih (by simpa using hb)
 | @map es c fs H H' h1 h2 h3 _ ih=>
   intro o b hb;cases o with
   | zero=>simp at hb;subst hb;exact ⟨_,by simp,.inr ⟨es,c,fs,rfl,rfl,h1,h2,h3⟩⟩
   | succ o=>simpa using ih (by simpa using hb)
theorem DI:∀{es:List (AV×AV×Nat)} {b c:Nat} {γ:aK} {l:List MapEntry},BI b es c=true->aX γ es l->(∀x∈l,b<=x.born/\x.born<c)/\(l.map (·.born)).Nodup
 | [],b,c,γ,l,_,he=>by
   simp only[aX] at he;subst he;simp
 | (k,v,n)::es,b,c,γ,l,h,he=>by
   simp only[aX] at he;obtain ⟨k',v',rest,rfl,_,_,he⟩:=he;simp only[BI,Bool.and_eq_true] at h;obtain ⟨⟨h1,h2⟩,h3⟩:=h;have h1:=Nat.le_of_ble_eq_true h1;have h2:n<c:=Nat.le_of_ble_eq_true h2;obtain ⟨h4,h5⟩:=DI h3 he;refine ⟨fun x hx=>?_,?_⟩
   ·rcases List.mem_cons.1 hx with rfl|hx
    ·exact ⟨h1,h2⟩
    ·have:=h4 x hx;exact ⟨by omega,this.2⟩
   ·simp only[List.map_cons,List.nodup_cons,List.mem_map,not_exists,not_and];refine ⟨fun x hx e=>?_,h5⟩;have:=(h4 x hx).1;omega
theorem Dm:∀{es:List (AV×AV×Nat)} {fs:List (Value×Value)} {γ:aK} {l:List MapEntry},Bc es=some fs->aX γ es l->l.map (fun e=>(e.key,e.val))=fs
 | [],fs,γ,l,h,he=>by
   simp only[aX] at he;subst he;cases h
   rfl
 | (k,v,n)::es,fs,γ,l,h,he=>by
   simp only[aX] at he;obtain ⟨k',v',rest,rfl,h1,h2,he⟩:=he;simp only[Bc] at h;split at h
   ·rename_i a b r ha hb hr;cases h
    have e1:=iZ k a k' ha h1;have e2:=iZ v b v' hb h2;subst e1 e2;simp[Dm hr he]
   ·cases h
theorem aL.wk{F:di}{γ:aK}{H H':List af}{w:World}(hR:aL F γ (hp H) w)(h:Wk H H'):aL F γ (hp H') w:=by
 have hl:H.length<=aU:=hR.aU;have hl':H'.length<=aU:=by rw[h.len];exact hl
 have key:∀o p,γ o=some (some p)->∃ob,(hp H').heap.get o=some ob/\dI γ ob p w/\((hp H).heap.get o≠some .dead->ob≠.dead):=by
  intro o p bN;obtain ⟨ob,h1,h2⟩:=hR.obj o p bN;rw[aT hl] at h1;obtain ⟨a,ha,rfl⟩:=Option.map_eq_some_iff.1 h1;have ah:=(List.getElem?_eq_some_iff.1 ha).1;have hlt':o<H'.length:=by rw[h.len];exact ah
  have hb:H'[o]?=some H'[o]:=List.getElem?_eq_getElem hlt';obtain ⟨a',xw,QC⟩:=h.get hb;rw[ha] at xw;cases xw
  rw[aT hl',hb,aT hl,ha];refine ⟨_,rfl,?_,?_⟩
  ·rcases QC with e|⟨es,c,fs,rfl,e,k1,k2,k3⟩
   ·rw[<-e];exact h2
   ·rw[e];obtain ⟨es',hw,he⟩:=h2;obtain ⟨r1,r2⟩:=DI k2 he;have r3:=Dm k1 he;refine ⟨es',c,hw,r3,fun _=>⟨fun x hx=>(r1 x hx).2,r2,?_⟩⟩;rw[<-r3,List.map_map] at k3;exact k3
  ·intro aN hd;rcases QC with e|⟨es,c,fs,rfl,e,_⟩
   ·exact aN (by rw[e,Option.map_some,hd])
   ·rw[e] at hd;cases hd
 refine ⟨⟨fun o ho=>hR.jv o (by show H.length<=o;rw[<-h.len];exact ho),fun o p bN=>?_,fun o ho=>?_,hR.inj,hl'⟩,fun o p bN=>?_,hR.frame⟩
 ·obtain ⟨ob,h1,h2,_⟩:=key o p bN;exact ⟨ob,h1,h2⟩
 ·have h1:=hR.gone o ho;rw[aT hl] at h1;obtain ⟨a,ha,hd⟩:=Option.map_eq_some_iff.1 h1;have ah:=(List.getElem?_eq_some_iff.1 ha).1;have hlt':o<H'.length:=by rw[h.len];exact ah
  have hb:H'[o]?=some H'[o]:=List.getElem?_eq_getElem hlt';obtain ⟨a',xw,QC⟩:=h.get hb;rw[ha] at xw;cases xw
  rw[aT hl',hb];rcases QC with e|⟨es,c,fs,rfl,e,_⟩
  ·rw[<-e];simp[hd]
  ·cases hd
 ·obtain ⟨ob,h1,_,h3⟩:=key o p bN;rw[h1];exact fun e=>h3 (hR.live o p bN) (Option.some.inj e)
theorem Rs.wk{F:di}{γ:aK}{H H':List af}{w:World}(hR:Rs F γ H w)(h:Wk H H'):Rs F γ H' w:=hR.Ai (.of_eq h.cC.symm)
theorem Rl.wk{F:di}{γ:aK}{H H':List af}{w:World}(hR:Rl F γ H w)(h:Wk H H'):Rl F γ H' w:=⟨hR.rel.wk h,fun o ho=>hR.pl o (by rw[<-h.len];exact ho),hR.rs.wk h⟩
theorem aJ.wk{P:Program}{n k:Nat}{c:Code}{t:ax}{H H':List af}{Q:fp->ax->List af->Prop}(hw:Wk H H')(h:aJ P n k c t H' Q):aJ P n k c t H Q:=
 ⟨fun F γ w a R hR hT hQ=>h.out F γ w a R (hR.wk hw) hT hQ⟩
theorem ag.wk{P:Program}{f:Nat}{args:List AV}{H:List af}{K K':AV->List af->Prop}(h:ag P [] f args H K)(hk:∀v H1,K v H1->∃H2,Wk H1 H2/\K' v H2):ag P [] f args H K':=⟨fun F γ w xs hR cx cJ ha=>by
 obtain ⟨h1,h2⟩:=h.out F γ w xs hR cx cJ ha;refine ⟨h1,fun R fj=>h2 R fun v H1 aq x w' k1 k2 k3=>?_⟩;obtain ⟨H2,k4,k5⟩:=hk v H1 k1;have hl:=k3.rel.aU;refine fj v H2 aq x w' k5 k2 ⟨k3.rel.wk k4,⟨k3.step.ext,k3.step.new,by show H.length<=H2.length;rw[k4.len];exact k3.step.le,fun o ho hg=>absurd hg (cx o ho (by simp))⟩,fun q hq=>k3.pl q (by rw[<-k4.len];exact hq),k3.rs.wk k4⟩⟩
end Go.Proofs.YtmbdghclhpboaaaGreat.Ev

/- Part of the proof: SyF SyG. Conditions: as each states. -/
import Derived.Test.YtmbdghclhpboaaaGreatPb13
set_option linter.all false
namespace Go.Proofs.YtmbdghclhpboaaaGreat.Ev
structure AgP(E:Env)(t:Tmps)(H:List AObj)(r:Row):Prop where
 out:∃out,evOp E t (hp H) r.o.op=some out∧(match out with
  | .read v=>(match r.o.dst with
    | some d=>t.get d=some v
    | none=>True)
  | .pure _=>True
  | _=>False)
def againK(E:Env)(pm:Nat)(t:Tmps)(H:List AObj):List Row→Prop→Prop
 | [],X=>X
 | r::l,X=>match has pm r.i with
   | true=>againK E pm t H l X
   | false=>AgP E t H r∧againK E pm t H l X
theorem againK_ok{E:Env}{pm:Nat}{t:Tmps}{H:List AObj}:∀{l:List Row} {X:Prop},againK E pm t H l X→X∧∀r∈l,has pm r.i=false→AgP E t H r
 | [],X,h=>⟨h,by simp⟩
 | r::l,X,h=>by
   simp only[againK] at h
   split at h
   ·rename_i hh
    obtain ⟨h1,h2⟩:=againK_ok h
    refine ⟨h1,fun q hq hp=>?_⟩
    rcases List.mem_cons.1 hq with rfl|hq
    ·rw[hh] at hp;cases hp
    ·exact h2 q hq hp
   ·obtain ⟨h1,h2⟩:=againK_ok h.2
    refine ⟨h1,fun q hq hp=>?_⟩
    rcases List.mem_cons.1 hq with rfl|hq
    ·exact h.1
    ·exact h2 q hq hp
def isRd:Op→Bool
 | .load _ _|.lookup _ _ _ _|.entry _|.convert _ _ _|.call _=>true
 | _=>false
theorem evOp_isRd{E:Env}{t:Tmps}{σ:AS}{op:Op}{v:AV}(h:evOp E t σ op=some (.read v)):isRd op=true:=by
 cases op<;>first
  | rfl
  | (exfalso;simp only[evOp] at h;(repeat' split at h)<;>first|(cases h;done)|(obtain ⟨_,_,e⟩:=Option.map_eq_some_iff.1 h;cases e;done))
def pendS(pm:Nat):List (Nat×Nat)→List Nat
 | []=>[]
 | (j,o)::l=>match has pm j with
   | true=>pendS pm l
   | false=>o::pendS pm l
theorem pendS_mem{pm j o:Nat}:∀{l:List (Nat×Nat)},(j,o)∈l→has pm j=false→o∈pendS pm l
 | (j',o')::l,h,hj=>by
   simp only[pendS]
   rcases List.mem_cons.1 h with e|h
   ·cases e
    rw[hj]
    simp
   ·have:=pendS_mem h hj
    split
    ·exact this
    ·exact List.mem_cons_of_mem _ this
def wpD(E:Env)(P:Program)(n:Nat)(ops:List Oper):Nat→Nat→List Row→List Row→List (Nat×Nat)→Tmps→List AObj→(Tmps→List AObj→Prop)→Prop
 | 0,_,_,_,_,_,_,_=>False
 | f+1,done,rem,rd,pend,t,H,K=>match rem with
   | []=>K t H
   | _::_=>match pickRow (fun r=>r.early&&ready done r) rem with
     | some (r,rem')=>match wantedA ops t r.o with
       | none=>False
       | some false=>putK n r.o.dst t undefV fun t'=>wpD E P n ops f (Nat.lor done (Nat.shiftLeft 1 r.i)) rem' rd pend t' H K
       | some true=>opK E P false [] t H (fun v H'=>fv v fun v=>putK n r.o.dst t v fun t'=>match Nat.beq (cnt H' 0) (cnt H 0) with
         | true=>match isRd r.o.op with
           | true=>wpD E P n ops f (Nat.lor done (Nat.shiftLeft 1 r.i)) rem' (r::rd) pend t' H' K
           | false=>wpD E P n ops f (Nat.lor done (Nat.shiftLeft 1 r.i)) rem' rd pend t' H' K
         | false=>againK E 0 t' H' rd (wpD E P n ops f (Nat.lor done (Nat.shiftLeft 1 r.i)) rem' rd ((r.i,cnt H 0)::pend) t' H' K)) r.o.op
     | none=>match pickRow (ready done) rem with
       | none=>False
       | some (r,rem')=>match rem'.all (fun q=>!ready done q) with
         | false=>False
         | true=>stepK E P (pendS r.pm pend) ops r.o t H (fun v H'=>fv v fun v=>putK n r.o.dst t v fun t'=>againK E r.pm t' H' rd (wpD E P n ops f (Nat.lor done (Nat.shiftLeft 1 r.i)) rem' rd pend t' H' K))
structure Lk(F0 F:Frz)(H:List AObj):Prop where
 out:∀γ' σ' w',RelL F γ' σ' w'→RelL F0 γ' σ' w'∧∀H',Ent (rss H) (rss H')→Rs F0 γ' H' w'
theorem Lk.ent{F0 F:Frz}{H H':List AObj}(h:Lk F0 F H)(e:Ent (rss H) (rss H')):Lk F0 F H':=
 ⟨fun γ σ w hR=>⟨(h.out γ σ w hR).1,fun H2 e2=>(h.out γ σ w hR).2 H2 (e.trans e2)⟩⟩
section
variable{F0 F:Frz}{P:Program}{E:Env}(hE:EnvOk P E){ops:Array Oper}{rows:List Row}(hrows:RowsOk ops rows){n:Nat}{γ0:Gam}{σ0:AS}{done:Nat}{rem rd:List Row}{t:Tmps}{H:List AObj}{kd:Nat→PK}{γ:Gam}{listed:Array Bool}{a:Act}{w:World}
structure PInv(kd:Nat→PK)(pend:List (Nat×Nat))(H:List AObj)(γ:Gam)(listed:Array Bool):Prop where
 un:∀o,o<H.length→γ o=none→∃j,(j,o)∈pend∧listed.getD j false=false
 kd:∀j o,(j,o)∈pend→∃ob k,kd j=.new ob k o
 lt:∀j o,(j,o)∈pend→o<H.length
 ix:∀j o,(j,o)∈pend→j<listed.size
theorem AgP.read{r:Row}{v:AV}{σ:AS}{u':AV}(h:AgP E t H r)(hb:evOp E t σ r.o.op=some (.read u'))(hd:∀d,r.o.dst=some d→t.get d=some v):∃u,evOp E t (hp H) r.o.op=some (.read u)∧(r.o.dst≠none→u=v):=by
 obtain ⟨out,h1,h2⟩:=h.out
 cases out with
 | read u=>
   refine ⟨u,h1,fun hne=>?_⟩
   cases hdd:r.o.dst with
   | none=>exact absurd hdd hne
   | some d=>
     rw[hdd] at h2
     simp only[] at h2
     rw[hd d hdd] at h2
     exact (Option.some.inj h2).symm
 | pure u=>
   have:=evOp_pure σ h1
   rw[hb] at this
   cases this
 | _=>exact h2.elim
include hrows
include hE in
theorem Inv.lockStepL(hLk:Lk F0 F H)(hI:Inv F E ops rows n γ0 σ0 done rem rd t (hp H) kd γ listed a w)(hn:n≤lim){pend:List (Nat×Nat)}(hPI:PInv kd pend H γ listed)(hpr:∀j o,(j,o)∈pend→has done j=true){r:Row}{rem1:List Row}(hp':rem.Perm (r::rem1))(hc:∀j,has r.pm j=true→listed.getD j false=true)
  {L:Tmps→List AObj→Prop} (hs:stepK E P (pendS r.pm pend) ops.toList r.o t H (fun v H'=>fv v fun v=>putK n r.o.dst t v fun t'=>againK E r.pm t' H' rd (L t' H'))) {Q:Exit→Act→World→Prop} {K:Act→World→Prop}
  (hK:∀F1 γ' t1 H1 a' w',L t1 H1→Lk F0 F1 H1→Inv F1 E ops rows n γ0 σ0 (Nat.lor done (Nat.shiftLeft 1 r.i)) rem1 rd t1 (hp H1) kd γ' (listed.setIfInBounds r.i true) a' w'→PInv kd pend H1 γ' (listed.setIfInBounds r.i true)→K a' w'):wpOp P ops Q r.i K a w:=by
 have hrm:r∈rem:=hp'.mem_iff.2 (by simp)
 obtain ⟨hr,hnr⟩:=hI.remIn r hrm
 have hD:(r::rem1).Pairwise (fun r q=>r.i≠q.i):=(hp'.pairwise_iff (fun h=>Ne.symm h)).1 hI.remD
 rw[List.pairwise_cons] at hD
 have hsame:=mask_same hrows hI hr (fun h=>absurd h.1 (by rw[hnr];simp)) hc
 rw[hrows.looksEq hr] at hsame
 have hun:∀o,o<H.length→o∉pendS r.pm pend→γ o≠none:=fun o ho hS hg=>by
  obtain ⟨j,h1,h2⟩:=hPI.un o ho hg
  have h3:has r.pm j=false:=by
   cases hh:has r.pm j with
   | false=>rfl
   | true=>have:=hc _ hh;rw[h2] at this;cases this
  exact hS (pendS_mem h1 h3)
 have hi0:=(hrows.row r hr).1
 have hstep:∀{K':Act→World→Prop},(∀v H' γ' x w',(fv v fun v=>putK n r.o.dst t v fun t'=>againK E r.pm t' H' rd (L t' H'))→Conc γ' v x→Aft F0 γ (pendS r.pm pend) H γ' H' w'→K' (a.put r.o.dst x) w')→wpOp P ops Q r.i K' a w:=by
  intro K' hK'
  obtain ⟨hR0,hrs0⟩:=hLk.out _ _ _ hI.rel
  have hrs:=hrs0 H (.refl _)
  have hs2:=hs
  unfold stepK at hs2
  unfold wpOp
  simp only[hi0]
  have hw:=sameAt_wanted hsame
  cases hwa:wantedA ops.toList t r.o with
  | none=>rw[hwa] at hs2;exact hs2.elim
  | some b=>
    rw[hwa] at hs2
    have hwant:=wanted_ok (a:=a) (γ:=γ) (n:=n) (hw ▸ hwa) fun d u _ hu=>hI.tmps.get d u hu
    cases b with
    | false=>
      rw[hwant]
      simp only[Bool.false_eq_true,if_false]
      exact hK' undefV H γ undef w hs2 (conc_lit γ _) ⟨hR0,.refl γ _,hun,hrs⟩
    | true=>
      rw[hwant]
      simp only[if_true]
      refine .inl ?_
      rcases opK_out hI.rel.lim hs2 with ⟨out,h1,h2⟩|⟨_,h1⟩
      ·rw[sameAt_evOp hsame] at h1
       exact outK_okS hE hR0 hun hrs hI.tmps.opnd h1 h2 hK'
      ·refine opM_okS h1 hR0 hun hrs hI.tmps.opnd (fun x hx=>?_) hK'
       cases x with
       | tmp d=>exact hsame d (List.mem_append_left _ (List.mem_filterMap.2 ⟨.tmp d,by simpa using hx,rfl⟩))
       | _=>rfl
 refine hstep fun v H1 γ' x w' hL hx hA=>?_
 obtain ⟨t1,ht,hL⟩:=putK_ok (fv_ok hL)
 obtain ⟨hL,hag⟩:=againK_ok hL
 obtain ⟨F1,hR1,hb1⟩:=reframe hA.rel hA.rs
 have hi:r.i<listed.size:=by rw[hI.size];exact hrows.idx hr
 have hset:∀j,(listed.setIfInBounds r.i true).getD j false=if j=r.i then true else listed.getD j false:=fun j=>by
  by_cases e:j=r.i
  ·subst e;rw[if_pos rfl,getD_set_self hi]
  ·rw[if_neg e,getD_set_ne _ (Ne.symm e)]
 have hdone:∀j,has (Nat.lor done (Nat.shiftLeft 1 r.i)) j=true↔has done j=true∨j=r.i:=fun j=>by rw[has_lor];simp
 have hpend:∀q,Pending (Nat.lor done (Nat.shiftLeft 1 r.i)) (listed.setIfInBounds r.i true) q↔Pending done listed q:=fun q=>by
  unfold Pending
  rw[hset,hdone]
  by_cases e:q.i=r.i
  ·simp[e,hnr]
  ·simp[e]
 have hkeep:=fun (q:Row) (hq:q∈rows) (hq':Pending done listed q)=>keep_looks hrows hI hr hnr hq hq' (.inr hc)
 have hget:=putA_get ht hn
 refine hK F1 γ' t1 H1 _ w' hL ⟨hb1⟩ ⟨fun q hq=>?_,fun q hq=>?_,hD.2,fun q hq h j hj=>?_,fun q hq h=>?_,by simp[hI.size],fun q hq h=>?_,fun q hq q' hq' h h'=>hI.ids q hq q' hq' ((hpend q).1 h) ((hpend q').1 h'),fun q hq h=>hI.fresh q hq ((hpend q).1 h),hR1,hI.step.trans hA.step,?_⟩ ⟨fun o ho hg=>?_,hPI.kd,fun j o h=>Nat.lt_of_lt_of_le (hPI.lt j o h) (show H.length≤H1.length from hA.step.le),fun j o h=>by simpa using hPI.ix j o h⟩
 ·have hq':q∈rem:=hp'.mem_iff.2 (by simp[hq])
  obtain ⟨h1,h2⟩:=hI.remIn q hq'
  refine ⟨h1,?_⟩
  rw[has_lor,h2]
  simp[Ne.symm (hD.1 q hq)]
 ·rcases hI.cover q hq with h|h
  ·exact .inl ((hdone _).2 (.inl h))
  ·rcases List.mem_cons.1 (hp'.mem_iff.1 h) with rfl|h
   ·exact .inl ((hdone _).2 (.inr rfl))
   ·exact .inr h
 ·rcases (hdone _).1 h with h|h
  ·exact (hdone _).2 (.inl (hI.down q hq h j hj))
  ·have e:=hrows.eq hq hr h
   subst e
   have h1:=hc j hj
   have hlt:j<ops.size:=Nat.lt_trans (hrows.lt q hq j hj) (hrows.idx hq)
   have h2:=hrows.all j _ (Array.getElem?_eq_getElem hlt)
   exact (hdone _).2 (.inl (hI.sub _ h2 h1))
 ·rw[hset] at h
  by_cases e:q.i=r.i
  ·exact (hdone _).2 (.inr e)
  ·rw[if_neg e] at h;exact (hdone _).2 (.inl (hI.sub q hq h))
 ·have h':=(hpend q).1 h
  obtain ⟨h1,h2,h3⟩:=hI.pend q hq h'
  have hsameq:SameAt q.looks t t1:=fun d hd=>by
   rw[hget,if_neg]
   intro e
   exact (hkeep q hq h' d e).1 hd
  have hslot:∀d,q.o.dst=some d→t1.get d=t.get d:=fun d hd=>by
   rw[hget,if_neg]
   intro e
   exact (hkeep q hq h' d e).2 hd
  refine ⟨h1,Pend.keep hrows hq hsameq (fun v ev hm=>?_) hA.step h2,fun d hd=>?_⟩
  ·have hnp:has r.pm q.i=false:=by
    cases hh:has r.pm q.i with
    | false=>rfl
    | true=>have:=hc _ hh;rw[h'.2] at this;cases this
   have h2':=h2
   rw[ev] at h2'
   obtain ⟨_,_,u,h4,h5⟩:=h2'
   have hs1:=hsameq
   rw[hrows.looksEq hq] at hs1
   rw[sameAt_evOp hs1] at h4
   exact ⟨hm,(hag q hm hnp).read h4 fun d hd=>by rw[hslot d hd,(h3 d hd).1,ev];rfl⟩
  ·rw[hslot d hd];exact h3 d hd
 ·refine ⟨by cases r.o.dst<;>simpa [Act.put] using hI.tmps.size,by cases r.o.dst<;>exact hI.tmps.defers,fun i u hu=>?_⟩
  rw[T.get_mask] at hu
  split at hu
  ·cases hu
  ·rename_i hm
   have hm:=pmask_f.1 (Bool.not_eq_true _ ▸ hm:_=false)
   rw[hget] at hu
   by_cases e:r.o.dst=some i
   ·rw[if_pos e] at hu
    cases hu
    refine ⟨x,?_,hx⟩
    rw[e] at ht ⊢
    simp only[Act.put]
    rw[Array.getElem?_setIfInBounds_self_of_lt (Nat.lt_of_lt_of_le (putA_lt ht) hI.tmps.size)]
   ·rw[if_neg e] at hu
    obtain ⟨y,h1,h2⟩:=hI.tmps.get i u (by
     rw[T.get_mask,if_neg,hu]
     rw[Bool.not_eq_true,pmask_f]
     exact fun q hq h=>hm q hq ((hpend q).2 h))
    refine ⟨y,?_,h2.mono hA.step.ext _ _⟩
    cases hd:r.o.dst with
    | none=>exact h1
    | some d=>
      simp only[Act.put]
      rw[Array.getElem?_setIfInBounds_ne (fun h=>e (by rw[hd,h]))]
      exact h1
 ·by_cases hS:o∈pendS r.pm pend
  ·have hmem:∀{l:List (Nat×Nat)},o∈pendS r.pm l→∃j,(j,o)∈l:=by
    intro l
    induction l with
    | nil=>intro h;simp[pendS] at h
    | cons x l ih=>
      obtain ⟨j,q⟩:=x
      intro h
      simp only[pendS] at h
      split at h
      ·obtain ⟨j',h'⟩:=ih h
       exact ⟨j',List.mem_cons_of_mem _ h'⟩
      ·rcases List.mem_cons.1 h with rfl|h
       ·exact ⟨j,by simp⟩
       ·obtain ⟨j',h'⟩:=ih h
        exact ⟨j',List.mem_cons_of_mem _ h'⟩
   obtain ⟨j0,hj0⟩:=hmem hS
   obtain ⟨ob,k,hk0⟩:=hPI.kd j0 o hj0
   cases hg0:γ o with
   | some p=>rcases hA.step.ext o p hg0 with h|h<;>rw[h] at hg<;>cases hg
   | none=>
     have hlt:=hPI.lt j0 o hj0
     obtain ⟨j,h1,h2⟩:=hPI.un o hlt hg0
     refine ⟨j,h1,?_⟩
     rw[hset,if_neg,h2]
     rintro rfl
     have:=hpr _ _ h1
     rw[hnr] at this
     cases this
  ·exact absurd hg (hA.pl o ho hS)
theorem saturateL(hn:n≤lim){L:Tmps→List AObj→Prop}:∀(fuel:Nat) (done:Nat) (rem rd:List Row) (pend:List (Nat×Nat)) (t:Tmps) (H:List AObj) (kd:Nat→PK),wpD E P n ops.toList fuel done rem rd pend t H L→Lk F0 F H →
  Inv F E ops rows n γ0 σ0 done rem rd t (hp H) kd γ listed a w→PInv kd pend H γ listed→(∀j o,(j,o)∈pend→has done j=true) →
  ∃done1 rem1 rd1 pend1 t1 H1 kd1,Lk F0 F H1∧Inv F E ops rows n γ0 σ0 done1 rem1 rd1 t1 (hp H1) kd1 γ listed a w∧PInv kd1 pend1 H1 γ listed∧(∀j o,(j,o)∈pend1→has done1 j=true)∧(∃f0,wpD E P n ops.toList f0 done1 rem1 rd1 pend1 t1 H1 L)∧((rem1=[]∧L t1 H1) ∨
   ∃r rem2 f,rem1.Perm (r::rem2)∧(∀q∈rem1,q.i≠r.i→ready done1 q=false)∧(∀q∈rem1,q.early=true→ready done1 q=false) ∧
    stepK E P (pendS r.pm pend1) ops.toList r.o t1 H1 (fun v H'=>fv v fun v=>putK n r.o.dst t1 v fun t'=>againK E r.pm t' H' rd1 (wpD E P n ops.toList f (Nat.lor done1 (Nat.shiftLeft 1 r.i)) rem2 rd1 pend1 t' H' L))):=by
 intro fuel
 induction fuel with
 | zero=>intro done rem rd pend t H kd h;exact h.elim
 | succ fuel ih=>
   intro done rem rd pend t H kd h hLk hI hPI hpr
   have h0:=h
   simp only[wpD] at h
   split at h
   ·exact ⟨done,[],rd,pend,t,H,kd,hLk,hI,hPI,hpr,⟨_,h0⟩,.inl ⟨rfl,h⟩⟩
   ·rename_i x l
    split at h
    ·rename_i r rem1 hpk
     obtain ⟨h1,hperm⟩:=pick_ok hpk
     simp only[Bool.and_eq_true] at h1
     obtain ⟨hre,hrdy⟩:=h1
     obtain ⟨hr,hnr⟩:=hI.remIn r (hperm.mem_iff.2 (by simp))
     have hlr:listed.getD r.i false=false:=by
      cases hh:listed.getD r.i false with
      | false=>rfl
      | true=>have:=hI.sub r hr hh;rw[hnr] at this;cases this
     have hlor:∀j,has done j=true→has (Nat.lor done (Nat.shiftLeft 1 r.i)) j=true:=fun j hj=>by rw[has_lor,hj];rfl
     have hkd:∀(k:PK) j o,(j,o)∈pend→∃ob x,(fun j=>if j=r.i then k else kd j) j=.new ob x o:=fun k j o hj=>by
      have hd:=hpr j o hj
      have:j≠r.i:=fun e=>by rw[e,hnr] at hd;cases hd
      simp only[if_neg this]
      exact hPI.kd j o hj
     have sat:∀{t1:Tmps} {v:AV},putA n t r.o.dst v=some t1→wantedA ops.toList t1 r.o=wantedA ops.toList t r.o∧∀σ,evOp E t1 σ r.o.op=evOp E t σ r.o.op:=fun {t1 v} ht=>by
      have hsame:SameAt r.looks t t1:=fun d hd=>by
       rw[putA_get ht hn,if_neg]
       intro e
       exact hrows.self r hr hre d e hd
      rw[hrows.looksEq hr] at hsame
      exact ⟨(sameAt_wanted hsame).symm,fun σ=>(sameAt_evOp (E:=E) (σ:=σ) hsame).symm⟩
     split at h
     ·exact h.elim
     ·rename_i hw
      obtain ⟨t1,ht,h⟩:=putK_ok h
      obtain ⟨e1,e2⟩:=sat ht
      exact ih _ _ _ _ _ _ _ h hLk (hI.ahead hrows hn hperm hre hrdy (k:=.no) ht (e1.trans hw) (fun _ _ _ e=>by cases e) (fun q v hq hk hm he hd=>⟨hm,he⟩) hI.rel (.refl _ _)) ⟨hPI.un,hkd _,hPI.lt,hPI.ix⟩ fun j o hj=>hlor j (hpr j o hj)
     ·rename_i hw
      obtain ⟨out,hev,hk⟩:=(opK_out hI.rel.lim h).resolve_right (fun h=>by cases h.1)
      have hcnt:Nat.beq (cnt H 0) (cnt H 0)=true:=Nat.beq_refl _
      have he:=hrows.earlyEq hr
      rw[hre] at he
      rcases evOp_early he.symm hev with ⟨v,rfl⟩|⟨v,rfl⟩|⟨ob,k,rfl⟩
      ·obtain ⟨t1,ht,hk⟩:=putK_ok (fv_ok hk)
       simp only[hcnt] at hk
       obtain ⟨e1,e2⟩:=sat ht
       split at hk
       ·exact ih _ _ _ _ _ _ _ hk hLk (hI.ahead hrows hn hperm hre hrdy (k:=.now v) ht ⟨e1.trans hw,(e2 _).trans hev⟩ (fun _ _ _ e=>by cases e) (fun q v hq hk hm he hd=>⟨List.mem_cons_of_mem _ hm,he⟩) hI.rel (.refl _ _)) ⟨hPI.un,hkd _,hPI.lt,hPI.ix⟩ fun j o hj=>hlor j (hpr j o hj)
       ·exact ih _ _ _ _ _ _ _ hk hLk (hI.ahead hrows hn hperm hre hrdy (k:=.now v) ht ⟨e1.trans hw,(e2 _).trans hev⟩ (fun _ _ _ e=>by cases e) (fun q v hq hk hm he hd=>⟨hm,he⟩) hI.rel (.refl _ _)) ⟨hPI.un,hkd _,hPI.lt,hPI.ix⟩ fun j o hj=>hlor j (hpr j o hj)
      ·obtain ⟨t1,ht,hk⟩:=putK_ok (fv_ok hk)
       simp only[hcnt,evOp_isRd hev] at hk
       obtain ⟨e1,e2⟩:=sat ht
       exact ih _ _ _ _ _ _ _ hk hLk (hI.ahead hrows hn hperm hre hrdy (k:=.read v) ht ⟨e1.trans hw,by simp,v,(e2 _).trans hev,fun _=>rfl⟩ (fun _ _ _ e=>by cases e) (fun q v hq hk hm he hd=>⟨List.mem_cons_of_mem _ hm,he⟩) hI.rel (.refl _ _)) ⟨hPI.un,hkd _,hPI.lt,hPI.ix⟩ fun j o hj=>hlor j (hpr j o hj)
      ·obtain ⟨hlt,hk⟩:=hk
       obtain ⟨t1,ht,hk⟩:=putK_ok (fv_ok hk)
       have hne:Nat.beq (cnt (H++[ob]) 0) (cnt H 0)=false:=by
        rw[cnt_eq,cnt_eq]
        cases hb:Nat.beq (0+(H++[ob]).length) (0+H.length) with
        | false=>rfl
        | true=>have:=Nat.eq_of_beq_eq_true hb;simp at this
       simp only[hne] at hk
       obtain ⟨hk,hag⟩:=againK_ok hk
       obtain ⟨e1,e2⟩:=sat ht
       have hvw:=evOp_new_vw hev
       have hlim:=hI.rel.lim
       have hlim:H.length≤lim:=hlim
       have hm:=hI.rel.more (show (hp H).next<lim from hlt) ob
       have heq:HpEq { heap:=(hp H).heap.put (hp H).next ob,next:=(hp H).next+1 } (H++[ob]):=by
        refine ⟨by simp[hp],fun q=>?_⟩
        simp only[]
        rw[T.get_put _ _ _ _ (show (hp H).next≤lim from Nat.le_of_lt hlt),hp_get hlim]
        by_cases e:q=(hp H).next
        ·subst e
         rw[if_pos rfl]
         simp[hp,hvw]
        ·rw[if_neg e]
         have e:q≠H.length:=e
         rcases Nat.lt_or_ge q H.length with h5|h5
         ·rw[List.getElem?_append_left h5]
         ·rw[List.getElem?_eq_none h5,List.getElem?_eq_none (by simp;omega)]
       have hm2:=hm.toH heq
       have hnil:rsOf ob=resNil:=by cases ob<;>first|rfl|cases hvw
       have hcn:cnt H 0=H.length:=by rw[cnt_eq,Nat.zero_add]
       rw[hcn] at hk
       refine ih _ _ _ _ _ _ _ hk (hLk.ent (ent_snoc hnil)) (hI.ahead hrows hn hperm hre hrdy (k:=.new ob k H.length) ht ⟨e1.trans hw,(e2 _).trans (evOp_new _ hev),by show H.length<(H++[ob]).length;simp,hI.rel.dom _ (Nat.le_refl _),?_⟩ (fun _ _ _ e=>by cases e;exact Nat.le_refl _) (fun q v hq hkq hmq he hd=>?_) hm2 ((Step.more hI.rel hlt ob).toH heq (show (H++[ob]).length≤lim from hm2.lim))) ⟨fun o ho hg=>?_,fun j o hj=>?_,fun j o hj=>?_,fun j o hj=>?_⟩ fun j o hj=>?_
       ·rw[hp_get (show (H++[ob]).length≤lim from hm2.lim)]
        simp[hvw]
       ·obtain ⟨u,hu,_⟩:=he
        exact ⟨hmq,(hag q hmq (has_zero _)).read hu hd⟩
       ·simp only[List.length_append,List.length_cons,List.length_nil] at ho
        rcases Nat.lt_or_ge o H.length with h5|h5
        ·obtain ⟨j,b1,b2⟩:=hPI.un o h5 hg
         exact ⟨j,List.mem_cons_of_mem _ b1,b2⟩
        ·obtain rfl:o=H.length:=by omega
         exact ⟨r.i,by simp,hlr⟩
       ·rcases List.mem_cons.1 hj with e|hj
        ·cases e
         exact ⟨ob,k,by simp⟩
        ·exact hkd _ j o hj
       ·rcases List.mem_cons.1 hj with e|hj
        ·cases e;simp
        ·have:=hPI.lt j o hj;simp;omega
       ·rcases List.mem_cons.1 hj with e|hj
        ·cases e;rw[hI.size];exact hrows.idx hr
        ·exact hPI.ix j o hj
       ·rcases List.mem_cons.1 hj with e|hj
        ·cases e
         rw[has_lor];simp
        ·exact hlor j (hpr j o hj)
    ·rename_i hpk
     have hno:=pick_none hpk
     split at h
     ·exact h.elim
     ·rename_i r rem2 hpk2
      obtain ⟨h1,hperm⟩:=pick_ok hpk2
      split at h
      ·exact h.elim
      ·rename_i hall
       refine ⟨done,x::l,rd,pend,t,H,kd,hLk,hI,hPI,hpr,⟨_,h0⟩,.inr ⟨r,rem2,fuel,hperm,fun q hq hne=>?_,fun q hq he=>?_,h⟩⟩
       ·rcases List.mem_cons.1 (hperm.mem_iff.1 hq) with rfl|hq
        ·exact absurd rfl hne
        ·have:=List.all_eq_true.1 hall q hq
         simpa using this
       ·have:=hno q hq
        rw[he] at this
        simpa using this
include hE in
theorem drawn_okL(hn:n≤lim){L:Tmps→List AObj→Prop}{Q:Exit→Act→World→Prop}(hQ:∀t' H' γ' a' w',L t' H'→Rl F0 γ' H' w'→ConcT γ' n t' a'→Step γ0 σ0 γ' (hp H')→Q .normal a' w') :
  ∀(m:Nat) (F:Frz) (fuel:Nat) (done:Nat) (rem rd:List Row) (pend:List (Nat×Nat)) (t:Tmps) (H:List AObj) (kd:Nat→PK) (γ:Gam) (listed:Array Bool) (a:Act) (w:World),wpD E P n ops.toList fuel done rem rd pend t H L→Lk F0 F H →
  Inv F E ops rows n γ0 σ0 done rem rd t (hp H) kd γ listed a w→PInv kd pend H γ listed→(∀j o,(j,o)∈pend→has done j=true)→listed.toList.count false≤m→wpAny P .any ops Q m listed a w:=by
 intro m
 have hnil:∀(F:Frz) (fuel:Nat) (done:Nat) (rem rd:List Row) (pend:List (Nat×Nat)) (t:Tmps) (H:List AObj) (kd:Nat→PK) (γ:Gam) (listed:Array Bool) (a:Act) (w:World),wpD E P n ops.toList fuel done rem rd pend t H L→Lk F0 F H →
   Inv F E ops rows n γ0 σ0 done rem rd t (hp H) kd γ listed a w→PInv kd pend H γ listed→(∀j o,(j,o)∈pend→has done j=true)→Region.ready .any ops listed=[]→Q .normal a w:=by
  intro F fuel done rem rd pend t H kd γ listed a w h hLk hI hPI hpr hnil
  have hall:∀i,i<ops.size→listed.getD i false=true:=by
   intro i
   induction i using Nat.strongRecOn with
   | _ i ih=>
     intro hi
     cases hl:listed.getD i false with
     | true=>rfl
     | false=>
       exfalso
       have hrow:=hrows.all i _ (Array.getElem?_eq_getElem hi)
       have hs:i<listed.size:=by rw[hI.size];exact hi
       have hun:listed.getD i true=false:=by simpa [hs] using hl
       have:i∈Region.ready .any ops listed:=mem_ready.2 ⟨hun,_,Array.getElem?_eq_getElem hi,fun e he hb=>by
        have hpm:has (mkRow ops i ops[i]).pm e.on=true:=(has_predMask _ _).2 ⟨e,by simpa using he,hb,rfl⟩
        have hlt:=hrows.lt _ hrow _ hpm
        have hlt:e.on<i:=hlt
        exact ih e.on hlt (by omega)⟩
       rw[hnil] at this
       cases this
  obtain ⟨done1,rem1,rd1,pend1,t1,H1,kd1,hLk1,hI1,hPI1,hpr1,⟨f0,hf0⟩,hcase⟩:=saturateL (hrows:=hrows) hn fuel done rem rd pend t H kd h hLk hI hPI hpr
  have hrem:rem1=[]:=by
   cases hr:rem1 with
   | nil=>rfl
   | cons q l=>
     exfalso
     obtain ⟨h1,h2⟩:=hI1.remIn q (by rw[hr];simp)
     have:=hI1.sub q h1 (hall _ (hrows.idx h1))
     rw[h2] at this;cases this
  rcases hcase with ⟨_,hL⟩|⟨r,rem2,_,hperm,_⟩
  ·refine hQ t1 H1 γ a w hL ⟨(hLk1.out _ _ _ hI1.rel).1,fun o ho hg=>?_,(hLk1.out _ _ _ hI1.rel).2 _ (.refl _)⟩ ⟨hI1.tmps.size,hI1.tmps.defers,fun i v hv=>hI1.tmps.get i v ?_⟩ hI1.step
   ·obtain ⟨j,b1,b2⟩:=hPI1.un o ho hg
    have b3:=hpr1 j o b1
    rw[hall j (by have:=hPI1.ix j o b1;rw[hI1.size] at this;exact this)] at b2
    cases b2
   ·rw[T.get_mask,if_neg,hv]
    rw[Bool.not_eq_true,pmask_f]
    intro q hq hp
    have h2:=hp.2
    rw[hall _ (hrows.idx hq)] at h2
    cases h2
  ·rw[hrem] at hperm
   have:=hperm.length_eq
   simp at this
 induction m with
 | zero=>
   intro F fuel done rem rd pend t H kd γ listed a w h hLk hI hPI hpr hm
   have hr:Region.ready .any ops listed=[]:=by
    apply List.eq_nil_iff_forall_not_mem.2
    intro i hi
    have hf:=(mem_ready.1 hi).1
    have hlt:i<listed.size:=by
     rcases Nat.lt_or_ge i listed.size with h'|h'
     ·exact h'
     ·simp[Array.getElem?_eq_none h'] at hf
    have:=count_set hlt hf
    omega
   exact ⟨hr,hnil F fuel done rem rd pend t H kd γ listed a w h hLk hI hPI hpr hr⟩
 | succ m ih=>
   intro F fuel done rem rd pend t H kd γ listed a w h hLk hI hPI hpr hm
   refine ⟨hnil F fuel done rem rd pend t H kd γ listed a w h hLk hI hPI hpr,fun i hi=>?_⟩
   obtain ⟨r,hr,rfl,hun,hc⟩:=ready_row hrows hi
   have hlt:r.i<listed.size:=by rw[hI.size];exact hrows.idx hr
   have hcnt:=count_set hlt hun
   have hunf:=getD_false_of hI.size hun
   obtain ⟨done1,rem1,rd1,pend1,t1,H1,kd1,hLk1,hI1,hPI1,hpr1,⟨f0,hf0⟩,hcase⟩:=saturateL (hrows:=hrows) hn fuel done rem rd pend t H kd h hLk hI hPI hpr
   by_cases hd:has done1 r.i=true
   ·refine hI1.pendStep hE hrows hr ⟨hd,hunf⟩ hc fun γ' a' w' hI' hg=>?_
    refine ih F f0 done1 rem1 rd1 pend1 t1 H1 kd1 γ' _ a' w' hf0 hLk1 hI' ⟨fun o ho hn'=>?_,hPI1.kd,hPI1.lt,fun j o h=>by simpa using hPI1.ix j o h⟩ hpr1 (by omega)
    have hset:∀j,(listed.setIfInBounds r.i true).getD j false=if j=r.i then true else listed.getD j false:=fun j=>by
     by_cases e:j=r.i
     ·subst e;rw[if_pos rfl,getD_set_self hlt]
     ·rw[if_neg e,getD_set_ne _ (Ne.symm e)]
    rcases hg with ⟨rfl,hno⟩|⟨ob,k,id,p,hk,rfl⟩
    ·obtain ⟨j,b1,b2⟩:=hPI1.un o ho hn'
     refine ⟨j,b1,?_⟩
     rw[hset,if_neg,b2]
     rintro rfl
     obtain ⟨ob,k,b3⟩:=hPI1.kd _ o b1
     exact hno _ _ _ b3
    ·by_cases e:o=id
     ·subst e;rw[upd_self] at hn';cases hn'
     ·rw[upd_ne _ _ e] at hn'
      obtain ⟨j,b1,b2⟩:=hPI1.un o ho hn'
      refine ⟨j,b1,?_⟩
      rw[hset,if_neg,b2]
      rintro rfl
      obtain ⟨ob',k',b3⟩:=hPI1.kd _ o b1
      rw[hk] at b3
      cases b3
      exact e rfl
   ·have hd:has done1 r.i=false:=by simpa using hd
    have hrm:=(hI1.cover r hr).resolve_left (by rw[hd];simp)
    have hrdy:ready done1 r=true:=ready_t.2 fun j hj=>by
     have hlt:j<ops.size:=Nat.lt_trans (hrows.lt r hr j hj) (hrows.idx hr)
     exact hI1.sub _ (hrows.all j _ (Array.getElem?_eq_getElem hlt)) (hc j hj)
    rcases hcase with ⟨rfl,_⟩|⟨q,rem2,f,hperm,hu1,hu2,hs⟩
    ·cases hrm
    ·have hrq:r.i=q.i:=by
      by_cases e:r.i=q.i
      ·exact e
      ·have:=hu1 r hrm e
       rw[hrdy] at this;cases this
     have hqr:=hrows.eq hr (hI1.remIn q (hperm.mem_iff.2 (by simp))).1 hrq
     subst hqr
     exact hI1.lockStepL hE hrows hLk1 hn hPI1 hpr1 hperm hc hs fun F1 γ' t2 H2 a' w' hL hLk' hI' hPI'=>ih F1 f _ rem2 rd1 pend1 t2 H2 kd1 γ' _ a' w' hL hLk' hI' hPI' (fun j o hj=>by rw[has_lor,hpr1 j o hj];rfl) (by omega)
omit hrows in
include hE in
theorem WpS.drawn{k:Nat}{id:Nat}{n:Nat}(hn:Nat.ble n lim=true){t:Tmps}{H:List AObj}{Q:AExit→Tmps→List AObj→Prop}(hi:indep (rowsFrom ops 0 ops.toList)=true)
  (h:wpD E P n ops.toList (ops.toList.length+1) 0 (rowsFrom ops 0 ops.toList) [] [] t H (fun t H=>Q .normal t H)):WpS P n k (.region id ops true) t H Q:=⟨fun F γ w a R hR hT hQ=>by
 have hrows:=rows_ok hi
 obtain ⟨F1,hR1,hb1⟩:=reframe hR.rel hR.rs
 refine wp_region_any hE.wide ?_
 refine drawn_okL hE hrows (Nat.le_of_ble_eq_true hn) (F0:=F) (γ0:=γ) (σ0:=hp H) (L:=fun t H=>Q .normal t H) (fun t' H' γ' a' w' h1 h2 h3 h4=>hQ .normal t' H' γ' a' w' h1 h2 h3 (.of_ext h4.ext k)) ops.size F1 _ 0 _ [] [] t H (fun _=>.no) γ _ a _ h ⟨fun γ' σ' w' h1=>hb1 γ' σ' w' h1⟩ ?_ ⟨fun o ho hg=>absurd hg (hR.pl o ho),fun j o hj=>(by cases hj),fun j o hj=>(by cases hj),fun j o hj=>(by cases hj)⟩ (fun j o hj=>(by cases hj)) ?_
 ·have hno:∀q,¬Pending 0 (Array.replicate ops.size false) q:=fun q hq=>by have:=hq.1;rw[has_zero] at this;cases this
  have hlist:∀j,(Array.replicate ops.size false).getD j false=false:=fun j=>by simp[Array.getElem?_replicate];split<;>rfl
  refine ⟨fun r hr=>⟨hr,has_zero _⟩,fun r hr=>.inr hr,?_,fun r _ h=>(by rw[has_zero] at h;cases h),fun r _ h=>(by rw[hlist] at h;cases h),(by simp),fun q _ hq=>absurd hq (hno q),fun q _ _ _ hq=>absurd hq (hno q),fun q _ hq=>absurd hq (hno q),hR1.heap rfl,.refl _ _,⟨hT.size,hT.defers,fun i v hv=>hT.get i v ?_⟩⟩
  ·have:∀(l:List Oper) (i:Nat),(rowsFrom ops i l).Pairwise (fun r q=>r.i≠q.i)∧∀r∈rowsFrom ops i l,i≤r.i:=by
    intro l
    induction l with
    | nil=>intro i;simp[rowsFrom]
    | cons o l ih=>
      intro i
      obtain ⟨h1,h2⟩:=ih (i+1)
      simp only[rowsFrom,List.pairwise_cons]
      refine ⟨⟨fun r hr=>?_,h1⟩,fun r hr=>?_⟩
      ·have:=h2 r hr;show i≠r.i;omega
      ·rcases List.mem_cons.1 hr with rfl|hr
       ·exact Nat.le_refl i
       ·have:=h2 r hr;omega
   exact (this ops.toList 0).1
  ·rw[T.get_mask] at hv
   split at hv
   ·cases hv
   ·exact hv
 ·exact Nat.le_trans List.count_le_length (by simp)⟩
end
section
variable{κ α:Type}[DecidableEq κ]
def afind(k:κ):List (κ×α)→Nat→Option (Nat×α)
 | [],_=>none
 | p::l,i=>if k=p.1 then some (i,p.2) else afind k l (i+1)
def aget(k:κ)(l:List (κ×α)):Option α:=(afind k l 0).map (·.2)
def aput(k:κ)(v:α)(l:List (κ×α)):List (κ×α):=
 match afind k l 0 with
 | some (i,_)=>l.set i (k,v)
 | none=>l++[(k,v)]
def adel(k:κ)(l:List (κ×α)):List (κ×α):=
 match afind k l 0 with
 | some (i,_)=>l.eraseIdx i
 | none=>l
end
def mE{κ α:Type}(ek:κ→Value)(ev:α→Value)(l:List (κ×α)):List (Value×Value):=l.map fun p=>(ek p.1,ev p.2)
structure KeyE{κ:Type}[DecidableEq κ](E:Env)(kt:TypeId)(ek:κ→Value):Prop where
 eq:∃d,scalTy d=true∧(∀a,keyTy E kt (ofValue (ek a))=some d)∧∀a b,keyEq d (ofValue (ek a)) (ofValue (ek b))=some (decide (a=b))
structure MapT(E:Env)(ty kt:TypeId)(zv:AV):Prop where
 out:∃r et er z,E.ty ty=some r∧r.und=.map kt et∧E.ty et=some er∧er.info.zero=some z∧ofValue z=zv
theorem KeyE.int{E:Env}{kt:TypeId}{q:IntKind}(h:∃r,E.ty kt=some r∧r.und=.int q):KeyE E kt (fun i:Int=>Value.int q i):=by
 obtain ⟨r,hr,hu⟩:=h
 refine ⟨.int q,rfl,fun a=>by simp only[keyTy,hr,hu,ofValue],fun a b=>?_⟩
 simp only[ofValue,keyEq,if_true,Option.some.injEq]
 by_cases h:a=b<;>simp[h]
section
variable{κ α:Type}[DecidableEq κ]{E:Env}{kt ty:TypeId}{ek:κ→Value}{ev:α→Value}{zv:AV}
theorem findA_mE{d:TypeDesc}(hk:∀a b,keyEq d (ofValue (ek a)) (ofValue (ek b))=some (decide (a=b)))(k:κ):∀(l:List (κ×α)) (i:Nat),findA d (ofValue (ek k)) (esM (mE ek ev l)) i=some ((afind k l i).map fun p=>(p.1,ofValue (ev p.2)))
 | [],_=>rfl
 | p::l,i=>by
   have ih:=findA_mE hk k l (i+1)
   unfold esM mE at ih ⊢
   simp only[List.map_cons,findA,hk]
   unfold afind
   by_cases h:k=p.1
   ·simp[h]
   ·simp only[h,decide_false,if_false]
    exact ih
variable{P:Program}{mm:Bool}{S:List Nat}{t:Tmps}{H:List AObj}{K:AV→List AObj→Prop}{o:Nat}{key:κ}{l:List (κ×α)}{x k m v:Operand}
theorem evOp_look(hT:MapT E ty kt zv)(hK:KeyE E kt ek)(hl:H.length≤lim)(hx:opnd t x=some (.map o))(hk:opnd t k=some (ofValue (ek key)))(ho:H[o]?=some (.mrow (mE ek ev l)))(c:Bool) :
  evOp E t (hp H) (.lookup ty x k c)=some (.read (match aget key l with
   | some a=>match c with|true=>.tuple [ofValue (ev a),.lit (.bool true)]|false=>ofValue (ev a)
   | none=>match c with|true=>.tuple [zv,.lit (.bool false)]|false=>zv)):=by
 obtain ⟨r,et,er,z,h1,h2,h3,h4,rfl⟩:=hT.out
 obtain ⟨d,_,hd,hke⟩:=hK.eq
 have hm:mapEs (hp H) (.map o)=some (esM (mE ek ev l)):=by
  simp only[mapEs,hp_get hl,ho,Option.map_some,vw]
 simp only[evOp,hx,hk,lookupA,h1,h2,hd,hm,h3,findA_mE hke]
 unfold aget
 cases hf:afind key l 0 with
 | none=>simp only[Option.map_none,h4,Option.map_some];cases c<;>rfl
 | some p=>simp only[Option.map_some];cases c<;>rfl
def lookV(ev:α→Value)(zv:AV)(c:Bool):Option α→AV
 | some a=>match c with|true=>.tuple [ofValue (ev a),.lit (.bool true)]|false=>ofValue (ev a)
 | none=>match c with|true=>.tuple [zv,.lit (.bool false)]|false=>zv
theorem AgP.look{r:Row}{c:Bool}{oa:Option α}{d:Nat}(zv:AV)(hT:MapT E ty kt zv)(hK:KeyE E kt ek)(hop:r.o.op=.lookup ty x k c)(hx:opnd t x=some (.map o))(hk:opnd t k=some (ofValue (ek key)))(ho:H[o]?=some (.mrow (mE ek ev l)))(hl:Nat.ble H.length lim=true)
  (ha:aget key l=oa) (hd:r.o.dst=some d) (hv:t.get d=some (lookV ev zv c oa)):AgP E t H r:=⟨by
 refine ⟨_,by rw[hop];exact evOp_look hT hK (Nat.le_of_ble_eq_true hl) hx hk ho c,?_⟩
 rw[ha]
 simp only[hd]
 rw[hv]
 cases oa<;>rfl⟩
theorem OpP.look2(zv:AV)(hT:MapT E ty kt zv)(hK:KeyE E kt ek)(hx:opnd t x=some (.map o))(hk:opnd t k=some (ofValue (ek key)))(ho:H[o]?=some (.mrow (mE ek ev l)))(hl:Nat.ble H.length lim=true)
  (k1:∀a,aget key l=some a→K (.tuple [ofValue (ev a),.lit (.bool true)]) H) (k2:aget key l=none→K (.tuple [zv,.lit (.bool false)]) H):OpP E P mm S t H (.lookup ty x k true) K:=.ev (by
 refine ⟨_,evOp_look hT hK (Nat.le_of_ble_eq_true hl) hx hk ho true,?_⟩
 cases h:aget key l with
 | some a=>exact k1 a h
 | none=>exact k2 h)
theorem OpP.look1(zv:AV)(hT:MapT E ty kt zv)(hK:KeyE E kt ek)(hx:opnd t x=some (.map o))(hk:opnd t k=some (ofValue (ek key)))(ho:H[o]?=some (.mrow (mE ek ev l)))(hl:Nat.ble H.length lim=true)
  (k1:∀a,aget key l=some a→K (ofValue (ev a)) H) (k2:aget key l=none→K zv H):OpP E P mm S t H (.lookup ty x k false) K:=.ev (by
 refine ⟨_,evOp_look hT hK (Nat.le_of_ble_eq_true hl) hx hk ho false,?_⟩
 cases h:aget key l with
 | some a=>exact k1 a h
 | none=>exact k2 h)
theorem OpP.mput{a:α}{kv vv:AV}(hT:MapT E ty kt zv)(hK:KeyE E kt ek)(hm:opnd t m=some (.map o))(hk:opnd t k=some kv)(hv:opnd t v=some vv)(ek_:kv=ofValue (ek key))(hkf:kv.flat=some (ek key))(hvf:vv.flat=some (ev a))(ho:H[o]?=some (.mrow (mE ek ev l)))(hl:Nat.ble H.length lim=true)
  (k1:setK H o (.mrow (mE ek ev (aput key a l))) fun H'=>K undefV H'):OpP E P mm S t H (.mapUpdate ty m k v) K:=.ev (by
 subst ek_
 have hl:=Nat.le_of_ble_eq_true hl
 obtain ⟨r,et,er,z,h1,h2,h3,h4,rfl⟩:=hT.out
 obtain ⟨d,_,hd,hke⟩:=hK.eq
 rw[setK_eq] at k1
 have hlt:=(List.getElem?_eq_some_iff.1 ho).1
 have hg:(hp H).heap.get o=some (.mrow (mE ek ev l)):=by rw[hp_get hl,ho];rfl
 refine ⟨.act undefV { hp H with heap:=(hp H).heap.put o (vw (.mrow (mE ek ev (aput key a l)))) },?_,_,hpEq_set (ob:=.mrow (mE ek ev (aput key a l))) hl hlt,newOk_same _,.of_eq (rss_set (ob:=.mrow (mE ek ev (aput key a l))) ho rfl).symm,k1⟩
 simp only[evOp,hm,hk,hv,updateA,h1,h2,hd,hg,hkf,hvf,findA_mE hke,vw]
 unfold aput
 cases hf:afind key l 0 with
 | none=>simp[mE]
 | some p=>
   simp only[Option.map_some,Option.some.injEq,Out.act.injEq,true_and,AS.mk.injEq,and_true]
   simp[mE,List.map_set])
theorem OpP.madd{op:Op}{r:TyRow}{kt' et:TypeId}{d:TypeDesc}{es:List (AV×AV×Nat)}{clock:Nat}{kv vv:AV}(hop:op=.mapUpdate ty m k v∨op=.insert ty m k v)(hr:E.ty ty=some r)(hu:r.und=.map kt' et)(hm:opnd t m=some (.map o))(hk:opnd t k=some kv)(hv:opnd t v=some vv)(hkt:keyTy E kt' kv=some d)(ho:H[o]?=some (.map es clock))(hf:findA d kv es 0=some none)(hl:Nat.ble H.length lim=true)
  (k1:snocK es (kv,vv,clock) fun es=>natF (clock+1) fun n=>setK H o (.map es n) fun H'=>K undefV H'):OpP E P mm S t H op K:=.ev (by
 have hl:=Nat.le_of_ble_eq_true hl
 rw[snocK_eq,natF_eq,setK_eq] at k1
 have hlt:=(List.getElem?_eq_some_iff.1 ho).1
 have hg:(hp H).heap.get o=some (.map es clock):=by rw[hp_get hl,ho];rfl
 refine ⟨.act undefV { hp H with heap:=(hp H).heap.put o (vw (.map (es++[(kv,vv,clock)]) (clock+1))) },?_,_,hpEq_set (ob:=.map (es++[(kv,vv,clock)]) (clock+1)) hl hlt,newOk_same _,.of_eq (rss_set (ob:=.map (es++[(kv,vv,clock)]) (clock+1)) ho rfl).symm,k1⟩
 rcases hop with rfl|rfl<;>simp only[evOp,hm,hk,hv,updateA,hr,hu,hkt,hg,hf,vw,Option.map_some])
theorem OpP.mdel{c:Call}{ts:List TypeId}(hc:c.callee=.builtin .delete)(hts:c.argTypes.toList=ty::ts)(hargs:argsA t c.args.toList=some [.map o,ofValue (ek key)])(hT:MapT E ty kt zv)(hK:KeyE E kt ek)(ho:H[o]?=some (.mrow (mE ek ev l)))(hl:Nat.ble H.length lim=true)
  (k1:setK H o (.mrow (mE ek ev (adel key l))) fun H'=>K undefV H'):OpP E P mm S t H (.call c) K:=.ev (by
 have hl:=Nat.le_of_ble_eq_true hl
 obtain ⟨r,et,er,z,h1,h2,h3,h4,rfl⟩:=hT.out
 obtain ⟨d,hs,hd,hke⟩:=hK.eq
 rw[setK_eq] at k1
 have hlt:=(List.getElem?_eq_some_iff.1 ho).1
 have hg:(hp H).heap.get o=some (.mrow (mE ek ev l)):=by rw[hp_get hl,ho];rfl
 refine ⟨.act undefV { hp H with heap:=(hp H).heap.put o (vw (.mrow (mE ek ev (adel key l)))) },?_,_,hpEq_set (ob:=.mrow (mE ek ev (adel key l))) hl hlt,newOk_same _,.of_eq (rss_set (ob:=.mrow (mE ek ev (adel key l))) ho rfl).symm,k1⟩
 simp only[evOp,hargs,hc,hts,builtinA,deleteA,h1,h2,hd,hg,hs,findA_mE hke,vw]
 unfold adel
 cases hf:afind key l 0 with
 | none=>simp
 | some p=>simp[mE,eraseIdx_mapped])
end
section
variable{P:Program}{E:Env}{mm:Bool}{S:List Nat}{t:Tmps}{H:List AObj}{K:AV→List AObj→Prop}
theorem OpP.shr{ty yt:TypeId}{x y:Operand}{q q':IntKind}{a b:Int}(hx:opnd t x=some (.lit (.int q a)))(hy:opnd t y=some (.lit (.int q' b)))(hb:0≤b)(k:K (.lit (.int q (a.fdiv (2 ^ min b.toNat q.bits)))) H):OpP E P mm S t H (.binOp .shr ty x y yt) K:=.ev
 ⟨.pure (.lit (.int q (a.fdiv (2 ^ min b.toNat q.bits)))),by
  simp only[evOp,hx,hy,binA,Go.binOp,Op.shift,if_neg (show ¬b<0 by omega)]
  rfl,k⟩
theorem OpP.shl{ty yt:TypeId}{x y:Operand}{q q':IntKind}{a b:Int}(hx:opnd t x=some (.lit (.int q a)))(hy:opnd t y=some (.lit (.int q' b)))(hb:0≤b)(k:K (.lit (.int q (q.wrap (a * 2 ^ min b.toNat q.bits)))) H):OpP E P mm S t H (.binOp .shl ty x y yt) K:=.ev
 ⟨.pure (.lit (.int q (q.wrap (a * 2 ^ min b.toNat q.bits)))),by
  simp only[evOp,hx,hy,binA,Go.binOp,Op.shift,if_neg (show ¬b<0 by omega)]
  rfl,k⟩
theorem OpP.quo{ty yt:TypeId}{x y:Operand}{q:IntKind}{a b:Int}(hx:opnd t x=some (.lit (.int q a)))(hy:opnd t y=some (.lit (.int q b)))(hb:(b==0)=false)(k:K (.lit (.int q (q.wrap (a.tdiv b)))) H):OpP E P mm S t H (.binOp .quo ty x y yt) K:=.ev
 ⟨.pure (.lit (.int q (q.wrap (a.tdiv b)))),by
  have hb:b≠0:=by simpa using hb
  simp only[evOp,hx,hy,binA,Go.binOp,Op.intDiv,if_neg hb,ne_eq,not_true_eq_false,if_false]
  rfl,k⟩
theorem OpP.rem{ty yt:TypeId}{x y:Operand}{q:IntKind}{a b:Int}(hx:opnd t x=some (.lit (.int q a)))(hy:opnd t y=some (.lit (.int q b)))(hb:(b==0)=false)(k:K (.lit (.int q (a.tmod b))) H):OpP E P mm S t H (.binOp .rem ty x y yt) K:=.ev
 ⟨.pure (.lit (.int q (a.tmod b))),by
  have hb:b≠0:=by simpa using hb
  simp only[evOp,hx,hy,binA,Go.binOp,Op.intDiv,if_neg hb,ne_eq,not_true_eq_false,if_false]
  rfl,k⟩
end
def mflat:List (AV×AV×Nat)→Option (List (Value×Value))
 | []=>some []
 | (k,v,_)::l=>match k.flat,v.flat,mflat l with
   | some a,some b,some r=>some ((a,b)::r)
   | _,_,_=>none
def rises:Nat→List (AV×AV×Nat)→Nat→Bool
 | _,[],_=>true
 | b,(_,_,n)::l,c=>Nat.ble b n&&Nat.blt n c&&rises (n+1) l c
inductive Wk:List AObj→List AObj→Prop
 | nil:Wk [] []
 | same {a:AObj} {H H':List AObj}:Wk H H'→Wk (a::H) (a::H')
 | map {es:List (AV×AV×Nat)} {c:Nat} {fs:List (Value×Value)} {H H':List AObj}:mflat es=some fs→rises 0 es c=true→(fs.map (·.1)).Nodup→Wk H H'→Wk (.map es c::H) (.mrow fs::H')
theorem Wk.len{H H':List AObj}(h:Wk H H'):H'.length=H.length:=by
 induction h<;>simp_all
theorem Wk.rss{H H':List AObj}(h:Wk H H'):rss H'=rss H:=by
 unfold Ev.rss
 induction h with
 | nil=>rfl
 | same _ ih=>simp[ih]
 | map _ _ _ _ ih=>simp[ih,rsOf]
theorem Wk.get{H H':List AObj}(h:Wk H H'):∀{o:Nat} {b:AObj},H'[o]?=some b→∃a,H[o]?=some a∧(a=b∨∃es c fs,a=.map es c∧b=.mrow fs∧mflat es=some fs∧rises 0 es c=true∧(fs.map (·.1)).Nodup):=by
 induction h with
 | nil=>intro o b hb;simp at hb
 | @same a H H' _ ih=>
   intro o b hb
   cases o with
   | zero=>simp at hb;subst hb;exact ⟨a,by simp,.inl rfl⟩
   | succ o=>simpa using ih (by simpa using hb)
 | @map es c fs H H' h1 h2 h3 _ ih=>
   intro o b hb
   cases o with
   | zero=>simp at hb;subst hb;exact ⟨_,by simp,.inr ⟨es,c,fs,rfl,rfl,h1,h2,h3⟩⟩
   | succ o=>simpa using ih (by simpa using hb)
theorem rises_ok:∀{es:List (AV×AV×Nat)} {b c:Nat} {γ:Gam} {l:List MapEntry},rises b es c=true→EntRel γ es l→(∀x∈l,b≤x.born∧x.born<c)∧(l.map (·.born)).Nodup
 | [],b,c,γ,l,_,he=>by
   simp only[EntRel] at he
   subst he
   simp
 | (k,v,n)::es,b,c,γ,l,h,he=>by
   simp only[EntRel] at he
   obtain ⟨k',v',rest,rfl,_,_,he⟩:=he
   simp only[rises,Bool.and_eq_true] at h
   obtain ⟨⟨h1,h2⟩,h3⟩:=h
   have h1:=Nat.le_of_ble_eq_true h1
   have h2:n<c:=Nat.le_of_ble_eq_true h2
   obtain ⟨h4,h5⟩:=rises_ok h3 he
   refine ⟨fun x hx=>?_,?_⟩
   ·rcases List.mem_cons.1 hx with rfl|hx
    ·exact ⟨h1,h2⟩
    ·have:=h4 x hx;exact ⟨by omega,this.2⟩
   ·simp only[List.map_cons,List.nodup_cons,List.mem_map,not_exists,not_and]
    refine ⟨fun x hx e=>?_,h5⟩
    have:=(h4 x hx).1
    omega
theorem mflat_ok:∀{es:List (AV×AV×Nat)} {fs:List (Value×Value)} {γ:Gam} {l:List MapEntry},mflat es=some fs→EntRel γ es l→l.map (fun e=>(e.key,e.val))=fs
 | [],fs,γ,l,h,he=>by
   simp only[EntRel] at he
   subst he
   cases h
   rfl
 | (k,v,n)::es,fs,γ,l,h,he=>by
   simp only[EntRel] at he
   obtain ⟨k',v',rest,rfl,h1,h2,he⟩:=he
   simp only[mflat] at h
   split at h
   ·rename_i a b r ha hb hr
    cases h
    have e1:=flat_conc k a k' ha h1
    have e2:=flat_conc v b v' hb h2
    subst e1 e2
    simp[mflat_ok hr he]
   ·cases h
theorem RelL.wk{F:Frz}{γ:Gam}{H H':List AObj}{w:World}(hR:RelL F γ (hp H) w)(h:Wk H H'):RelL F γ (hp H') w:=by
 have hl:H.length≤lim:=hR.lim
 have hl':H'.length≤lim:=by rw[h.len];exact hl
 have key:∀o p,γ o=some (some p)→∃ob,(hp H').heap.get o=some ob∧ObjRel γ ob p w∧((hp H).heap.get o≠some .dead→ob≠.dead):=by
  intro o p hp'
  obtain ⟨ob,h1,h2⟩:=hR.obj o p hp'
  rw[hp_get hl] at h1
  obtain ⟨a,ha,rfl⟩:=Option.map_eq_some_iff.1 h1
  have hlt:=(List.getElem?_eq_some_iff.1 ha).1
  have hlt':o<H'.length:=by rw[h.len];exact hlt
  have hb:H'[o]?=some H'[o]:=List.getElem?_eq_getElem hlt'
  obtain ⟨a',ha',hab⟩:=h.get hb
  rw[ha] at ha'
  cases ha'
  rw[hp_get hl',hb,hp_get hl,ha]
  refine ⟨_,rfl,?_,?_⟩
  ·rcases hab with e|⟨es,c,fs,rfl,e,k1,k2,k3⟩
   ·rw[←e];exact h2
   ·rw[e]
    obtain ⟨es',hw,he⟩:=h2
    obtain ⟨r1,r2⟩:=rises_ok k2 he
    have r3:=mflat_ok k1 he
    refine ⟨es',c,hw,r3,fun _=>⟨fun x hx=>(r1 x hx).2,r2,?_⟩⟩
    rw[←r3,List.map_map] at k3
    exact k3
  ·intro hne hd
   rcases hab with e|⟨es,c,fs,rfl,e,_⟩
   ·exact hne (by rw[e,Option.map_some,hd])
   ·rw[e] at hd;cases hd
 refine ⟨⟨fun o ho=>hR.dom o (by show H.length≤o;rw[←h.len];exact ho),fun o p hp'=>?_,fun o ho=>?_,hR.inj,hl'⟩,fun o p hp'=>?_,hR.frame⟩
 ·obtain ⟨ob,h1,h2,_⟩:=key o p hp'
  exact ⟨ob,h1,h2⟩
 ·have h1:=hR.gone o ho
  rw[hp_get hl] at h1
  obtain ⟨a,ha,hd⟩:=Option.map_eq_some_iff.1 h1
  have hlt:=(List.getElem?_eq_some_iff.1 ha).1
  have hlt':o<H'.length:=by rw[h.len];exact hlt
  have hb:H'[o]?=some H'[o]:=List.getElem?_eq_getElem hlt'
  obtain ⟨a',ha',hab⟩:=h.get hb
  rw[ha] at ha'
  cases ha'
  rw[hp_get hl',hb]
  rcases hab with e|⟨es,c,fs,rfl,e,_⟩
  ·rw[←e];simp[hd]
  ·cases hd
 ·obtain ⟨ob,h1,_,h3⟩:=key o p hp'
  rw[h1]
  exact fun e=>h3 (hR.live o p hp') (Option.some.inj e)
theorem Rs.wk{F:Frz}{γ:Gam}{H H':List AObj}{w:World}(hR:Rs F γ H w)(h:Wk H H'):Rs F γ H' w:=hR.ent (.of_eq h.rss.symm)
theorem Rl.wk{F:Frz}{γ:Gam}{H H':List AObj}{w:World}(hR:Rl F γ H w)(h:Wk H H'):Rl F γ H' w:=⟨hR.rel.wk h,fun o ho=>hR.pl o (by rw[←h.len];exact ho),hR.rs.wk h⟩
theorem WpS.wk{P:Program}{n k:Nat}{c:Code}{t:Tmps}{H H':List AObj}{Q:AExit→Tmps→List AObj→Prop}(hw:Wk H H')(h:WpS P n k c t H' Q):WpS P n k c t H Q:=
 ⟨fun F γ w a R hR hT hQ=>h.out F γ w a R (hR.wk hw) hT hQ⟩
theorem CallS.wk{P:Program}{f:Nat}{args:List AV}{H:List AObj}{K K':AV→List AObj→Prop}(h:CallS P [] f args H K)(hk:∀v H1,K v H1→∃H2,Wk H1 H2∧K' v H2):CallS P [] f args H K':=⟨fun F γ w xs hR hpl hrs ha=>by
 obtain ⟨h1,h2⟩:=h.out F γ w xs hR hpl hrs ha
 refine ⟨h1,fun R hRet=>h2 R fun v H1 γ' x w' k1 k2 k3=>?_⟩
 obtain ⟨H2,k4,k5⟩:=hk v H1 k1
 have hl:=k3.rel.lim
 refine hRet v H2 γ' x w' k5 k2 ⟨k3.rel.wk k4,⟨k3.step.ext,k3.step.new,by show H.length≤H2.length;rw[k4.len];exact k3.step.le,fun o ho hg=>absurd hg (hpl o ho (by simp))⟩,fun q hq=>k3.pl q (by rw[←k4.len];exact hq),k3.rs.wk k4⟩⟩
end Go.Proofs.YtmbdghclhpboaaaGreat.Ev

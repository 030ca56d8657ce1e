/- Part of the proof: EvU. Conditions: as each states. -/
import Derived.Test.YtmbdghclhpboaaaGreatPb9
set_option linter.all false
namespace Go.Proofs.YtmbdghclhpboaaaGreat.Ev
theorem vsame_eq{a b:Value}(h:vsame a b=true):a=b:=by
 unfold vsame at h
 split at h
 ·simp at h;rw[h]
 ·simp at h;rw[h.1,h.2]
 ·simp only[beq_iff_eq] at h
  congr 1
  exact ByteArray.ext (Array.ext' h)
 ·rfl
 ·rfl
 ·simp only[Bool.and_eq_true] at h
  rw[Nat.eq_of_beq_eq_true h.1,Nat.eq_of_beq_eq_true h.2]
 ·rfl
 ·rfl
 ·cases h
mutual
theorem same_eq:∀(a b:AV),AV.same a b=true→a=b
 | .lit a,.lit b,h=>by unfold AV.same at h;rw[vsame_eq h]
 | .ptr _ _,.ptr _ _,h=>by
   simp only[AV.same,Bool.and_eq_true] at h
   rw[Nat.eq_of_beq_eq_true h.1,Nat.eq_of_beq_eq_true h.2]
 | .slice _ _ _ c,.slice _ _ _ c',h=>by
   simp only[AV.same,Bool.and_eq_true] at h
   obtain ⟨⟨⟨h1,h2⟩,h3⟩,h4⟩:=h
   rw[Nat.eq_of_beq_eq_true h1,Nat.eq_of_beq_eq_true h2,Nat.eq_of_beq_eq_true h3]
   cases c<;>cases c'<;>simp only[Bool.false_eq_true] at h4<;>rw[Nat.eq_of_beq_eq_true h4]
 | .map _,.map _,h=>by simp only[AV.same] at h;rw[Nat.eq_of_beq_eq_true h]
 | .iface _ b,.iface _ d,h=>by
   simp only[AV.same,Bool.and_eq_true] at h
   rw[Nat.eq_of_beq_eq_true h.1,same_eq b d h.2]
 | .agg a,.agg b,h=>by simp only[AV.same] at h;rw[sames_eq a b h]
 | .tuple a,.tuple b,h=>by simp only[AV.same] at h;rw[sames_eq a b h]
 | .func ..,_,h=>by simp[AV.same] at h
 | .lit _,.ptr ..,h|.lit _,.slice ..,h|.lit _,.map ..,h|.lit _,.func ..,h|.lit _,.iface ..,h|.lit _,.agg ..,h|.lit _,.tuple ..,h=>by simp[AV.same] at h
 | .ptr ..,.lit _,h|.ptr ..,.slice ..,h|.ptr ..,.map ..,h|.ptr ..,.func ..,h|.ptr ..,.iface ..,h|.ptr ..,.agg ..,h|.ptr ..,.tuple ..,h=>by simp[AV.same] at h
 | .slice ..,.lit _,h|.slice ..,.ptr ..,h|.slice ..,.map ..,h|.slice ..,.func ..,h|.slice ..,.iface ..,h|.slice ..,.agg ..,h|.slice ..,.tuple ..,h=>by simp[AV.same] at h
 | .map ..,.lit _,h|.map ..,.ptr ..,h|.map ..,.slice ..,h|.map ..,.func ..,h|.map ..,.iface ..,h|.map ..,.agg ..,h|.map ..,.tuple ..,h=>by simp[AV.same] at h
 | .iface ..,.lit _,h|.iface ..,.ptr ..,h|.iface ..,.slice ..,h|.iface ..,.map ..,h|.iface ..,.func ..,h|.iface ..,.agg ..,h|.iface ..,.tuple ..,h=>by simp[AV.same] at h
 | .agg ..,.lit _,h|.agg ..,.ptr ..,h|.agg ..,.slice ..,h|.agg ..,.map ..,h|.agg ..,.func ..,h|.agg ..,.iface ..,h|.agg ..,.tuple ..,h=>by simp[AV.same] at h
 | .tuple ..,.lit _,h|.tuple ..,.ptr ..,h|.tuple ..,.slice ..,h|.tuple ..,.map ..,h|.tuple ..,.func ..,h|.tuple ..,.iface ..,h|.tuple ..,.agg ..,h=>by simp[AV.same] at h
theorem sames_eq:∀(a b:List AV),AV.sames a b=true→a=b
 | [],[],_=>rfl
 | [],_::_,h=>by simp[AV.sames] at h
 | _::_,[],h=>by simp[AV.sames] at h
 | a::l,b::m,h=>by
   simp only[AV.sames,Bool.and_eq_true] at h
   rw[same_eq a b h.1,sames_eq l m h.2]
end
theorem again_ok{E:Env}{pm:Nat}{t:Tmps}{σ:AS}:∀{l:List Row},again E pm t σ l=true→∀r∈l,has pm r.i=false →
  ∃v,evOp E t σ r.o.op=some (.read v)∧∀d u,r.o.dst=some d→t.get d=some u→u=v
 | [],_,r,hr,_=>by cases hr
 | q::l,h,r,hr,hp=>by
   simp only[again,Bool.and_eq_true,Bool.or_eq_true] at h
   rcases List.mem_cons.1 hr with rfl|hr
   ·have h1:=h.1.resolve_left (by rw[hp];simp)
    split at h1
    ·rename_i v d he hd
     refine ⟨v,he,fun d' u e hu=>?_⟩
     have e:=Option.some.inj (hd.symm.trans e)
     subst e
     rw[hu] at h1
     exact same_eq u v h1
    ·rename_i v he hd
     exact ⟨v,he,fun d u e _=>by rw[hd] at e;cases e⟩
    ·cases h1
   ·exact again_ok h.2 r hr hp
theorem pick_ok{p:Row→Bool}:∀{l:List Row} {r:Row} {m:List Row},pickRow p l=some (r,m)→p r=true∧l.Perm (r::m)
 | [],r,m,h=>by simp[pickRow] at h
 | x::l,r,m,h=>by
   simp only[pickRow] at h
   split at h
   ·rename_i hp
    simp only[Option.some.injEq,Prod.mk.injEq] at h
    obtain ⟨rfl,rfl⟩:=h
    exact ⟨hp,.refl _⟩
   ·split at h
    ·rename_i q m' hq
     simp only[Option.some.injEq,Prod.mk.injEq] at h
     obtain ⟨rfl,rfl⟩:=h
     obtain ⟨h1,h2⟩:=pick_ok hq
     exact ⟨h1,(h2.cons x).trans (.swap ..)⟩
    ·cases h
theorem pick_none{p:Row→Bool}:∀{l:List Row},pickRow p l=none→∀r∈l,p r=false
 | [],_,r,hr=>by cases hr
 | x::l,h,r,hr=>by
   simp only[pickRow] at h
   split at h
   ·cases h
   ·rename_i hp
    split at h
    ·cases h
    ·rename_i hq
     rcases List.mem_cons.1 hr with rfl|hr
     ·exact hp
     ·exact pick_none hq r hr
inductive PK where
 | no
 | now (v:AV)
 | read (v:AV)
 | new (ob:AObj) (k:NewK) (id:Nat)
def PK.val:PK→AV
 | .no=>undefV
 | .now v=>v
 | .read v=>v
 | .new _ k id=>k.val id
def Pend(E:Env)(ops:List Oper)(rd:List Row)(t:Tmps)(σ:AS)(γ:Gam)(r:Row):PK→Prop
 | .no=>wantedA ops t r.o=some false
 | .now v=>wantedA ops t r.o=some true∧evOp E t σ r.o.op=some (.pure v)
 | .read v=>wantedA ops t r.o=some true∧r∈rd∧∃u,evOp E t σ r.o.op=some (.read u)∧(r.o.dst≠none→u=v)
 | .new ob k id=>wantedA ops t r.o=some true∧evOp E t σ r.o.op=some (.new ob k)∧id<σ.next∧γ id=none∧σ.heap.get id=some ob
def SameAt(l:List Nat)(t t':Tmps):Prop:=∀d∈l,t.get d=t'.get d
theorem sameAt_wanted{ops:Array Oper}{o:Oper}{t t':Tmps}(h:SameAt (o.looksAt ops) t t'):wantedA ops.toList t o=wantedA ops.toList t' o:=
 wantedA_congr fun d hd=>h d (by
  unfold Oper.looksAt
  refine List.mem_append_right _ ?_
  cases hg:o.guard with
  | none=>rw[hg] at hd;cases hd
  | some g=>
    obtain ⟨j,want⟩:=g
    rw[hg] at hd
    simp only[Option.bind_some] at hd
    simp only[hd]
    simp)
theorem sameAt_evOp{E:Env}{σ:AS}{ops:Array Oper}{o:Oper}{t t':Tmps}(h:SameAt (o.looksAt ops) t t'):evOp E t σ o.op=evOp E t' σ o.op:=
 evOp_congr o.op fun x hx=>by
  cases x with
  | tmp d=>exact h d (List.mem_append_left _ (List.mem_filterMap.2 ⟨.tmp d,by simpa using hx,rfl⟩))
  | _=>rfl
theorem sameAt_step{E:Env}{cb:Cb}{σ:AS}{ops:Array Oper}{o:Oper}{t t':Tmps}(h:SameAt (o.looksAt ops) t t'):stepV E cb ops.toList o t σ=stepV E cb ops.toList o t' σ:=by
 unfold stepV
 rw[sameAt_wanted h,sameAt_evOp h]
def Pending(done:Nat)(listed:Array Bool)(r:Row):Prop:=has done r.i=true∧listed.getD r.i false=false
open Classical in
noncomputable def pmask(rows:List Row)(done:Nat)(listed:Array Bool)(d:Nat):Bool:=decide (∃r∈rows,Pending done listed r∧r.o.dst=some d)
theorem pmask_t{rows:List Row}{done:Nat}{listed:Array Bool}{d:Nat}:pmask rows done listed d=true↔∃r∈rows,Pending done listed r∧r.o.dst=some d:=by
 classical unfold pmask;exact decide_eq_true_iff
theorem pmask_f{rows:List Row}{done:Nat}{listed:Array Bool}{d:Nat}:pmask rows done listed d=false↔∀r∈rows,Pending done listed r→r.o.dst≠some d:=by
 rw[←Bool.not_eq_true,pmask_t]
 constructor
 ·intro h r hr hp e;exact h ⟨r,hr,hp,e⟩
 ·rintro h ⟨r,hr,hp,e⟩;exact h r hr hp e
structure Inv(F:Frz)(E:Env)(ops:Array Oper)(rows:List Row)(n:Nat)(γ0:Gam)(σ0:AS)(done:Nat)(rem rd:List Row)(t:Tmps)(σ:AS)(kd:Nat→PK)(γ:Gam)(listed:Array Bool)(a:Act)(w:World):Prop where
 remIn:∀r∈rem,r∈rows∧has done r.i=false
 cover:∀r∈rows,has done r.i=true∨r∈rem
 remD:rem.Pairwise (fun r q=>r.i≠q.i)
 down:∀r∈rows,has done r.i=true→∀j,has r.pm j=true→has done j=true
 sub:∀r∈rows,listed.getD r.i false=true→has done r.i=true
 size:listed.size=ops.size
 pend:∀r∈rows,Pending done listed r→r.early=true∧Pend E ops.toList rd t σ γ r (kd r.i)∧(∀d,r.o.dst=some d→t.get d=some (kd r.i).val∧d<n)
 ids:∀r∈rows,∀q∈rows,Pending done listed r→Pending done listed q→∀ob k id ob' k',kd r.i=.new ob k id→kd q.i=.new ob' k' id→r.i=q.i
 fresh:∀r∈rows,Pending done listed r→∀ob k id,kd r.i=.new ob k id→σ0.next≤id
 rel:RelL F γ σ w
 step:Step γ0 σ0 γ σ
 tmps:ConcT γ n (T.mask (pmask rows done listed) t) a
theorem getD_set_self{listed:Array Bool}{i:Nat}(h:i<listed.size)(d:Bool):(listed.setIfInBounds i true).getD i d=true:=by
 simp[h]
section
variable{F:Frz}{P:Program}{E:Env}{ops:Array Oper}{rows:List Row}(hrows:RowsOk ops rows){n:Nat}{γ0:Gam}{σ0:AS}{done:Nat}{rem rd:List Row}{t:Tmps}{σ:AS}{kd:Nat→PK}{γ:Gam}{listed:Array Bool}{a:Act}{w:World}
include hrows
theorem RowsOk.idx{r:Row}(hr:r∈rows):r.i<ops.size:=(Array.getElem?_eq_some_iff.1 (hrows.row r hr).1).1
theorem RowsOk.looksEq{r:Row}(hr:r∈rows):r.looks=r.o.looksAt ops:=by
 rw[(hrows.row r hr).2];rfl
theorem RowsOk.earlyEq{r:Row}(hr:r∈rows):r.early=early r.o.op:=by
 rw[(hrows.row r hr).2];rfl
theorem ready_row{i:Nat}(h:i∈Region.ready .any ops listed):∃r∈rows,r.i=i∧listed.getD i true=false∧∀j,has r.pm j=true→listed.getD j false=true:=by
 obtain ⟨h0,o,ho,hall⟩:=mem_ready.1 h
 refine ⟨_,hrows.all i o ho,rfl,h0,fun j hj=>?_⟩
 obtain ⟨e,he,hb,rfl⟩:=(has_predMask j _).1 hj
 exact hall e (by simpa using he) hb
omit hrows in
theorem getD_false_of(hs:listed.size=ops.size){i:Nat}(h:listed.getD i true=false):listed.getD i false=false:=by
 rcases Nat.lt_or_ge i listed.size with h'|h'
 ·simpa [h'] using h
 ·simp[Array.getElem?_eq_none h'] at h
theorem keep_looks(hI:Inv F E ops rows n γ0 σ0 done rem rd t σ kd γ listed a w){r q:Row}(hr:r∈rows)(hnr:has done r.i=false)(hq:q∈rows)(hp:Pending done listed q)
  (hre:r.early=true∨∀j,has r.pm j=true→listed.getD j false=true) (d:Nat) (hd:r.o.dst=some d):d∉q.looks∧q.o.dst≠some d:=by
 have hne:r.i≠q.i:=fun e=>by have:=hp.1;rw[←e,hnr] at this;cases this
 have hpo:=hrows.pair r hr q hq hne
 refine ⟨fun hm=>?_,fun e=>?_⟩
 ·rcases hpo.looks d hd hm with h|⟨h,h'⟩
  ·have:=hI.down q hq hp.1 _ h
   rw[hnr] at this;cases this
  ·rcases hre with e|e
   ·rw[h'] at e;cases e
   ·have:=e _ h
    rw[hp.2] at this;cases this
 ·have h1:=(hpo.dst d hd e).2
  rw[(hI.pend q hq hp).1] at h1;cases h1
omit hrows in
theorem putA_get{t t1:Tmps}{dst:Option Nat}{v:AV}(h:putA n t dst v=some t1)(hn:n≤lim)(i:Nat):t1.get i=if dst=some i then some v else t.get i:=by
 unfold putA at h
 cases dst with
 | none=>simp only[Option.some.injEq] at h;subst h;simp
 | some d=>
   simp only[] at h
   split at h
   ·rename_i hlt
    have:=blt_t hlt
    simp only[Option.some.injEq] at h
    subst h
    rw[T.get_put _ _ _ _ (by omega)]
    by_cases e:i=d
    ·subst e;simp
    ·rw[if_neg e,if_neg (fun h=>e (Option.some.inj h).symm)]
   ·cases h
omit hrows in
theorem putA_lt{t t1:Tmps}{d:Nat}{v:AV}(h:putA n t (some d) v=some t1):d<n:=by
 unfold putA at h
 simp only[] at h
 split at h
 ·rename_i hlt;exact blt_t hlt
 ·cases h
theorem Pend.keep{q:Row}(hq:q∈rows){rd1:List Row}{t1:Tmps}{σ1:AS}{γ1:Gam}{k:PK}(hsame:SameAt q.looks t t1)(hrd:∀v,k=.read v→q∈rd→q∈rd1∧∃u,evOp E t1 σ1 q.o.op=some (.read u)∧(q.o.dst≠none→u=v))
  (hσ:Step γ σ γ1 σ1) (h:Pend E ops.toList rd t σ γ q k):Pend E ops.toList rd1 t1 σ1 γ1 q k:=by
 rw[hrows.looksEq hq] at hsame
 have hw:=sameAt_wanted hsame
 cases k with
 | no=>exact hw.symm.trans h
 | now v=>exact ⟨hw ▸ h.1,evOp_pure σ1 (sameAt_evOp (E:=E) (σ:=σ) hsame ▸ h.2)⟩
 | read v=>
   obtain ⟨h1,h2,u,h3,h4⟩:=h
   obtain ⟨e1,e2⟩:=hrd v rfl h2
   exact ⟨hw ▸ h1,e1,e2⟩
 | new ob k id=>
   obtain ⟨h1,h2,h3,h4,h5⟩:=h
   exact ⟨hw ▸ h1,evOp_new σ1 (sameAt_evOp (E:=E) (σ:=σ) hsame ▸ h2),Nat.lt_of_lt_of_le h3 hσ.le,hσ.new id h3 h4,(hσ.same id h3 h4).trans h5⟩
theorem Inv.ahead(hI:Inv F E ops rows n γ0 σ0 done rem rd t σ kd γ listed a w)(hn:n≤lim){r:Row}{rem1:List Row}(hp:rem.Perm (r::rem1))(hre:r.early=true)(hrdy:ready done r=true){k:PK}{t1:Tmps}(ht:putA n t r.o.dst k.val=some t1){rd1:List Row}{σ1:AS}
  (hk:Pend E ops.toList rd1 t1 σ1 γ r k) (hnew:∀ob x id,k=.new ob x id→σ.next≤id)
  (hrd:∀q v,q∈rows→kd q.i=.read v→q∈rd→(∃u,evOp E t1 σ q.o.op=some (.read u)∧(q.o.dst≠none→u=v))→(∀d,q.o.dst=some d→t1.get d=some v)→q∈rd1∧∃u,evOp E t1 σ1 q.o.op=some (.read u)∧(q.o.dst≠none→u=v))
  (hR:RelL F γ σ1 w) (hS:Step γ σ γ σ1) :
  Inv F E ops rows n γ0 σ0 (Nat.lor done (Nat.shiftLeft 1 r.i)) rem1 rd1 t1 σ1 (fun j=>if j=r.i then k else kd j) γ listed a w:=by
 have hrm:r∈rem:=hp.mem_iff.2 (by simp)
 obtain ⟨hr,hnr⟩:=hI.remIn r hrm
 have hD:(r::rem1).Pairwise (fun r q=>r.i≠q.i):=(hp.pairwise_iff (fun h=>Ne.symm h)).1 hI.remD
 rw[List.pairwise_cons] at hD
 have hdone:∀j,has (Nat.lor done (Nat.shiftLeft 1 r.i)) j=true↔has done j=true∨j=r.i:=fun j=>by rw[has_lor];simp
 have hlr:listed.getD r.i false=false:=by
  cases h:listed.getD r.i false with
  | false=>rfl
  | true=>have:=hI.sub r hr h;rw[hnr] at this;cases this
 have hpend:∀q∈rows,Pending (Nat.lor done (Nat.shiftLeft 1 r.i)) listed q→(q=r∨(q.i≠r.i∧Pending done listed q)):=fun q hq h=>by
  by_cases e:q.i=r.i
  ·exact .inl (hrows.eq hq hr e)
  ·exact .inr ⟨e,((hdone q.i).1 h.1).resolve_right e,h.2⟩
 have hkeep:=fun (q:Row) (hq:q∈rows) (hq':Pending done listed q)=>keep_looks hrows hI hr hnr hq hq' (.inl hre)
 have hget:=putA_get ht hn
 refine ⟨fun q hq=>?_,fun q hq=>?_,hD.2,fun q hq h j hj=>?_,fun q hq h=>?_,hI.size,fun q hq h=>?_,fun q hq q' hq' h h' ob x id ob' x' e e'=>?_,fun q hq h ob x id e=>?_,hR,hI.step.trans hS,?_⟩
 ·have hq':q∈rem:=hp.mem_iff.2 (by simp[hq])
  obtain ⟨h1,h2⟩:=hI.remIn q hq'
  refine ⟨h1,?_⟩
  rw[has_lor,h2]
  simp[Ne.symm (hD.1 q hq)]
 ·rcases hI.cover q hq with h|h
  ·exact .inl ((hdone _).2 (.inl h))
  ·rcases List.mem_cons.1 (hp.mem_iff.1 h) with rfl|h
   ·exact .inl ((hdone _).2 (.inr rfl))
   ·exact .inr h
 ·rcases (hdone _).1 h with h|h
  ·exact (hdone _).2 (.inl (hI.down q hq h j hj))
  ·have e:=hrows.eq hq hr h
   subst e
   exact (hdone _).2 (.inl (ready_t.1 hrdy j hj))
 ·exact (hdone _).2 (.inl (hI.sub q hq h))
 ·rcases hpend q hq h with rfl|⟨hne,h'⟩
  ·refine ⟨hre,?_,fun d hd=>?_⟩
   ·rw[if_pos rfl];exact hk
   ·rw[if_pos rfl,hget,if_pos hd]
    refine ⟨rfl,?_⟩
    rw[hd] at ht
    exact putA_lt ht
  ·obtain ⟨h1,h2,h3⟩:=hI.pend q hq h'
   rw[if_neg hne]
   have hsame:SameAt q.looks t t1:=fun d hd=>by
    rw[hget,if_neg]
    intro e
    exact (hkeep q hq h' d e).1 hd
   have hslot:∀d,q.o.dst=some d→t1.get d=t.get d:=fun d hd=>by
    rw[hget,if_neg]
    intro e
    exact (hkeep q hq h' d e).2 hd
   refine ⟨h1,Pend.keep hrows hq hsame (fun v ev hm=>?_) hS h2,fun d hd=>?_⟩
   ·have h2':=h2
    rw[ev] at h2'
    obtain ⟨_,_,u,h4,h5⟩:=h2'
    have hs:=hsame
    rw[hrows.looksEq hq] at hs
    rw[sameAt_evOp hs] at h4
    exact hrd q v hq ev hm ⟨u,h4,h5⟩ fun d hd=>by rw[hslot d hd,(h3 d hd).1,ev];rfl
   ·rw[hslot d hd];exact h3 d hd
 ·rcases hpend q hq h with rfl|⟨hne,h1⟩<;>rcases hpend q' hq' h' with rfl|⟨hne',h1'⟩
  ·rfl
  ·rw[if_pos rfl] at e
   rw[if_neg hne'] at e'
   have h2:=hnew ob x id e
   have h3:=(hI.pend q' hq' h1').2.1
   rw[e'] at h3
   have:=h3.2.2.1
   omega
  ·rw[if_pos rfl] at e'
   rw[if_neg hne] at e
   have h2:=hnew _ _ _ e'
   have h3:=(hI.pend q hq h1).2.1
   rw[e] at h3
   have:=h3.2.2.1
   omega
  ·rw[if_neg hne] at e
   rw[if_neg hne'] at e'
   exact hI.ids q hq q' hq' h1 h1' ob x id ob' x' e e'
 ·rcases hpend q hq h with rfl|⟨hne,h1⟩
  ·rw[if_pos rfl] at e
   have:=hnew _ _ _ e
   have:=hI.step.le
   omega
  ·rw[if_neg hne] at e
   exact hI.fresh q hq h1 ob x id e
 ·refine ⟨hI.tmps.size,hI.tmps.defers,fun i v hv=>?_⟩
  rw[T.get_mask] at hv
  split at hv
  ·cases hv
  ·rename_i hm
   have hm:=pmask_f.1 (Bool.not_eq_true _ ▸ hm:_=false)
   have hri:r.o.dst≠some i:=hm r hr ⟨(hdone _).2 (.inr rfl),hlr⟩
   rw[hget,if_neg hri] at hv
   refine hI.tmps.get i v ?_
   rw[T.get_mask,if_neg,hv]
   rw[Bool.not_eq_true,pmask_f]
   exact fun q hq h=>hm q hq ⟨(hdone _).2 (.inl h.1),h.2⟩
end
end Go.Proofs.YtmbdghclhpboaaaGreat.Ev
namespace Go.Proofs.YtmbdghclhpboaaaGreat.Ev
theorem Step.place'{γ0 γ:Gam}{σ0 σ:AS}{id:Nat}(q:Option Place)(hg:γ id=none)(hid:σ0.next≤id)(h:Step γ0 σ0 γ σ):Step γ0 σ0 (upd γ id q) σ:=
 ⟨h.ext.trans (ext_upd q hg),fun o ho hgo=>by rw[upd_ne _ _ (by omega)];exact h.new o ho hgo,h.le,h.same⟩
theorem stepV_lone{E:Env}{cb:Cb}{ops:List Oper}{o:Oper}{t:Tmps}{σ σ':AS}{v:AV}(h:stepV E cb ops o t σ=some (v,σ',3)):σ'=σ:=by
 unfold stepV at h
 (repeat' split at h)<;>simp only[Option.some.injEq,Prod.mk.injEq,reduceCtorEq] at h
 all_goals first
  | exact h.2.1.symm
  | (exfalso;have:=h.2.2;omega)
section
variable{F:Frz}{P:Program}{E:Env}(hE:EnvOk P E){ops:Array Oper}{rows:List Row}(hrows:RowsOk ops rows){n:Nat}{γ0:Gam}{σ0:AS}{done:Nat}{rem rd:List Row}{t:Tmps}{σ:AS}{kd:Nat→PK}{γ:Gam}{listed:Array Bool}{a:Act}{w:World}
include hrows
theorem mask_same(hI:Inv F E ops rows n γ0 σ0 done rem rd t σ kd γ listed a w){r:Row}(hr:r∈rows)(hs:Pending done listed r→r.early=true)(hc:∀j,has r.pm j=true→listed.getD j false=true):SameAt r.looks t (T.mask (pmask rows done listed) t):=fun d hd=>by
 rw[T.get_mask,if_neg]
 rw[Bool.not_eq_true,pmask_f]
 intro q hq hp e
 by_cases hqr:q.i=r.i
 ·have:=hrows.eq hq hr hqr
  subst this
  exact hrows.self q hq (hs hp) d e hd
 ·rcases (hrows.pair q hq r hr hqr).looks d e hd with h|⟨_,h⟩
  ·have:=hc _ h
   rw[hp.2] at this;cases this
  ·rw[(hI.pend q hq hp).1] at h;cases h
theorem Inv.laid(hI:Inv F E ops rows n γ0 σ0 done rem rd t σ kd γ listed a w){r:Row}(hr:r∈rows)(hp:Pending done listed r){γ':Gam}{x:Value}{w':World}(hx:Conc γ' (kd r.i).val x)(hR:RelL F γ' σ w')(hS:Step γ0 σ0 γ' σ)(hext:Ext γ γ')
  (hkeep:∀q∈rows,Pending done listed q→q.i≠r.i→Pend E ops.toList rd t σ γ q (kd q.i)→Pend E ops.toList rd t σ γ' q (kd q.i)) :
  Inv F E ops rows n γ0 σ0 done rem rd t σ kd γ' (listed.setIfInBounds r.i true) (a.put r.o.dst x) w':=by
 have hi:r.i<listed.size:=by rw[hI.size];exact hrows.idx hr
 have hset:∀j,(listed.setIfInBounds r.i true).getD j false=if j=r.i then true else listed.getD j false:=fun j=>by
  by_cases e:j=r.i
  ·subst e;rw[if_pos rfl,getD_set_self hi]
  ·rw[if_neg e,getD_set_ne _ (Ne.symm e)]
 have hpend:∀q,Pending done (listed.setIfInBounds r.i true) q↔Pending done listed q∧q.i≠r.i:=fun q=>by
  unfold Pending
  rw[hset]
  by_cases e:q.i=r.i
  ·simp[e]
  ·simp[e]
 refine ⟨hI.remIn,hI.cover,hI.remD,hI.down,fun q hq h=>?_,by simp[hI.size],fun q hq h=>?_,fun q hq q' hq' h h'=>hI.ids q hq q' hq' ((hpend q).1 h).1 ((hpend q').1 h').1,fun q hq h=>hI.fresh q hq ((hpend q).1 h).1,hR,hS,?_⟩
 ·rw[hset] at h
  by_cases e:q.i=r.i
  ·rw[e];exact hp.1
  ·rw[if_neg e] at h;exact hI.sub q hq h
 ·obtain ⟨h1,hne⟩:=(hpend q).1 h
  obtain ⟨p1,p2,p3⟩:=hI.pend q hq h1
  exact ⟨p1,hkeep q hq h1 hne p2,p3⟩
 ·refine ⟨by cases r.o.dst<;>simpa [Act.put] using hI.tmps.size,by cases r.o.dst<;>exact hI.tmps.defers,fun i v hv=>?_⟩
  rw[T.get_mask] at hv
  split at hv
  ·cases hv
  ·rename_i hm
   have hm:=pmask_f.1 (Bool.not_eq_true _ ▸ hm:_=false)
   by_cases e:r.o.dst=some i
   ·obtain ⟨h1,h2⟩:=(hI.pend r hr hp).2.2 i e
    rw[h1] at hv
    cases hv
    refine ⟨x,?_,hx⟩
    rw[e]
    simp only[Act.put]
    rw[Array.getElem?_setIfInBounds_self_of_lt (Nat.lt_of_lt_of_le h2 hI.tmps.size)]
   ·obtain ⟨y,h1,h2⟩:=hI.tmps.get i v (by
     rw[T.get_mask,if_neg,hv]
     rw[Bool.not_eq_true,pmask_f]
     intro q hq h e'
     by_cases hqr:q.i=r.i
     ·have:=hrows.eq hq hr hqr
      subst this
      exact e e'
     ·exact hm q hq ((hpend q).2 ⟨h,hqr⟩) e')
    refine ⟨y,?_,h2.mono hext _ _⟩
    cases hd:r.o.dst with
    | none=>exact h1
    | some d=>
      simp only[Act.put]
      rw[Array.getElem?_setIfInBounds_ne (fun h=>e (by rw[hd,h]))]
      exact h1
include hE in
theorem Inv.pendStep(hI:Inv F E ops rows n γ0 σ0 done rem rd t σ kd γ listed a w){r:Row}(hr:r∈rows)(hp:Pending done listed r)(hc:∀j,has r.pm j=true→listed.getD j false=true){Q:Exit→Act→World→Prop}{K:Act→World→Prop}
  (hK:∀γ' a' w',Inv F E ops rows n γ0 σ0 done rem rd t σ kd γ' (listed.setIfInBounds r.i true) a' w'→(γ'=γ∧(∀ob k id,kd r.i≠.new ob k id)∨∃ob k id p,kd r.i=.new ob k id∧γ'=upd γ id (some p))→K a' w'):wpOp P ops Q r.i K a w:=by
 obtain ⟨he,hP,_⟩:=hI.pend r hr hp
 have hsame:=mask_same hrows hI hr (fun _=>he) hc
 rw[hrows.looksEq hr] at hsame
 have hwant:∀b,wantedA ops.toList t r.o=some b→Region.wanted r.o (yielded ops a.tmps)=b:=fun b hb=>by
  rw[sameAt_wanted hsame] at hb
  exact wanted_ok (γ:=γ) (n:=n) hb fun d u _ hu=>hI.tmps.get d u hu
 have hev:=fun out (h:evOp E t σ r.o.op=some out)=>(sameAt_evOp (E:=E) (σ:=σ) hsame).symm.trans h
 have hρ:=hI.tmps.opnd
 have hstay:(∀ob k id,kd r.i≠.new ob k id)→∀x,Conc γ (kd r.i).val x→K (a.put r.o.dst x) w:=fun hno x hx=>hK γ _ _ (hI.laid hrows hr hp hx hI.rel hI.step (.refl γ) fun q hq h hne hP=>hP) (.inl ⟨rfl,hno⟩)
 unfold wpOp
 simp only[(hrows.row r hr).1]
 cases hk:kd r.i with
 | no=>
   rw[hk] at hP
   rw[hwant _ hP]
   simp only[Bool.false_eq_true,if_false]
   exact hstay (fun _ _ _ e=>by rw[hk] at e;cases e) undef (by rw[hk];exact conc_lit γ _)
 | now v=>
   rw[hk] at hP
   rw[hwant _ hP.1]
   simp only[if_true]
   refine .inl ?_
   unfold Oper.wp
   obtain ⟨x,h1,h2⟩:=val_ok hE hI.rel.toRel hρ r.o (hev _ hP.2) (.inl rfl)
   rw[h1,Oper.upon_value]
   exact hstay (fun _ _ _ e=>by rw[hk] at e;cases e) x (by rw[hk];exact h2)
 | read v=>
   rw[hk] at hP
   obtain ⟨hP1,_,u,hP3,hP4⟩:=hP
   rw[hwant _ hP1]
   simp only[if_true]
   refine .inl ?_
   unfold Oper.wp
   obtain ⟨x,h1,h2⟩:=val_ok hE hI.rel.toRel hρ r.o (hev _ hP3) (.inr rfl)
   rw[h1,Oper.upon_value]
   cases hd:r.o.dst with
   | none=>
     obtain ⟨z,hz⟩:∃z,Conc γ v z∨True:=⟨undef,.inr trivial⟩
     have hI':=hI
     refine hK γ _ _ ?_ (.inl ⟨rfl,fun _ _ _ e=>by rw[hk] at e;cases e⟩)
     have hi:r.i<listed.size:=by rw[hI.size];exact hrows.idx hr
     have hset:∀j,(listed.setIfInBounds r.i true).getD j false=if j=r.i then true else listed.getD j false:=fun j=>by
      by_cases e:j=r.i
      ·subst e;rw[if_pos rfl,getD_set_self hi]
      ·rw[if_neg e,getD_set_ne _ (Ne.symm e)]
     have hpend:∀q,Pending done (listed.setIfInBounds r.i true) q↔Pending done listed q∧q.i≠r.i:=fun q=>by
      unfold Pending
      rw[hset]
      by_cases e:q.i=r.i<;>simp[e]
     refine ⟨hI.remIn,hI.cover,hI.remD,hI.down,fun q hq h=>?_,by simp[hI.size],fun q hq h=>hI.pend q hq ((hpend q).1 h).1,fun q hq q' hq' h h'=>hI.ids q hq q' hq' ((hpend q).1 h).1 ((hpend q').1 h').1,fun q hq h=>hI.fresh q hq ((hpend q).1 h).1,hI.rel,hI.step,⟨hI.tmps.size,hI.tmps.defers,fun i v hv=>hI.tmps.get i v ?_⟩⟩
     ·rw[hset] at h
      by_cases e:q.i=r.i
      ·rw[e];exact hp.1
      ·rw[if_neg e] at h;exact hI.sub q hq h
     ·rw[T.get_mask] at hv ⊢
      split at hv
      ·cases hv
      ·rename_i hm
       have hm:=pmask_f.1 (Bool.not_eq_true _ ▸ hm:_=false)
       rw[if_neg,hv]
       rw[Bool.not_eq_true,pmask_f]
       intro q hq h e'
       by_cases hqr:q.i=r.i
       ·have:=hrows.eq hq hr hqr
        subst this
        rw[hd] at e';cases e'
       ·exact hm q hq ((hpend q).2 ⟨h,hqr⟩) e'
   | some d=>
     rw[←hd]
     exact hstay (fun _ _ _ e=>by rw[hk] at e;cases e) x (by rw[hk];rw[←hP4 (by rw[hd];simp)];exact h2)
 | new ob k id=>
   rw[hk] at hP
   obtain ⟨hP1,hP2,hP3,hP4,hP5⟩:=hP
   rw[hwant _ hP1]
   simp only[if_true]
   refine .inl ?_
   unfold Oper.wp
   obtain ⟨hd,cob,x,top,h1,h2⟩:=new_ok hE (σ:=σ) (w:=w) hρ r.o (hev _ hP2)
   have hrel:=h2 (upd γ id (some ⟨w.heap.size,0,top⟩)) id { w with heap:=w.heap.push cob } (ext_upd _ hP4) (upd_self _ _ _) (by simp)
   rw[h1,Oper.upon_value]
   refine hK _ _ _ (hI.laid hrows hr hp (by rw[hk];exact hrel.2) (hI.rel.place hP3 hP4 hP5 hd cob 0 top hrel.1) (Step.place' _ hP4 (hI.fresh r hr hp ob k id hk) hI.step) (ext_upd _ hP4) fun q hq h hne hPq=>?_) (.inr ⟨ob,k,id,_,hk,rfl⟩)
   cases hkq:kd q.i with
   | no=>rw[hkq] at hPq;exact hPq
   | now v=>rw[hkq] at hPq;exact hPq
   | read v=>rw[hkq] at hPq;exact hPq
   | new ob' k' id'=>
     rw[hkq] at hPq
     obtain ⟨q1,q2,q3,q4,q5⟩:=hPq
     refine ⟨q1,q2,q3,?_,q5⟩
     rw[upd_ne _ _ fun e=>?_]
     ·exact q4
     ·subst e
      exact hne (hI.ids q hq r hr h hp _ _ _ _ _ hkq hk)
include hE in
theorem Inv.lockStep(hI:Inv F E ops rows n γ0 σ0 done rem rd t σ kd γ listed a w)(hn:n≤lim){cb:Cb}(hcb:CbOk P cb){r:Row}{rem1:List Row}(hp:rem.Perm (r::rem1))(hc:∀j,has r.pm j=true→listed.getD j false=true)
  {v:AV} {σ1:AS} {tag:Nat} (hs:stepV E cb ops.toList r.o t σ=some (v,σ1,tag)) {t1:Tmps} (ht:putA n t r.o.dst v=some t1) (ha:tag=3∨again E r.pm t1 σ1 rd=true) {Q:Exit→Act→World→Prop} {K:Act→World→Prop}
  (hK:∀γ' a' w',Inv F E ops rows n γ0 σ0 (Nat.lor done (Nat.shiftLeft 1 r.i)) rem1 rd t1 σ1 kd γ' (listed.setIfInBounds r.i true) a' w'→K a' w'):wpOp P ops Q r.i K a w:=by
 have hrm:r∈rem:=hp.mem_iff.2 (by simp)
 obtain ⟨hr,hnr⟩:=hI.remIn r hrm
 have hD:(r::rem1).Pairwise (fun r q=>r.i≠q.i):=(hp.pairwise_iff (fun h=>Ne.symm h)).1 hI.remD
 rw[List.pairwise_cons] at hD
 have hsame:=mask_same hrows hI hr (fun h=>absurd h.1 (by rw[hnr];simp)) hc
 rw[hrows.looksEq hr] at hsame
 have hs':=hs
 rw[sameAt_step hsame] at hs'
 refine stepV_ok hE hcb hs' (hrows.row r hr).1 hI.rel hI.tmps fun γ' x w' hx hR hS=>hK γ' _ _ ?_
 have hi:r.i<listed.size:=by rw[hI.size];exact hrows.idx hr
 have hset:∀j,(listed.setIfInBounds r.i true).getD j false=if j=r.i then true else listed.getD j false:=fun j=>by
  by_cases e:j=r.i
  ·subst e;rw[if_pos rfl,getD_set_self hi]
  ·rw[if_neg e,getD_set_ne _ (Ne.symm e)]
 have hdone:∀j,has (Nat.lor done (Nat.shiftLeft 1 r.i)) j=true↔has done j=true∨j=r.i:=fun j=>by rw[has_lor];simp
 have hpend:∀q,Pending (Nat.lor done (Nat.shiftLeft 1 r.i)) (listed.setIfInBounds r.i true) q↔Pending done listed q:=fun q=>by
  unfold Pending
  rw[hset,hdone]
  by_cases e:q.i=r.i
  ·simp[e,hnr]
  ·simp[e]
 have hkeep:=fun (q:Row) (hq:q∈rows) (hq':Pending done listed q)=>keep_looks hrows hI hr hnr hq hq' (.inr hc)
 have hget:=putA_get ht hn
 refine ⟨fun q hq=>?_,fun q hq=>?_,hD.2,fun q hq h j hj=>?_,fun q hq h=>?_,by simp[hI.size],fun q hq h=>?_,fun q hq q' hq' h h'=>hI.ids q hq q' hq' ((hpend q).1 h) ((hpend q').1 h'),fun q hq h=>hI.fresh q hq ((hpend q).1 h),hR,hI.step.trans hS,?_⟩
 ·have hq':q∈rem:=hp.mem_iff.2 (by simp[hq])
  obtain ⟨h1,h2⟩:=hI.remIn q hq'
  refine ⟨h1,?_⟩
  rw[has_lor,h2]
  simp[Ne.symm (hD.1 q hq)]
 ·rcases hI.cover q hq with h|h
  ·exact .inl ((hdone _).2 (.inl h))
  ·rcases List.mem_cons.1 (hp.mem_iff.1 h) with rfl|h
   ·exact .inl ((hdone _).2 (.inr rfl))
   ·exact .inr h
 ·rcases (hdone _).1 h with h|h
  ·exact (hdone _).2 (.inl (hI.down q hq h j hj))
  ·have e:=hrows.eq hq hr h
   subst e
   have h1:=hc j hj
   have hlt:j<ops.size:=Nat.lt_trans (hrows.lt q hq j hj) (hrows.idx hq)
   have h2:=hrows.all j _ (Array.getElem?_eq_getElem hlt)
   exact (hdone _).2 (.inl (hI.sub _ h2 h1))
 ·rw[hset] at h
  by_cases e:q.i=r.i
  ·exact (hdone _).2 (.inr e)
  ·rw[if_neg e] at h;exact (hdone _).2 (.inl (hI.sub q hq h))
 ·have h':=(hpend q).1 h
  obtain ⟨h1,h2,h3⟩:=hI.pend q hq h'
  have hsameq:SameAt q.looks t t1:=fun d hd=>by
   rw[hget,if_neg]
   intro e
   exact (hkeep q hq h' d e).1 hd
  have hslot:∀d,q.o.dst=some d→t1.get d=t.get d:=fun d hd=>by
   rw[hget,if_neg]
   intro e
   exact (hkeep q hq h' d e).2 hd
  refine ⟨h1,Pend.keep hrows hq hsameq (fun v ev hm=>?_) hS h2,fun d hd=>?_⟩
  ·have hnp:has r.pm q.i=false:=by
    cases hh:has r.pm q.i with
    | false=>rfl
    | true=>have:=hc _ hh;rw[h'.2] at this;cases this
   rcases ha with rfl|ha
   ·have hσ:=stepV_lone hs
    subst hσ
    have h2':=h2
    rw[ev] at h2'
    obtain ⟨_,_,u,h4,h5⟩:=h2'
    rw[hrows.looksEq hq] at hsameq
    rw[sameAt_evOp hsameq] at h4
    exact ⟨hm,u,h4,h5⟩
   obtain ⟨u,hu,hu'⟩:=again_ok ha q hm hnp
   refine ⟨hm,u,hu,fun hne=>?_⟩
   cases hd:q.o.dst with
   | none=>exact absurd hd hne
   | some d=>
     have h4:=(h3 d hd).1
     rw[ev] at h4
     exact (hu' d v hd (by rw[hslot d hd];exact h4)).symm
  ·rw[hslot d hd];exact h3 d hd
 ·refine ⟨by cases r.o.dst<;>simpa [Act.put] using hI.tmps.size,by cases r.o.dst<;>exact hI.tmps.defers,fun i u hu=>?_⟩
  rw[T.get_mask] at hu
  split at hu
  ·cases hu
  ·rename_i hm
   have hm:=pmask_f.1 (Bool.not_eq_true _ ▸ hm:_=false)
   rw[hget] at hu
   by_cases e:r.o.dst=some i
   ·rw[if_pos e] at hu
    cases hu
    refine ⟨x,?_,hx⟩
    rw[e] at ht ⊢
    simp only[Act.put]
    rw[Array.getElem?_setIfInBounds_self_of_lt (Nat.lt_of_lt_of_le (putA_lt ht) hI.tmps.size)]
   ·rw[if_neg e] at hu
    obtain ⟨y,h1,h2⟩:=hI.tmps.get i u (by
     rw[T.get_mask,if_neg,hu]
     rw[Bool.not_eq_true,pmask_f]
     exact fun q hq h=>hm q hq ((hpend q).2 h))
    refine ⟨y,?_,h2.mono hS.ext _ _⟩
    cases hd:r.o.dst with
    | none=>exact h1
    | some d=>
      simp only[Act.put]
      rw[Array.getElem?_setIfInBounds_ne (fun h=>e (by rw[hd,h]))]
      exact h1
theorem stepV_early{cb:Cb}{r:Row}(hr:r∈rows)(he:r.early=true){v:AV}{σ1:AS}{tag:Nat}(h:stepV E cb ops.toList r.o t σ=some (v,σ1,tag)) :
  (wantedA ops.toList t r.o=some false∧v=undefV∧σ1=σ∧tag=0) ∨
  (wantedA ops.toList t r.o=some true∧((evOp E t σ r.o.op=some (.pure v)∧σ1=σ∧tag=0)∨(evOp E t σ r.o.op=some (.read v)∧σ1=σ∧tag=1) ∨
   ∃ob k,evOp E t σ r.o.op=some (.new ob k)∧σ.next<lim∧v=k.val σ.next∧σ1={ heap:=σ.heap.put σ.next ob,next:=σ.next+1 }∧tag=2)):=by
 rw[hrows.earlyEq hr] at he
 unfold stepV at h
 split at h
 ·cases h
 ·rename_i hw
  simp only[Option.some.injEq,Prod.mk.injEq] at h
  exact .inl ⟨hw,h.1.symm,h.2.1.symm,h.2.2.symm⟩
 ·rename_i hw
  refine .inr ⟨hw,?_⟩
  split at h
  ·cases h
  ·rename_i u hev
   simp only[Option.some.injEq,Prod.mk.injEq] at h
   obtain ⟨rfl,rfl,rfl⟩:=h
   exact .inl ⟨hev,rfl,rfl⟩
  ·rename_i u hev
   simp only[Option.some.injEq,Prod.mk.injEq] at h
   obtain ⟨rfl,rfl,rfl⟩:=h
   exact .inr (.inl ⟨hev,rfl,rfl⟩)
  ·rename_i ob k hev
   split at h
   ·rename_i hlt
    simp only[Option.some.injEq,Prod.mk.injEq] at h
    obtain ⟨rfl,rfl,rfl⟩:=h
    exact .inr (.inr ⟨ob,k,hev,blt_t hlt,rfl,rfl,rfl⟩)
   ·cases h
  ·rename_i u σ2 hev
   rcases evOp_early he hev with ⟨_,e⟩|⟨_,e⟩|⟨_,_,e⟩<;>cases e
  ·rename_i f args hev
   rcases evOp_early he hev with ⟨_,e⟩|⟨_,e⟩|⟨_,_,e⟩<;>cases e
theorem saturate{cb:Cb}(hn:n≤lim){t':Tmps}{σ':AS}:∀(fuel:Nat) (done:Nat) (rem rd:List Row) (t:Tmps) (σ:AS) (kd:Nat→PK),drawA E cb n ops.toList fuel done rem rd t σ=some (t',σ') →
  Inv F E ops rows n γ0 σ0 done rem rd t σ kd γ listed a w →
  ∃done1 rem1 rd1 t1 σ1 kd1,Inv F E ops rows n γ0 σ0 done1 rem1 rd1 t1 σ1 kd1 γ listed a w∧(∃f0,drawA E cb n ops.toList f0 done1 rem1 rd1 t1 σ1=some (t',σ'))∧((rem1=[]∧t1=t'∧σ1=σ') ∨
   ∃r rem2 v σ2 tag t2 f,rem1.Perm (r::rem2)∧(∀q∈rem1,q.i≠r.i→ready done1 q=false)∧(∀q∈rem1,q.early=true→ready done1 q=false)∧stepV E cb ops.toList r.o t1 σ1=some (v,σ2,tag)∧putA n t1 r.o.dst v=some t2∧(tag=3∨again E r.pm t2 σ2 rd1=true) ∧
    drawA E cb n ops.toList f (Nat.lor done1 (Nat.shiftLeft 1 r.i)) rem2 rd1 t2 σ2=some (t',σ')):=by
 intro fuel
 induction fuel with
 | zero=>intro done rem rd t σ kd h;simp[drawA] at h
 | succ fuel ih=>
   intro done rem rd t σ kd h hI
   have h0:=h
   simp only[drawA] at h
   split at h
   ·simp only[Option.some.injEq,Prod.mk.injEq] at h
    exact ⟨done,[],rd,t,σ,kd,hI,⟨_,h0⟩,.inl ⟨rfl,h.1,h.2⟩⟩
   ·rename_i x l
    split at h
    ·rename_i r rem1 hpk
     obtain ⟨h1,hperm⟩:=pick_ok hpk
     simp only[Bool.and_eq_true] at h1
     obtain ⟨hre,hrdy⟩:=h1
     have hr:=(hI.remIn r (hperm.mem_iff.2 (by simp))).1
     split at h
     ·rename_i v σ1 tag hs
      split at h
      ·rename_i t1 ht
       have hsame:SameAt r.looks t t1:=fun d hd=>by
        rw[putA_get ht hn,if_neg]
        intro e
        exact hrows.self r hr hre d e hd
       rw[hrows.looksEq hr] at hsame
       have hw:=sameAt_wanted hsame
       have hev:=fun σ=>sameAt_evOp (E:=E) (σ:=σ) hsame
       rcases stepV_early hrows hr hre hs with ⟨e1,rfl,rfl,rfl⟩|⟨e1,⟨e2,rfl,rfl⟩|⟨e2,rfl,rfl⟩|⟨ob,k,e2,hlt,rfl,rfl,rfl⟩⟩<;>simp only[] at h
       ·exact ih _ _ _ _ _ _ h (hI.ahead hrows hn hperm hre hrdy (k:=.no) ht (hw.symm.trans e1) (fun _ _ _ e=>by cases e) (fun q v hq hk hm he hd=>⟨hm,he⟩) hI.rel (.refl _ _))
       ·exact ih _ _ _ _ _ _ h (hI.ahead hrows hn hperm hre hrdy (k:=.now v) ht ⟨hw.symm.trans e1,(hev _).symm.trans e2⟩ (fun _ _ _ e=>by cases e) (fun q v hq hk hm he hd=>⟨hm,he⟩) hI.rel (.refl _ _))
       ·exact ih _ _ _ _ _ _ h (hI.ahead hrows hn hperm hre hrdy (k:=.read v) ht ⟨hw.symm.trans e1,by simp,v,(hev _).symm.trans e2,fun _=>rfl⟩ (fun _ _ _ e=>by cases e) (fun q v hq hk hm he hd=>⟨List.mem_cons_of_mem _ hm,he⟩) hI.rel (.refl _ _))
       ·split at h
        ·rename_i ha
         refine ih _ _ _ _ _ _ h (hI.ahead hrows hn hperm hre hrdy (k:=.new ob k σ.next) ht ⟨hw.symm.trans e1,(hev _).symm.trans (evOp_new _ e2),Nat.lt_succ_self _,hI.rel.dom _ (Nat.le_refl _),?_⟩ (fun _ _ _ e=>by cases e;exact Nat.le_refl _)
          (fun q v hq hk hm he hd=>?_) (hI.rel.more hlt ob) (Step.more hI.rel hlt ob))
         ·simp only[]
          rw[T.get_put _ _ _ _ (Nat.le_of_lt hlt),if_pos rfl]
         ·obtain ⟨u,h1,h2⟩:=again_ok ha q hm (has_zero _)
          refine ⟨hm,u,h1,fun hne=>?_⟩
          cases hqd:q.o.dst with
          | none=>exact absurd hqd hne
          | some d=>exact (h2 d v hqd (hd d hqd)).symm
        ·cases h
      ·cases h
     ·cases h
    ·rename_i hpk
     have hno:=pick_none hpk
     split at h
     ·cases h
     ·rename_i r rem2 hpk2
      obtain ⟨h1,hperm⟩:=pick_ok hpk2
      split at h
      ·cases h
      ·rename_i hall
       split at h
       ·rename_i v σ2 tag hs
        split at h
        ·rename_i t2 ht
         split at h
         ·rename_i ha
          have ha:tag=3∨again E r.pm t2 σ2 rd=true:=by
           rw[Bool.or_eq_true] at ha
           exact ha.imp Nat.eq_of_beq_eq_true id
          refine ⟨done,x::l,rd,t,σ,kd,hI,⟨_,h0⟩,.inr ⟨r,rem2,v,σ2,tag,t2,fuel,hperm,fun q hq hne=>?_,fun q hq he=>?_,hs,ht,ha,h⟩⟩
          ·rcases List.mem_cons.1 (hperm.mem_iff.1 hq) with rfl|hq
           ·exact absurd rfl hne
           ·have:=List.all_eq_true.1 hall q hq
            simpa using this
          ·have:=hno q hq
           rw[he] at this
           simpa using this
         ·cases h
        ·cases h
       ·cases h
omit hrows in
theorem count_set{listed:Array Bool}{i:Nat}(h:i<listed.size)(hf:listed.getD i true=false):(listed.setIfInBounds i true).toList.count false+1=listed.toList.count false:=by
 have hf':listed.toList[i]?=some false:=by
  have:listed[i]?=some listed[i]:=Array.getElem?_eq_getElem h
  simp[h] at hf
  simp[this,hf]
 rw[Array.toList_setIfInBounds]
 have hi:i<listed.toList.length:=by simpa using h
 rw[List.count_set hi]
 have hg:listed.toList[i]=false:=by
  rw[List.getElem?_eq_getElem hi] at hf'
  exact Option.some.inj hf'
 have hpos:0<listed.toList.count false:=List.count_pos_iff.2 (hg ▸ List.getElem_mem hi)
 rw[hg]
 simp only[beq_self_eq_true,if_true]
 rw[if_neg (by simp)]
 omega
include hE in
theorem drawn_ok(hn:n≤lim){cb:Cb}(hcb:CbOk P cb){t':Tmps}{σ':AS}{Q:Exit→Act→World→Prop}(hQ:∀γ' a' w',RelL F γ' σ' w'→ConcT γ' n t' a'→Step γ0 σ0 γ' σ'→Q .normal a' w') :
  ∀(m:Nat) (fuel:Nat) (done:Nat) (rem rd:List Row) (t:Tmps) (σ:AS) (kd:Nat→PK) (γ:Gam) (listed:Array Bool) (a:Act) (w:World),drawA E cb n ops.toList fuel done rem rd t σ=some (t',σ') →
  Inv F E ops rows n γ0 σ0 done rem rd t σ kd γ listed a w→listed.toList.count false≤m→wpAny P .any ops Q m listed a w:=by
 intro m
 have hnil:∀(fuel:Nat) (done:Nat) (rem rd:List Row) (t:Tmps) (σ:AS) (kd:Nat→PK) (γ:Gam) (listed:Array Bool) (a:Act) (w:World),drawA E cb n ops.toList fuel done rem rd t σ=some (t',σ') →
   Inv F E ops rows n γ0 σ0 done rem rd t σ kd γ listed a w→Region.ready .any ops listed=[]→Q .normal a w:=by
  intro fuel done rem rd t σ kd γ listed a w h hI hnil
  have hall:∀i,i<ops.size→listed.getD i false=true:=by
   intro i
   induction i using Nat.strongRecOn with
   | _ i ih=>
     intro hi
     cases hl:listed.getD i false with
     | true=>rfl
     | false=>
       exfalso
       have hrow:=hrows.all i _ (Array.getElem?_eq_getElem hi)
       have hs:i<listed.size:=by rw[hI.size];exact hi
       have hun:listed.getD i true=false:=by simpa [hs] using hl
       have:i∈Region.ready .any ops listed:=mem_ready.2 ⟨hun,_,Array.getElem?_eq_getElem hi,fun e he hb=>by
        have hpm:has (mkRow ops i ops[i]).pm e.on=true:=(has_predMask _ _).2 ⟨e,by simpa using he,hb,rfl⟩
        have hlt:=hrows.lt _ hrow _ hpm
        have hlt:e.on<i:=hlt
        exact ih e.on hlt (by omega)⟩
       rw[hnil] at this
       cases this
  obtain ⟨done1,rem1,rd1,t1,σ1,kd1,hI1,⟨f0,hf0⟩,hcase⟩:=saturate (hrows:=hrows) hn fuel done rem rd t σ kd h hI
  have hrem:rem1=[]:=by
   cases hr:rem1 with
   | nil=>rfl
   | cons q l=>
     exfalso
     obtain ⟨h1,h2⟩:=hI1.remIn q (by rw[hr];simp)
     have:=hI1.sub q h1 (hall _ (hrows.idx h1))
     rw[h2] at this;cases this
  rcases hcase with ⟨_,rfl,rfl⟩|⟨r,rem2,_,_,_,_,_,hperm,_⟩
  ·refine hQ γ a w hI1.rel ⟨hI1.tmps.size,hI1.tmps.defers,fun i v hv=>hI1.tmps.get i v ?_⟩ hI1.step
   rw[T.get_mask,if_neg,hv]
   rw[Bool.not_eq_true,pmask_f]
   intro q hq hp
   have h2:=hp.2
   rw[hall _ (hrows.idx hq)] at h2
   cases h2
  ·rw[hrem] at hperm
   have:=hperm.length_eq
   simp at this
 induction m with
 | zero=>
   intro fuel done rem rd t σ kd γ listed a w h hI hm
   have hr:Region.ready .any ops listed=[]:=by
    apply List.eq_nil_iff_forall_not_mem.2
    intro i hi
    have hf:=(mem_ready.1 hi).1
    have hlt:i<listed.size:=by
     rcases Nat.lt_or_ge i listed.size with h'|h'
     ·exact h'
     ·simp[Array.getElem?_eq_none h'] at hf
    have:=count_set hlt hf
    omega
   exact ⟨hr,hnil fuel done rem rd t σ kd γ listed a w h hI hr⟩
 | succ m ih=>
   intro fuel done rem rd t σ kd γ listed a w h hI hm
   refine ⟨hnil fuel done rem rd t σ kd γ listed a w h hI,fun i hi=>?_⟩
   obtain ⟨r,hr,rfl,hun,hc⟩:=ready_row hrows hi
   have hlt:r.i<listed.size:=by rw[hI.size];exact hrows.idx hr
   have hcnt:=count_set hlt hun
   have hunf:=getD_false_of hI.size hun
   obtain ⟨done1,rem1,rd1,t1,σ1,kd1,hI1,⟨f0,hf0⟩,hcase⟩:=saturate (hrows:=hrows) hn fuel done rem rd t σ kd h hI
   by_cases hd:has done1 r.i=true
   ·refine hI1.pendStep hE hrows hr ⟨hd,hunf⟩ hc fun γ' a' w' hI' _=>?_
    exact ih f0 done1 rem1 rd1 t1 σ1 kd1 γ' _ a' w' hf0 hI' (by omega)
   ·have hd:has done1 r.i=false:=by simpa using hd
    have hrm:=(hI1.cover r hr).resolve_left (by rw[hd];simp)
    have hrdy:ready done1 r=true:=ready_t.2 fun j hj=>by
     have hlt:j<ops.size:=Nat.lt_trans (hrows.lt r hr j hj) (hrows.idx hr)
     exact hI1.sub _ (hrows.all j _ (Array.getElem?_eq_getElem hlt)) (hc j hj)
    rcases hcase with ⟨rfl,rfl,rfl⟩|⟨q,rem2,v,σ2,tag,t2,f,hperm,hu1,hu2,hs,ht,ha,hdr⟩
    ·cases hrm
    ·have hrq:r.i=q.i:=by
      by_cases e:r.i=q.i
      ·exact e
      ·have:=hu1 r hrm e
       rw[hrdy] at this;cases this
     have hqr:=hrows.eq hr (hI1.remIn q (hperm.mem_iff.2 (by simp))).1 hrq
     subst hqr
     exact hI1.lockStep hE hrows hn hcb hperm hc hs ht ha fun γ' a' w' hI'=>ih f _ rem2 rd1 t2 σ2 kd1 γ' _ a' w' hdr hI' (by omega)
end
end Go.Proofs.YtmbdghclhpboaaaGreat.Ev

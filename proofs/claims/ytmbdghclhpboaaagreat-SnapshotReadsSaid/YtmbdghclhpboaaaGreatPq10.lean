/- Part of the proof: EvU. Conditions: as each states. -/
import Derived.Test.YtmbdghclhpboaaaGreatPq9
set_option linter.all false
namespace Go.Proofs.YtmbdghclhpboaaaGreat.Ev
theorem ON{a b:Value}(h:LM a b=true):a=b:=by
 unfold LM at h;split at h
 ·simp at h;rw[h]
 ·simp at h;rw[h.1,h.2]
 ·simp only[beq_iff_eq] at h;congr 1;exact ByteArray.ext (Array.ext' h)
 ·rfl
 ·rfl
 ·simp only[Bool.and_eq_true] at h;rw[nQ1 h.1,nQ1 h.2]
 ·rfl
 ·rfl
 ·cases h
mutual
theorem CS:∀(a b:AV),AV.same a b=true->a=b
 | .lit a,.lit b,h=>by unfold AV.same at h;rw[ON h]
 | .ptr _ _,.ptr _ _,h=>by
   simp only[AV.same,Bool.and_eq_true] at h;rw[nQ1 h.1,nQ1 h.2]
 | .slice _ _ _ c,.slice _ _ _ c',h=>by
   simp only[AV.same,Bool.and_eq_true] at h;obtain ⟨⟨⟨h1,h2⟩,h3⟩,h4⟩:=h;rw[nQ1 h1,nQ1 h2,nQ1 h3];cases c<;>cases c'<;>simp only[Bool.false_eq_true] at h4<;>rw[nQ1 h4]
 | .map _,.map _,h=>by simp only[AV.same] at h;rw[nQ1 h]
 | .iface _ b,.iface _ d,h=>by
   simp only[AV.same,Bool.and_eq_true] at h;rw[nQ1 h.1,CS b d h.2]
 | .agg a,.agg b,h=>by simp only[AV.same] at h;rw[yX a b h]
 | .tuple a,.tuple b,h=>by simp only[AV.same] at h;rw[yX a b h]
 | .func ..,_,h=>by simp[AV.same] at h
 | .lit _,.ptr ..,h|.lit _,.slice ..,h|.lit _,.map ..,h|.lit _,.func ..,h|.lit _,.iface ..,h|.lit _,.agg ..,h|.lit _,.tuple ..,h=>by simp[AV.same] at h
 | .ptr ..,.lit _,h|.ptr ..,.slice ..,h|.ptr ..,.map ..,h|.ptr ..,.func ..,h|.ptr ..,.iface ..,h|.ptr ..,.agg ..,h|.ptr ..,.tuple ..,h=>by simp[AV.same] at h
 | .slice ..,.lit _,h|.slice ..,.ptr ..,h|.slice ..,.map ..,h|.slice ..,.func ..,h|.slice ..,.iface ..,h|.slice ..,.agg ..,h|.slice ..,.tuple ..,h=>by simp[AV.same] at h
 | .map ..,.lit _,h|.map ..,.ptr ..,h|.map ..,.slice ..,h|.map ..,.func ..,h|.map ..,.iface ..,h|.map ..,.agg ..,h|.map ..,.tuple ..,h=>by simp[AV.same] at h
 | .iface ..,.lit _,h|.iface ..,.ptr ..,h|.iface ..,.slice ..,h|.iface ..,.map ..,h|.iface ..,.func ..,h|.iface ..,.agg ..,h|.iface ..,.tuple ..,h=>by simp[AV.same] at h
 | .agg ..,.lit _,h|.agg ..,.ptr ..,h|.agg ..,.slice ..,h|.agg ..,.map ..,h|.agg ..,.func ..,h|.agg ..,.iface ..,h|.agg ..,.tuple ..,h=>by simp[AV.same] at h
 | .tuple ..,.lit _,h|.tuple ..,.ptr ..,h|.tuple ..,.slice ..,h|.tuple ..,.map ..,h|.tuple ..,.func ..,h|.tuple ..,.iface ..,h|.tuple ..,.agg ..,h=>by simp[AV.same] at h
theorem yX:∀(a b:List AV),AV.vU a b=true->a=b
 | [],[],_=>rfl
 | [],_::_,h=>by simp[AV.vU] at h
 | _::_,[],h=>by simp[AV.vU] at h
 | a::l,b::m,h=>by
   simp only[AV.vU,Bool.and_eq_true] at h;rw[CS a b h.1,yX l m h.2]
end
theorem yb{E:Env}{pm:Nat}{t:aE}{σ:AS}:∀{l:List Row},again E pm t σ l=true->∀r∈l,has pm r.i=false ->
  ∃v,bK E t σ r.o.op=some (.read v)/\∀d u,r.o.dst=some d->t.get d=some u->u=v
 | [],_,r,hr,_=>by cases hr
 | q::l,h,r,hr,hp=>by
   simp only[again,Bool.and_eq_true,Bool.or_eq_true] at h;rcases List.mem_cons.1 hr with rfl|hr
   ·have h1:=h.1.resolve_left (by rw[hp];simp);split at h1
    ·rename_i v d he hd;refine ⟨v,he,fun d' u e hu=>?_⟩;have e:=Option.some.inj (hd.symm.trans e);subst e;rw[hu] at h1;exact CS u v h1
    ·rename_i v he hd;exact ⟨v,he,fun d u e _=>by rw[hd] at e;cases e⟩
    ·cases h1
   ·exact yb h.2 r hr hp
theorem qw{p:Row->Bool}:∀{l:List Row} {r:Row} {m:List Row},gF p l=some (r,m)->p r=true/\l.Perm (r::m)
 | [],r,m,h=>by simp[gF] at h
 | x::l,r,m,h=>by
   simp only[gF] at h;split at h
   ·rename_i hp;simp only[Option.some.injEq,Prod.mk.injEq] at h;obtain ⟨rfl,rfl⟩:=h;exact ⟨hp,.refl _⟩
   ·split at h
    ·rename_i q m' hq;simp only[Option.some.injEq,Prod.mk.injEq] at h;obtain ⟨rfl,rfl⟩:=h;obtain ⟨h1,h2⟩:=qw hq;exact ⟨h1,(h2.cons x).trans (.swap ..)⟩
    ·cases h
theorem rz{p:Row->Bool}:∀{l:List Row},gF p l=none->∀r∈l,p r=false
 | [],_,r,hr=>by cases hr
 | x::l,h,r,hr=>by
   simp only[gF] at h;split at h
   ·cases h
   ·rename_i hp;split at h
    ·cases h
    ·rename_i hq;rcases List.mem_cons.1 hr with rfl|hr
     ·exact hp
     ·exact rz hq r hr
inductive PK where
 | no
 | now (v:AV)
 | read (v:AV)
 | new (ob:ai) (k:rS) (id:Nat)
def PK.val:PK->AV
 | .no=>aQ
 | .now v=>v
 | .read v=>v
 | .new _ k id=>k.val id
def uT(E:Env)(ops:List Oper)(rd:List Row)(t:aE)(σ:AS)(γ:aT)(r:Row):PK->Prop
 | .no=>dD ops t r.o=some false
 | .now v=>dD ops t r.o=some true/\bK E t σ r.o.op=some (.pure v)
 | .read v=>dD ops t r.o=some true/\r∈rd/\∃u,bK E t σ r.o.op=some (.read u)/\(r.o.dst≠none->u=v)
 | .new ob k id=>dD ops t r.o=some true/\bK E t σ r.o.op=some (.new ob k)/\id<σ.next/\γ id=none/\σ.heap.get id=some ob
def nh(l:List Nat)(t t':aE):Prop:=∀d∈l,t.get d=t'.get d
theorem iJ{ops:Array Oper}{o:Oper}{t t':aE}(h:nh (o.looksAt ops) t t'):dD ops.toList t o=dD ops.toList t' o:=
 Dh fun d hd=>h d (by
  unfold Oper.looksAt;refine List.mem_append_right _ ?_;cases hg:o.guard with
  | none=>rw[hg] at hd;cases hd
  | some g=>
    obtain ⟨j,want⟩:=g;rw[hg] at hd;simp only[Option.bind_some] at hd;simp only[hd];simp)
theorem fC{E:Env}{σ:AS}{ops:Array Oper}{o:Oper}{t t':aE}(h:nh (o.looksAt ops) t t'):bK E t σ o.op=bK E t' σ o.op:=
 Ig o.op fun x hx=>by
  cases x with
  | tmp d=>exact h d (List.mem_append_left _ (List.mem_filterMap.2 ⟨.tmp d,by simpa using hx,rfl⟩))
  | _=>rfl
theorem Gz{E:Env}{cb:Cb}{σ:AS}{ops:Array Oper}{o:Oper}{t t':aE}(h:nh (o.looksAt ops) t t'):mf E cb ops.toList o t σ=mf E cb ops.toList o t' σ:=by
 unfold mf;rw[iJ h,fC h]
def cA(done:Nat)(aq:Array Bool)(r:Row):Prop:=has done r.i=true/\aq.getD r.i false=false
open Classical in
noncomputable def Cu(rows:List Row)(done:Nat)(aq:Array Bool)(d:Nat):Bool:=decide (∃r∈rows,cA done aq r/\r.o.dst=some d)
theorem Q0{rows:List Row}{done:Nat}{aq:Array Bool}{d:Nat}:Cu rows done aq d=true↔∃r∈rows,cA done aq r/\r.o.dst=some d:=by
 classical unfold Cu;exact decide_eq_true_iff
theorem iG{rows:List Row}{done:Nat}{aq:Array Bool}{d:Nat}:Cu rows done aq d=false↔∀r∈rows,cA done aq r->r.o.dst≠some d:=by
 rw[<-Bool.not_eq_true,Q0];constructor
 ·intro h r hr hp e;exact h ⟨r,hr,hp,e⟩
 ·rintro h ⟨r,hr,hp,e⟩;exact h r hr hp e
structure Inv(F:dN)(E:Env)(ops:Array Oper)(rows:List Row)(n:Nat)(γ0:aT)(σ0:AS)(done:Nat)(rem rd:List Row)(t:aE)(σ:AS)(kd:Nat->PK)(γ:aT)(aq:Array Bool)(a:Act)(w:World):Prop where
 mR:∀r∈rem,r∈rows/\has done r.i=false
 cover:∀r∈rows,has done r.i=true\/r∈rem
 Jl:rem.Pairwise (fun r q=>r.i≠q.i)
 down:∀r∈rows,has done r.i=true->∀j,has r.pm j=true->has done j=true
 sub:∀r∈rows,aq.getD r.i false=true->has done r.i=true
 size:aq.size=ops.size
 cO:∀r∈rows,cA done aq r->r.early=true/\uT E ops.toList rd t σ γ r (kd r.i)/\(∀d,r.o.dst=some d->t.get d=some (kd r.i).val/\d<n)
 ids:∀r∈rows,∀q∈rows,cA done aq r->cA done aq q->∀ob k id dq k',kd r.i=.new ob k id->kd q.i=.new dq k' id->r.i=q.i
 fresh:∀r∈rows,cA done aq r->∀ob k id,kd r.i=.new ob k id->σ0.next<=id
 rel:aU F γ σ w
 step:Step γ0 σ0 γ σ
 tmps:cW γ n (T.mask (Cu rows done aq) t) a
theorem jK{aq:Array Bool}{i:Nat}(h:i<aq.size)(d:Bool):(aq.setIfInBounds i true).getD i d=true:=by
 simp[h]
section
variable{F:dN}{P:Program}{E:Env}{ops:Array Oper}{rows:List Row}(hrows:n7 ops rows){n:Nat}{γ0:aT}{σ0:AS}{done:Nat}{rem rd:List Row}{t:aE}{σ:AS}{kd:Nat->PK}{γ:aT}{aq:Array Bool}{a:Act}{w:World}
include hrows
theorem n7.idx{r:Row}(hr:r∈rows):r.i<ops.size:=(Array.getElem?_eq_some_iff.1 (hrows.row r hr).1).1
theorem n7.lZ{r:Row}(hr:r∈rows):r.looks=r.o.looksAt ops:=by
 rw[(hrows.row r hr).2];rfl
theorem n7.HY{r:Row}(hr:r∈rows):r.early=early r.o.op:=by
 rw[(hrows.row r hr).2];rfl
theorem CD{i:Nat}(h:i∈Region.ready .any ops aq):∃r∈rows,r.i=i/\aq.getD i true=false/\∀j,has r.pm j=true->aq.getD j false=true:=by
 obtain ⟨h0,o,ho,kn⟩:=mem_ready.1 h;refine ⟨_,hrows.all i o ho,rfl,h0,fun j hj=>?_⟩;obtain ⟨e,he,hb,rfl⟩:=(kT j _).1 hj;exact kn e (by simpa using he) hb
omit hrows in
theorem sV(hs:aq.size=ops.size){i:Nat}(h:aq.getD i true=false):aq.getD i false=false:=by
 rcases Nat.lt_or_ge i aq.size with h'|h'
 ·simpa [h'] using h
 ·simp[Array.getElem?_eq_none h'] at h
theorem tD(hI:Inv F E ops rows n γ0 σ0 done rem rd t σ kd γ aq a w){r q:Row}(hr:r∈rows)(tq:has done r.i=false)(hq:q∈rows)(hp:cA done aq q)
  (q8:r.early=true\/∀j,has r.pm j=true->aq.getD j false=true) (d:Nat) (hd:r.o.dst=some d):d∉q.looks/\q.o.dst≠some d:=by
 have aP:r.i≠q.i:=fun e=>by have:=hp.1;rw[<-e,tq] at this;cases this
 have DA:=hrows.pair r hr q hq aP;refine ⟨fun hm=>?_,fun e=>?_⟩
 ·rcases DA.looks d hd hm with h|⟨h,h'⟩
  ·have:=hI.down q hq hp.1 _ h;rw[tq] at this;cases this
  ·rcases q8 with e|e
   ·rw[h'] at e;cases e
   ·have:=e _ h;rw[hp.2] at this;cases this
 ·have h1:=(DA.dst d hd e).2;rw[(hI.cO q hq hp).1] at h1;cases h1
omit hrows in
theorem qz{t t1:aE}{dst:Option Nat}{v:AV}(h:o3 n t dst v=some t1)(hn:n<=aY)(i:Nat):t1.get i=if dst=some i then some v else t.get i:=by
 unfold o3 at h;cases dst with
 | none=>simp only[Option.some.injEq] at h;subst h;simp
 | some d=>
   simp only[] at h;split at h
   ·rename_i an;have:=gZ an;simp only[Option.some.injEq] at h;subst h;rw[T.bN _ _ _ _ (by omega)];by_cases e:i=d
    ·subst e;simp
    ·rw[if_neg e,if_neg (fun h=>e (Option.some.inj h).symm)]
   ·cases h
omit hrows in
theorem Cy{t t1:aE}{d:Nat}{v:AV}(h:o3 n t (some d) v=some t1):d<n:=by
 unfold o3 at h;simp only[] at h;split at h
 ·rename_i an;exact gZ an
 ·cases h
theorem uT.mu{q:Row}(hq:q∈rows){ou:List Row}{t1:aE}{gL:AS}{fD:aT}{k:PK}(eI:nh q.looks t t1)(bu:∀v,k=.read v->q∈rd->q∈ou/\∃u,bK E t1 gL q.o.op=some (.read u)/\(q.o.dst≠none->u=v))
  (Qw:Step γ σ fD gL) (h:uT E ops.toList rd t σ γ q k):uT E ops.toList ou t1 gL fD q k:=by
 rw[hrows.lZ hq] at eI;have hw:=iJ eI;cases k with
 | no=>exact hw.symm.trans h
 | now v=>exact ⟨hw ▸ h.1,Bw gL (fC (E:=E) (σ:=σ) eI ▸ h.2)⟩
 | read v=>
   obtain ⟨h1,h2,u,h3,h4⟩:=h;obtain ⟨e1,e2⟩:=bu v rfl h2;exact ⟨hw ▸ h1,e1,e2⟩
 | new ob k id=>
   obtain ⟨h1,h2,h3,h4,h5⟩:=h;exact ⟨hw ▸ h1,yk gL (fC (E:=E) (σ:=σ) eI ▸ h2),Nat.lt_of_lt_of_le h3 Qw.le,Qw.new id h3 h4,(Qw.same id h3 h4).trans h5⟩
theorem Inv.ahead(hI:Inv F E ops rows n γ0 σ0 done rem rd t σ kd γ aq a w)(hn:n<=aY){r:Row}{fj:List Row}(hp:rem.Perm (r::fj))(q8:r.early=true)(nW:ready done r=true){k:PK}{t1:aE}(ht:o3 n t r.o.dst k.val=some t1){ou:List Row}{gL:AS}
  (hk:uT E ops.toList ou t1 gL γ r k) (lA:∀ob x id,k=.new ob x id->σ.next<=id)
  (bu:∀q v,q∈rows->kd q.i=.read v->q∈rd->(∃u,bK E t1 σ q.o.op=some (.read u)/\(q.o.dst≠none->u=v))->(∀d,q.o.dst=some d->t1.get d=some v)->q∈ou/\∃u,bK E t1 gL q.o.op=some (.read u)/\(q.o.dst≠none->u=v))
  (hR:aU F γ gL w) (hS:Step γ σ γ gL) :
  Inv F E ops rows n γ0 σ0 (Nat.lor done (Nat.shiftLeft 1 r.i)) fj ou t1 gL (fun j=>if j=r.i then k else kd j) γ aq a w:=by
 have B0:r∈rem:=hp.mem_iff.2 (by simp);obtain ⟨hr,tq⟩:=hI.mR r B0;have hD:(r::fj).Pairwise (fun r q=>r.i≠q.i):=(hp.pairwise_iff (fun h=>Ne.symm h)).1 hI.Jl;rw[List.pairwise_cons] at hD;have fq:∀j,has (Nat.lor done (Nat.shiftLeft 1 r.i)) j=true↔has done j=true\/j=r.i:=fun j=>by rw[kQ];simp
 have Xq:aq.getD r.i false=false:=by
  cases h:aq.getD r.i false with
  | false=>rfl
  | true=>have:=hI.sub r hr h;rw[tq] at this;cases this
 have ff:∀q∈rows,cA (Nat.lor done (Nat.shiftLeft 1 r.i)) aq q->(q=r\/(q.i≠r.i/\cA done aq q)):=fun q hq h=>by
  by_cases e:q.i=r.i
  ·exact .inl (hrows.eq hq hr e)
  ·exact .inr ⟨e,((fq q.i).1 h.1).resolve_right e,h.2⟩
 have jM:=fun (q:Row) (hq:q∈rows) (fu:cA done aq q)=>tD hrows hI hr tq hq fu (.inl q8);have dz:=qz ht hn;refine ⟨fun q hq=>?_,fun q hq=>?_,hD.2,fun q hq h j hj=>?_,fun q hq h=>?_,hI.size,fun q hq h=>?_,fun q hq q' fu h h' ob x id dq x' e e'=>?_,fun q hq h ob x id e=>?_,hR,hI.step.trans hS,?_⟩
 ·have fu:q∈rem:=hp.mem_iff.2 (by simp[hq]);obtain ⟨h1,h2⟩:=hI.mR q fu;refine ⟨h1,?_⟩;rw[kQ,h2];simp[Ne.symm (hD.1 q hq)]
 ·rcases hI.cover q hq with h|h
  ·exact .inl ((fq _).2 (.inl h))
  ·rcases List.mem_cons.1 (hp.mem_iff.1 h) with rfl|h
   ·exact .inl ((fq _).2 (.inr rfl))
   ·exact .inr h
 ·rcases (fq _).1 h with h|h
  ·exact (fq _).2 (.inl (hI.down q hq h j hj))
  ·have e:=hrows.eq hq hr h;subst e;exact (fq _).2 (.inl (CE.1 nW j hj))
 ·exact (fq _).2 (.inl (hI.sub q hq h))
 ·rcases ff q hq h with rfl|⟨aP,h'⟩
  ·refine ⟨q8,?_,fun d hd=>?_⟩
   ·rw[if_pos rfl];exact hk
   ·rw[if_pos rfl,dz,if_pos hd];refine ⟨rfl,?_⟩;rw[hd] at ht;exact Cy ht
  ·obtain ⟨h1,h2,h3⟩:=hI.cO q hq h';rw[if_neg aP];have eI:nh q.looks t t1:=fun d hd=>by
    rw[dz,if_neg];intro e;exact (jM q hq h' d e).1 hd
   have tz:∀d,q.o.dst=some d->t1.get d=t.get d:=fun d hd=>by
    rw[dz,if_neg];intro e;exact (jM q hq h' d e).2 hd
   refine ⟨h1,uT.mu hrows hq eI (fun v ev hm=>?_) hS h2,fun d hd=>?_⟩
   ·have h2':=h2;rw[ev] at h2';obtain ⟨_,_,u,h4,h5⟩:=h2';have hs:=eI;rw[hrows.lZ hq] at hs;rw[fC hs] at h4;exact bu q v hq ev hm ⟨u,h4,h5⟩ fun d hd=>by rw[tz d hd,(h3 d hd).1,ev];rfl
   ·rw[tz d hd];exact h3 d hd
 ·rcases ff q hq h with rfl|⟨aP,h1⟩<;>rcases ff q' fu h' with rfl|⟨hne',h1'⟩
  ·rfl
  ·rw[if_pos rfl] at e;rw[if_neg hne'] at e';have h2:=lA ob x id e;have h3:=(hI.cO q' fu h1').2.1;rw[e'] at h3;have:=h3.2.2.1;omega
  ·rw[if_pos rfl] at e';rw[if_neg aP] at e;have h2:=lA _ _ _ e';have h3:=(hI.cO q hq h1).2.1;rw[e] at h3;have:=h3.2.2.1;omega
  ·rw[if_neg aP] at e;rw[if_neg hne'] at e';exact hI.ids q hq q' fu h1 h1' ob x id dq x' e e'
 ·rcases ff q hq h with rfl|⟨aP,h1⟩
  ·rw[if_pos rfl] at e;have:=lA _ _ _ e;have:=hI.step.le;omega
  ·rw[if_neg aP] at e;exact hI.fresh q hq h1 ob x id e
 ·refine ⟨hI.tmps.size,hI.tmps.defers,fun i v hv=>?_⟩;rw[T.eW] at hv;split at hv
  ·cases hv
  ·rename_i hm;have hm:=iG.1 (Bool.not_eq_true _ ▸ hm:_=false);have Xz:r.o.dst≠some i:=hm r hr ⟨(fq _).2 (.inr rfl),Xq⟩;rw[dz,if_neg Xz] at hv;refine hI.tmps.get i v ?_;rw[T.eW,if_neg,hv];rw[Bool.not_eq_true,iG];exact fun q hq h=>hm q hq ⟨(fq _).2 (.inl h.1),h.2⟩
end
end Go.Proofs.YtmbdghclhpboaaaGreat.Ev
namespace Go.Proofs.YtmbdghclhpboaaaGreat.Ev
theorem Step.TU{γ0 γ:aT}{σ0 σ:AS}{id:Nat}(q:Option Place)(hg:γ id=none)(hid:σ0.next<=id)(h:Step γ0 σ0 γ σ):Step γ0 σ0 (gh γ id q) σ:=
 ⟨h.ext.trans (jH q hg),fun o ho kg=>by rw[ck _ _ (by omega)];exact h.new o ho kg,h.le,h.same⟩
theorem JQ{E:Env}{cb:Cb}{ops:List Oper}{o:Oper}{t:aE}{σ cJ:AS}{v:AV}(h:mf E cb ops o t σ=some (v,cJ,3)):cJ=σ:=by
 unfold mf at h;(repeat' split at h)<;>simp only[Option.some.injEq,Prod.mk.injEq,reduceCtorEq] at h;all_goals first
  | exact h.2.1.symm
  | (exfalso;have:=h.2.2;omega)
section
variable{F:dN}{P:Program}{E:Env}(hE:cL P E){ops:Array Oper}{rows:List Row}(hrows:n7 ops rows){n:Nat}{γ0:aT}{σ0:AS}{done:Nat}{rem rd:List Row}{t:aE}{σ:AS}{kd:Nat->PK}{γ:aT}{aq:Array Bool}{a:Act}{w:World}
include hrows
theorem vF(hI:Inv F E ops rows n γ0 σ0 done rem rd t σ kd γ aq a w){r:Row}(hr:r∈rows)(hs:cA done aq r->r.early=true)(hc:∀j,has r.pm j=true->aq.getD j false=true):nh r.looks t (T.mask (Cu rows done aq) t):=fun d hd=>by
 rw[T.eW,if_neg];rw[Bool.not_eq_true,iG];intro q hq hp e;by_cases DC:q.i=r.i
 ·have:=hrows.eq hq hr DC;subst this;exact hrows.self q hq (hs hp) d e hd
 ·rcases (hrows.pair q hq r hr DC).looks d e hd with h|⟨_,h⟩
  ·have:=hc _ h;rw[hp.2] at this;cases this
  ·rw[(hI.cO q hq hp).1] at h;cases h
theorem Inv.laid(hI:Inv F E ops rows n γ0 σ0 done rem rd t σ kd γ aq a w){r:Row}(hr:r∈rows)(hp:cA done aq r){ay:aT}{x:Value}{w':World}(hx:aw ay (kd r.i).val x)(hR:aU F ay σ w')(hS:Step γ0 σ0 ay σ)(mn:Ext γ ay)
  (jM:∀q∈rows,cA done aq q->q.i≠r.i->uT E ops.toList rd t σ γ q (kd q.i)->uT E ops.toList rd t σ ay q (kd q.i)) :
  Inv F E ops rows n γ0 σ0 done rem rd t σ kd ay (aq.setIfInBounds r.i true) (a.put r.o.dst x) w':=by
 have hi:r.i<aq.size:=by rw[hI.size];exact hrows.idx hr
 have fP:∀j,(aq.setIfInBounds r.i true).getD j false=if j=r.i then true else aq.getD j false:=fun j=>by
  by_cases e:j=r.i
  ·subst e;rw[if_pos rfl,jK hi]
  ·rw[if_neg e,getD_set_ne _ (Ne.symm e)]
 have ff:∀q,cA done (aq.setIfInBounds r.i true) q↔cA done aq q/\q.i≠r.i:=fun q=>by
  unfold cA;rw[fP];by_cases e:q.i=r.i
  ·simp[e]
  ·simp[e]
 refine ⟨hI.mR,hI.cover,hI.Jl,hI.down,fun q hq h=>?_,by simp[hI.size],fun q hq h=>?_,fun q hq q' fu h h'=>hI.ids q hq q' fu ((ff q).1 h).1 ((ff q').1 h').1,fun q hq h=>hI.fresh q hq ((ff q).1 h).1,hR,hS,?_⟩
 ·rw[fP] at h;by_cases e:q.i=r.i
  ·rw[e];exact hp.1
  ·rw[if_neg e] at h;exact hI.sub q hq h
 ·obtain ⟨h1,aP⟩:=(ff q).1 h;obtain ⟨p1,p2,p3⟩:=hI.cO q hq h1;exact ⟨p1,jM q hq h1 aP p2,p3⟩
 ·refine ⟨by cases r.o.dst<;>simpa [Act.put] using hI.tmps.size,by cases r.o.dst<;>exact hI.tmps.defers,fun i v hv=>?_⟩;rw[T.eW] at hv;split at hv
  ·cases hv
  ·rename_i hm;have hm:=iG.1 (Bool.not_eq_true _ ▸ hm:_=false);by_cases e:r.o.dst=some i
   ·obtain ⟨h1,h2⟩:=(hI.cO r hr hp).2.2 i e;rw[h1] at hv;cases hv
    refine ⟨x,?_,hx⟩;rw[e];simp only[Act.put];rw[Array.getElem?_setIfInBounds_self_of_lt (Nat.lt_of_lt_of_le h2 hI.tmps.size)]
   ·obtain ⟨y,h1,h2⟩:=hI.tmps.get i v (by
     rw[T.eW,if_neg,hv];rw[Bool.not_eq_true,iG];intro q hq h e';by_cases DC:q.i=r.i
     ·have:=hrows.eq hq hr DC;subst this;exact e e'
     ·exact hm q hq ((ff q).2 ⟨h,DC⟩) e')
    refine ⟨y,?_,h2.mono mn _ _⟩;cases hd:r.o.dst with
    | none=>exact h1
    | some d=>
      simp only[Act.put];rw[Array.getElem?_setIfInBounds_ne (fun h=>e (by rw[hd,h]))];exact h1
include hE in
theorem Inv.Ex(hI:Inv F E ops rows n γ0 σ0 done rem rd t σ kd γ aq a w){r:Row}(hr:r∈rows)(hp:cA done aq r)(hc:∀j,has r.pm j=true->aq.getD j false=true){Q:Exit->Act->World->Prop}{K:Act->World->Prop}
  (hK:∀ay a' w',Inv F E ops rows n γ0 σ0 done rem rd t σ kd ay (aq.setIfInBounds r.i true) a' w'->(ay=γ/\(∀ob k id,kd r.i≠.new ob k id)\/∃ob k id p,kd r.i=.new ob k id/\ay=gh γ id (some p))->K a' w'):wpOp P ops Q r.i K a w:=by
 obtain ⟨he,hP,_⟩:=hI.cO r hr hp;have eI:=vF hrows hI hr (fun _=>he) hc;rw[hrows.lZ hr] at eI;have kI:∀b,dD ops.toList t r.o=some b->Region.wanted r.o (yielded ops a.tmps)=b:=fun b hb=>by
  rw[iJ eI] at hb;exact pc (γ:=γ) (n:=n) hb fun d u _ hu=>hI.tmps.get d u hu
 have g0:=fun out (h:bK E t σ r.o.op=some out)=>(fC (E:=E) (σ:=σ) eI).symm.trans h;have bJ:=hI.tmps.aL;have KO:(∀ob k id,kd r.i≠.new ob k id)->∀x,aw γ (kd r.i).val x->K (a.put r.o.dst x) w:=fun qm x hx=>hK γ _ _ (hI.laid hrows hr hp hx hI.rel hI.step (.refl γ) fun q hq h aP hP=>hP) (.inl ⟨rfl,qm⟩);unfold wpOp;simp only[(hrows.row r hr).1];cases hk:kd r.i with
 | no=>
   rw[hk] at hP;rw[kI _ hP];simp only[Bool.false_eq_true,if_false];exact KO (fun _ _ _ e=>by rw[hk] at e;cases e) undef (by rw[hk];exact aS γ _)
 | now v=>
   rw[hk] at hP;rw[kI _ hP.1];simp only[if_true];refine .inl ?_;unfold Oper.wp;obtain ⟨x,h1,h2⟩:=pJ hE hI.rel.toRel bJ r.o (g0 _ hP.2) (.inl rfl);rw[h1,Oper.upon_value];exact KO (fun _ _ _ e=>by rw[hk] at e;cases e) x (by rw[hk];exact h2)
 | read v=>
   rw[hk] at hP;obtain ⟨W0,_,u,W7,ND⟩:=hP;rw[kI _ W0];simp only[if_true];refine .inl ?_;unfold Oper.wp;obtain ⟨x,h1,h2⟩:=pJ hE hI.rel.toRel bJ r.o (g0 _ W7) (.inr rfl);rw[h1,Oper.upon_value];cases hd:r.o.dst with
   | none=>
     obtain ⟨z,hz⟩:∃z,aw γ v z\/True:=⟨undef,.inr trivial⟩;have Ip:=hI;refine hK γ _ _ ?_ (.inl ⟨rfl,fun _ _ _ e=>by rw[hk] at e;cases e⟩);have hi:r.i<aq.size:=by rw[hI.size];exact hrows.idx hr
     have fP:∀j,(aq.setIfInBounds r.i true).getD j false=if j=r.i then true else aq.getD j false:=fun j=>by
      by_cases e:j=r.i
      ·subst e;rw[if_pos rfl,jK hi]
      ·rw[if_neg e,getD_set_ne _ (Ne.symm e)]
     have ff:∀q,cA done (aq.setIfInBounds r.i true) q↔cA done aq q/\q.i≠r.i:=fun q=>by
      unfold cA;rw[fP];by_cases e:q.i=r.i<;>simp[e]
     refine ⟨hI.mR,hI.cover,hI.Jl,hI.down,fun q hq h=>?_,by simp[hI.size],fun q hq h=>hI.cO q hq ((ff q).1 h).1,fun q hq q' fu h h'=>hI.ids q hq q' fu ((ff q).1 h).1 ((ff q').1 h').1,fun q hq h=>hI.fresh q hq ((ff q).1 h).1,hI.rel,hI.step,⟨hI.tmps.size,hI.tmps.defers,fun i v hv=>hI.tmps.get i v ?_⟩⟩
     ·rw[fP] at h;by_cases e:q.i=r.i
      ·rw[e];exact hp.1
      ·rw[if_neg e] at h;exact hI.sub q hq h
     ·rw[T.eW] at hv ⊢;split at hv
      ·cases hv
      ·rename_i hm;have hm:=iG.1 (Bool.not_eq_true _ ▸ hm:_=false);rw[if_neg,hv];rw[Bool.not_eq_true,iG];intro q hq h e';by_cases DC:q.i=r.i
       ·have:=hrows.eq hq hr DC;subst this;rw[hd] at e';cases e'
       ·exact hm q hq ((ff q).2 ⟨h,DC⟩) e'
   | some d=>
     rw[<-hd];exact KO (fun _ _ _ e=>by rw[hk] at e;cases e) x (by rw[hk];rw[<-ND (by rw[hd];simp)];exact h2)
 | new ob k id=>
   rw[hk] at hP;obtain ⟨W0,hP2,W7,ND,hP5⟩:=hP;rw[kI _ W0];simp only[if_true];refine .inl ?_;unfold Oper.wp;obtain ⟨hd,vi,x,top,h1,h2⟩:=Gi hE (σ:=σ) (w:=w) bJ r.o (g0 _ hP2);have hrel:=h2 (gh γ id (some ⟨w.heap.size,0,top⟩)) id { w with heap:=w.heap.push vi } (jH _ ND) (bI _ _ _) (by simp);rw[h1,Oper.upon_value];refine hK _ _ _ (hI.laid hrows hr hp (by rw[hk];exact hrel.2) (hI.rel.place W7 ND hP5 hd vi 0 top hrel.1) (Step.TU _ ND (hI.fresh r hr hp ob k id hk) hI.step) (jH _ ND) fun q hq h aP It=>?_) (.inr ⟨ob,k,id,_,hk,rfl⟩);cases z8:kd q.i with
   | no=>rw[z8] at It;exact It
   | now v=>rw[z8] at It;exact It
   | read v=>rw[z8] at It;exact It
   | new dq k' yB=>
     rw[z8] at It;obtain ⟨q1,q2,q3,q4,q5⟩:=It;refine ⟨q1,q2,q3,?_,q5⟩;rw[ck _ _ fun e=>?_]
     ·exact q4
     ·subst e;exact aP (hI.ids q hq r hr h hp _ _ _ _ _ z8 hk)
include hE in
theorem Inv.N1(hI:Inv F E ops rows n γ0 σ0 done rem rd t σ kd γ aq a w)(hn:n<=aY){cb:Cb}(nB:sz P cb){r:Row}{fj:List Row}(hp:rem.Perm (r::fj))(hc:∀j,has r.pm j=true->aq.getD j false=true)
  {v:AV} {gL:AS} {tag:Nat} (hs:mf E cb ops.toList r.o t σ=some (v,gL,tag)) {t1:aE} (ht:o3 n t r.o.dst v=some t1) (ha:tag=3\/again E r.pm t1 gL rd=true) {Q:Exit->Act->World->Prop} {K:Act->World->Prop}
  (hK:∀ay a' w',Inv F E ops rows n γ0 σ0 (Nat.lor done (Nat.shiftLeft 1 r.i)) fj rd t1 gL kd ay (aq.setIfInBounds r.i true) a' w'->K a' w'):wpOp P ops Q r.i K a w:=by
 have B0:r∈rem:=hp.mem_iff.2 (by simp);obtain ⟨hr,tq⟩:=hI.mR r B0;have hD:(r::fj).Pairwise (fun r q=>r.i≠q.i):=(hp.pairwise_iff (fun h=>Ne.symm h)).1 hI.Jl;rw[List.pairwise_cons] at hD;have eI:=vF hrows hI hr (fun h=>absurd h.1 (by rw[tq];simp)) hc;rw[hrows.lZ hr] at eI;have gp:=hs;rw[Gz eI] at gp;refine E2 hE nB gp (hrows.row r hr).1 hI.rel hI.tmps fun ay x w' hx hR hS=>hK ay _ _ ?_;have hi:r.i<aq.size:=by rw[hI.size];exact hrows.idx hr
 have fP:∀j,(aq.setIfInBounds r.i true).getD j false=if j=r.i then true else aq.getD j false:=fun j=>by
  by_cases e:j=r.i
  ·subst e;rw[if_pos rfl,jK hi]
  ·rw[if_neg e,getD_set_ne _ (Ne.symm e)]
 have fq:∀j,has (Nat.lor done (Nat.shiftLeft 1 r.i)) j=true↔has done j=true\/j=r.i:=fun j=>by rw[kQ];simp
 have ff:∀q,cA (Nat.lor done (Nat.shiftLeft 1 r.i)) (aq.setIfInBounds r.i true) q↔cA done aq q:=fun q=>by
  unfold cA;rw[fP,fq];by_cases e:q.i=r.i
  ·simp[e,tq]
  ·simp[e]
 have jM:=fun (q:Row) (hq:q∈rows) (fu:cA done aq q)=>tD hrows hI hr tq hq fu (.inr hc);have dz:=qz ht hn;refine ⟨fun q hq=>?_,fun q hq=>?_,hD.2,fun q hq h j hj=>?_,fun q hq h=>?_,by simp[hI.size],fun q hq h=>?_,fun q hq q' fu h h'=>hI.ids q hq q' fu ((ff q).1 h) ((ff q').1 h'),fun q hq h=>hI.fresh q hq ((ff q).1 h),hR,hI.step.trans hS,?_⟩
 ·have fu:q∈rem:=hp.mem_iff.2 (by simp[hq]);obtain ⟨h1,h2⟩:=hI.mR q fu;refine ⟨h1,?_⟩;rw[kQ,h2];simp[Ne.symm (hD.1 q hq)]
 ·rcases hI.cover q hq with h|h
  ·exact .inl ((fq _).2 (.inl h))
  ·rcases List.mem_cons.1 (hp.mem_iff.1 h) with rfl|h
   ·exact .inl ((fq _).2 (.inr rfl))
   ·exact .inr h
 ·rcases (fq _).1 h with h|h
  ·exact (fq _).2 (.inl (hI.down q hq h j hj))
  ·have e:=hrows.eq hq hr h;subst e;have h1:=hc j hj;have an:j<ops.size:=Nat.lt_trans (hrows.lt q hq j hj) (hrows.idx hq);have h2:=hrows.all j _ (Array.getElem?_eq_getElem an);exact (fq _).2 (.inl (hI.sub _ h2 h1))
 ·rw[fP] at h;by_cases e:q.i=r.i
  ·exact (fq _).2 (.inr e)
  ·rw[if_neg e] at h;exact (fq _).2 (.inl (hI.sub q hq h))
 ·have h':=(ff q).1 h;obtain ⟨h1,h2,h3⟩:=hI.cO q hq h';have uu:nh q.looks t t1:=fun d hd=>by
   rw[dz,if_neg];intro e;exact (jM q hq h' d e).1 hd
  have tz:∀d,q.o.dst=some d->t1.get d=t.get d:=fun d hd=>by
   rw[dz,if_neg];intro e;exact (jM q hq h' d e).2 hd
  refine ⟨h1,uT.mu hrows hq uu (fun v ev hm=>?_) hS h2,fun d hd=>?_⟩
  ·have Xu:has r.pm q.i=false:=by
    cases hh:has r.pm q.i with
    | false=>rfl
    | true=>have:=hc _ hh;rw[h'.2] at this;cases this
   rcases ha with rfl|ha
   ·have Qw:=JQ hs;subst Qw;have h2':=h2;rw[ev] at h2';obtain ⟨_,_,u,h4,h5⟩:=h2';rw[hrows.lZ hq] at uu;rw[fC uu] at h4;exact ⟨hm,u,h4,h5⟩
   obtain ⟨u,hu,Ab⟩:=yb ha q hm Xu;refine ⟨hm,u,hu,fun aP=>?_⟩;cases hd:q.o.dst with
   | none=>exact absurd hd aP
   | some d=>
     have h4:=(h3 d hd).1;rw[ev] at h4;exact (Ab d v hd (by rw[tz d hd];exact h4)).symm
  ·rw[tz d hd];exact h3 d hd
 ·refine ⟨by cases r.o.dst<;>simpa [Act.put] using hI.tmps.size,by cases r.o.dst<;>exact hI.tmps.defers,fun i u hu=>?_⟩;rw[T.eW] at hu;split at hu
  ·cases hu
  ·rename_i hm;have hm:=iG.1 (Bool.not_eq_true _ ▸ hm:_=false);rw[dz] at hu;by_cases e:r.o.dst=some i
   ·rw[if_pos e] at hu;cases hu
    refine ⟨x,?_,hx⟩;rw[e] at ht ⊢;simp only[Act.put];rw[Array.getElem?_setIfInBounds_self_of_lt (Nat.lt_of_lt_of_le (Cy ht) hI.tmps.size)]
   ·rw[if_neg e] at hu;obtain ⟨y,h1,h2⟩:=hI.tmps.get i u (by
     rw[T.eW,if_neg,hu];rw[Bool.not_eq_true,iG];exact fun q hq h=>hm q hq ((ff q).2 h))
    refine ⟨y,?_,h2.mono hS.ext _ _⟩;cases hd:r.o.dst with
    | none=>exact h1
    | some d=>
      simp only[Act.put];rw[Array.getElem?_setIfInBounds_ne (fun h=>e (by rw[hd,h]))];exact h1
theorem GG{cb:Cb}{r:Row}(hr:r∈rows)(he:r.early=true){v:AV}{gL:AS}{tag:Nat}(h:mf E cb ops.toList r.o t σ=some (v,gL,tag)) :
  (dD ops.toList t r.o=some false/\v=aQ/\gL=σ/\tag=0) \/
  (dD ops.toList t r.o=some true/\((bK E t σ r.o.op=some (.pure v)/\gL=σ/\tag=0)\/(bK E t σ r.o.op=some (.read v)/\gL=σ/\tag=1) \/
   ∃ob k,bK E t σ r.o.op=some (.new ob k)/\σ.next<aY/\v=k.val σ.next/\gL={ heap:=σ.heap.put σ.next ob,next:=σ.next+1 }/\tag=2)):=by
 rw[hrows.HY hr] at he;unfold mf at h;split at h
 ·cases h
 ·rename_i hw;simp only[Option.some.injEq,Prod.mk.injEq] at h;exact .inl ⟨hw,h.1.symm,h.2.1.symm,h.2.2.symm⟩
 ·rename_i hw;refine .inr ⟨hw,?_⟩;split at h
  ·cases h
  ·rename_i u g0;simp only[Option.some.injEq,Prod.mk.injEq] at h;obtain ⟨rfl,rfl,rfl⟩:=h;exact .inl ⟨g0,rfl,rfl⟩
  ·rename_i u g0;simp only[Option.some.injEq,Prod.mk.injEq] at h;obtain ⟨rfl,rfl,rfl⟩:=h;exact .inr (.inl ⟨g0,rfl,rfl⟩)
  ·rename_i ob k g0;split at h
   ·rename_i an;simp only[Option.some.injEq,Prod.mk.injEq] at h;obtain ⟨rfl,rfl,rfl⟩:=h;exact .inr (.inr ⟨ob,k,g0,gZ an,rfl,rfl,rfl⟩)
   ·cases h
  ·rename_i u rR g0;rcases sL he g0 with ⟨_,e⟩|⟨_,e⟩|⟨_,_,e⟩<;>cases e
  ·rename_i f args g0;rcases sL he g0 with ⟨_,e⟩|⟨_,e⟩|⟨_,_,e⟩<;>cases e
theorem saturate{cb:Cb}(hn:n<=aY){t':aE}{cJ:AS}:∀(fuel:Nat) (done:Nat) (rem rd:List Row) (t:aE) (σ:AS) (kd:Nat->PK),nM E cb n ops.toList fuel done rem rd t σ=some (t',cJ) ->
  Inv F E ops rows n γ0 σ0 done rem rd t σ kd γ aq a w ->
  ∃gy fj ou t1 gL Ad,Inv F E ops rows n γ0 σ0 gy fj ou t1 gL Ad γ aq a w/\(∃f0,nM E cb n ops.toList f0 gy fj ou t1 gL=some (t',cJ))/\((fj=[]/\t1=t'/\gL=cJ) \/
   ∃r r8 v rR tag t2 f,fj.Perm (r::r8)/\(∀q∈fj,q.i≠r.i->ready gy q=false)/\(∀q∈fj,q.early=true->ready gy q=false)/\mf E cb ops.toList r.o t1 gL=some (v,rR,tag)/\o3 n t1 r.o.dst v=some t2/\(tag=3\/again E r.pm t2 rR ou=true) /\
    nM E cb n ops.toList f (Nat.lor gy (Nat.shiftLeft 1 r.i)) r8 ou t2 rR=some (t',cJ)):=by
 intro fuel;induction fuel with
 | zero=>intro done rem rd t σ kd h;simp[nM] at h
 | succ fuel ih=>
   intro done rem rd t σ kd h hI;have h0:=h;simp only[nM] at h;split at h
   ·simp only[Option.some.injEq,Prod.mk.injEq] at h;exact ⟨done,[],rd,t,σ,kd,hI,⟨_,h0⟩,.inl ⟨rfl,h.1,h.2⟩⟩
   ·rename_i x l;split at h
    ·rename_i r fj Qh;obtain ⟨h1,fK⟩:=qw Qh;simp only[Bool.and_eq_true] at h1;obtain ⟨q8,nW⟩:=h1;have hr:=(hI.mR r (fK.mem_iff.2 (by simp))).1;split at h
     ·rename_i v gL tag hs;split at h
      ·rename_i t1 ht;have eI:nh r.looks t t1:=fun d hd=>by
        rw[qz ht hn,if_neg];intro e;exact hrows.self r hr q8 d e hd
       rw[hrows.lZ hr] at eI;have hw:=iJ eI;have g0:=fun σ=>fC (E:=E) (σ:=σ) eI;rcases GG hrows hr q8 hs with ⟨e1,rfl,rfl,rfl⟩|⟨e1,⟨e2,rfl,rfl⟩|⟨e2,rfl,rfl⟩|⟨ob,k,e2,an,rfl,rfl,rfl⟩⟩<;>simp only[] at h
       ·exact ih _ _ _ _ _ _ h (hI.ahead hrows hn fK q8 nW (k:=.no) ht (hw.symm.trans e1) (fun _ _ _ e=>by cases e) (fun q v hq hk hm he hd=>⟨hm,he⟩) hI.rel (.refl _ _))
       ·exact ih _ _ _ _ _ _ h (hI.ahead hrows hn fK q8 nW (k:=.now v) ht ⟨hw.symm.trans e1,(g0 _).symm.trans e2⟩ (fun _ _ _ e=>by cases e) (fun q v hq hk hm he hd=>⟨hm,he⟩) hI.rel (.refl _ _))
       ·exact ih _ _ _ _ _ _ h (hI.ahead hrows hn fK q8 nW (k:=.read v) ht ⟨hw.symm.trans e1,by simp,v,(g0 _).symm.trans e2,fun _=>rfl⟩ (fun _ _ _ e=>by cases e) (fun q v hq hk hm he hd=>⟨List.mem_cons_of_mem _ hm,he⟩) hI.rel (.refl _ _))
       ·split at h
        ·rename_i ha;refine ih _ _ _ _ _ _ h (hI.ahead hrows hn fK q8 nW (k:=.new ob k σ.next) ht ⟨hw.symm.trans e1,(g0 _).symm.trans (yk _ e2),Nat.lt_succ_self _,hI.rel.j6 _ (Nat.le_refl _),?_⟩ (fun _ _ _ e=>by cases e;exact Nat.le_refl _)
          (fun q v hq hk hm he hd=>?_) (hI.rel.more an ob) (Step.more hI.rel an ob))
         ·simp only[];rw[T.bN _ _ _ _ (Nat.le_of_lt an),if_pos rfl]
         ·obtain ⟨u,h1,h2⟩:=yb ha q hm (j9 _);refine ⟨hm,u,h1,fun aP=>?_⟩;cases hqd:q.o.dst with
          | none=>exact absurd hqd aP
          | some d=>exact (h2 d v hqd (hd d hqd)).symm
        ·cases h
      ·cases h
     ·cases h
    ·rename_i Qh;have qm:=rz Qh;split at h
     ·cases h
     ·rename_i r r8 Qi;obtain ⟨h1,fK⟩:=qw Qi;split at h
      ·cases h
      ·rename_i kn;split at h
       ·rename_i v rR tag hs;split at h
        ·rename_i t2 ht;split at h
         ·rename_i ha;have ha:tag=3\/again E r.pm t2 rR rd=true:=by
           rw[Bool.or_eq_true] at ha;exact ha.imp nQ1 id
          refine ⟨done,x::l,rd,t,σ,kd,hI,⟨_,h0⟩,.inr ⟨r,r8,v,rR,tag,t2,fuel,fK,fun q hq aP=>?_,fun q hq he=>?_,hs,ht,ha,h⟩⟩
          ·rcases List.mem_cons.1 (fK.mem_iff.1 hq) with rfl|hq
           ·exact absurd rfl aP
           ·have:=List.all_eq_true.1 kn q hq;simpa using this
          ·have:=qm q hq;rw[he] at this;simpa using this
         ·cases h
        ·cases h
       ·cases h
omit hrows in
theorem count_set{aq:Array Bool}{i:Nat}(h:i<aq.size)(hf:aq.getD i true=false):(aq.setIfInBounds i true).toList.count false+1=aq.toList.count false:=by
 have Ti:aq.toList[i]?=some false:=by
  have:aq[i]?=some aq[i]:=Array.getElem?_eq_getElem h;simp[h] at hf;simp[this,hf]
 rw[Array.toList_setIfInBounds];have hi:i<aq.toList.length:=by simpa using h
 rw[List.count_set hi];have hg:aq.toList[i]=false:=by
  rw[List.getElem?_eq_getElem hi] at Ti;exact Option.some.inj Ti
 have nC:0<aq.toList.count false:=List.count_pos_iff.2 (hg ▸ List.getElem_mem hi);rw[hg];simp only[beq_self_eq_true,if_true];rw[if_neg (by simp)];omega
include hE in
theorem Nv(hn:n<=aY){cb:Cb}(nB:sz P cb){t':aE}{cJ:AS}{Q:Exit->Act->World->Prop}(hQ:∀ay a' w',aU F ay cJ w'->cW ay n t' a'->Step γ0 σ0 ay cJ->Q .normal a' w') :
  ∀(m:Nat) (fuel:Nat) (done:Nat) (rem rd:List Row) (t:aE) (σ:AS) (kd:Nat->PK) (γ:aT) (aq:Array Bool) (a:Act) (w:World),nM E cb n ops.toList fuel done rem rd t σ=some (t',cJ) ->
  Inv F E ops rows n γ0 σ0 done rem rd t σ kd γ aq a w->aq.toList.count false<=m->wpAny P .any ops Q m aq a w:=by
 intro m;have nV:∀(fuel:Nat) (done:Nat) (rem rd:List Row) (t:aE) (σ:AS) (kd:Nat->PK) (γ:aT) (aq:Array Bool) (a:Act) (w:World),nM E cb n ops.toList fuel done rem rd t σ=some (t',cJ) ->
   Inv F E ops rows n γ0 σ0 done rem rd t σ kd γ aq a w->Region.ready .any ops aq=[]->Q .normal a w:=by
  intro fuel done rem rd t σ kd γ aq a w h hI nV;have kn:∀i,i<ops.size->aq.getD i false=true:=by
   intro i;induction i using Nat.strongRecOn with
   | _ i ih=>
     intro hi;cases hl:aq.getD i false with
     | true=>rfl
     | false=>
       exfalso;have xd:=hrows.all i _ (Array.getElem?_eq_getElem hi);have hs:i<aq.size:=by rw[hI.size];exact hi
       have pW:aq.getD i true=false:=by simpa [hs] using hl
       have:i∈Region.ready .any ops aq:=mem_ready.2 ⟨pW,_,Array.getElem?_eq_getElem hi,fun e he hb=>by
        have Xx:has (yJ ops i ops[i]).pm e.on=true:=(kT _ _).2 ⟨e,by simpa using he,hb,rfl⟩;have an:=hrows.lt _ xd _ Xx;have an:e.on<i:=an;exact ih e.on an (by omega)⟩
       rw[nV] at this;cases this
  obtain ⟨gy,fj,ou,t1,gL,Ad,mi,⟨f0,w6⟩,vy⟩:=saturate (hrows:=hrows) hn fuel done rem rd t σ kd h hI;have Qm:fj=[]:=by
   cases hr:fj with
   | nil=>rfl
   | cons q l=>
     exfalso;obtain ⟨h1,h2⟩:=mi.mR q (by rw[hr];simp);have:=mi.sub q h1 (kn _ (hrows.idx h1));rw[h2] at this;cases this
  rcases vy with ⟨_,rfl,rfl⟩|⟨r,r8,_,_,_,_,_,fK,_⟩
  ·refine hQ γ a w mi.rel ⟨mi.tmps.size,mi.tmps.defers,fun i v hv=>mi.tmps.get i v ?_⟩ mi.step;rw[T.eW,if_neg,hv];rw[Bool.not_eq_true,iG];intro q hq hp;have h2:=hp.2;rw[kn _ (hrows.idx hq)] at h2;cases h2
  ·rw[Qm] at fK;have:=fK.length_eq;simp at this
 induction m with
 | zero=>
   intro fuel done rem rd t σ kd γ aq a w h hI hm;have hr:Region.ready .any ops aq=[]:=by
    apply List.eq_nil_iff_forall_not_mem.2;intro i hi;have hf:=(mem_ready.1 hi).1;have an:i<aq.size:=by
     rcases Nat.lt_or_ge i aq.size with h'|h'
     ·exact h'
     ·simp[Array.getElem?_eq_none h'] at hf
    have:=count_set an hf;omega
   exact ⟨hr,nV fuel done rem rd t σ kd γ aq a w h hI hr⟩
 | succ m ih=>
   intro fuel done rem rd t σ kd γ aq a w h hI hm;refine ⟨nV fuel done rem rd t σ kd γ aq a w h hI,fun i hi=>?_⟩;obtain ⟨r,hr,rfl,pW,hc⟩:=CD hrows hi;have an:r.i<aq.size:=by rw[hI.size];exact hrows.idx hr
   have Md:=count_set an pW;have Qq:=sV hI.size pW;obtain ⟨gy,fj,ou,t1,gL,Ad,mi,⟨f0,w6⟩,vy⟩:=saturate (hrows:=hrows) hn fuel done rem rd t σ kd h hI;by_cases hd:has gy r.i=true
   ·refine mi.Ex hE hrows hr ⟨hd,Qq⟩ hc fun ay a' w' Ip _=>?_;exact ih f0 gy fj ou t1 gL Ad ay _ a' w' w6 Ip (by omega)
   ·have hd:has gy r.i=false:=by simpa using hd
    have B0:=(mi.cover r hr).resolve_left (by rw[hd];simp);have nW:ready gy r=true:=CE.2 fun j hj=>by
     have an:j<ops.size:=Nat.lt_trans (hrows.lt r hr j hj) (hrows.idx hr);exact mi.sub _ (hrows.all j _ (Array.getElem?_eq_getElem an)) (hc j hj)
    rcases vy with ⟨rfl,rfl,rfl⟩|⟨q,r8,v,rR,tag,t2,f,fK,hu1,hu2,hs,ht,ha,Xe⟩
    ·cases B0
    ·have hrq:r.i=q.i:=by
      by_cases e:r.i=q.i
      ·exact e
      ·have:=hu1 r B0 e;rw[nW] at this;cases this
     have DC:=hrows.eq hr (mi.mR q (fK.mem_iff.2 (by simp))).1 hrq;subst DC;exact mi.N1 hE hrows hn nB fK hc hs ht ha fun ay a' w' Ip=>ih f _ r8 ou t2 rR Ad ay _ a' w' Xe Ip (by omega)
end

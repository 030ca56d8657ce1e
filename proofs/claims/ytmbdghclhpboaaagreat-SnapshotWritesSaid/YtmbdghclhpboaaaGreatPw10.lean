/- Part of the proof: EvU. Conditions: as each states. -/
import Derived.Test.YtmbdghclhpboaaaGreatPw9
set_option linter.all false
namespace Go.Proofs.YtmbdghclhpboaaaGreat.Ev
theorem MU{a b:Value}(h:Kg a b=true):a=b:=by
 unfold Kg at h;split at h
 ·simp at h;rw[h]
 ·simp at h;rw[h.1,h.2]
 ·simp only[beq_iff_eq] at h;congr 1;exact ByteArray.ext (Array.ext' h)
 ·rfl
 ·rfl
 ·simp only[Bool.and_eq_true] at h;rw[Nat.eq_of_beq_eq_true h.1,Nat.eq_of_beq_eq_true h.2]
 ·rfl
 ·rfl
 ·cases h
mutual
theorem BO:∀(a b:AV),AV.same a b=true->a=b
 | .lit a,.lit b,h=>by unfold AV.same at h;rw[MU h]
 | .ptr _ _,.ptr _ _,h=>by
   simp only[AV.same,Bool.and_eq_true] at h;rw[Nat.eq_of_beq_eq_true h.1,Nat.eq_of_beq_eq_true h.2]
 | .slice _ _ _ c,.slice _ _ _ c',h=>by
   simp only[AV.same,Bool.and_eq_true] at h;obtain ⟨⟨⟨h1,h2⟩,h3⟩,h4⟩:=h;rw[Nat.eq_of_beq_eq_true h1,Nat.eq_of_beq_eq_true h2,Nat.eq_of_beq_eq_true h3];cases c<;>cases c'<;>simp only[Bool.false_eq_true] at h4<;>rw[Nat.eq_of_beq_eq_true h4]
 | .map _,.map _,h=>by simp only[AV.same] at h;rw[Nat.eq_of_beq_eq_true h]
 | .iface _ b,.iface _ d,h=>by
   simp only[AV.same,Bool.and_eq_true] at h;rw[Nat.eq_of_beq_eq_true h.1,BO b d h.2]
 | .agg a,.agg b,h=>by simp only[AV.same] at h;rw[xW a b h]
 | .tuple a,.tuple b,h=>by simp only[AV.same] at h;rw[xW a b h]
 | .func ..,_,h=>by simp[AV.same] at h
 | .lit _,.ptr ..,h|.lit _,.slice ..,h|.lit _,.map ..,h|.lit _,.func ..,h|.lit _,.iface ..,h|.lit _,.agg ..,h|.lit _,.tuple ..,h=>by simp[AV.same] at h
 | .ptr ..,.lit _,h|.ptr ..,.slice ..,h|.ptr ..,.map ..,h|.ptr ..,.func ..,h|.ptr ..,.iface ..,h|.ptr ..,.agg ..,h|.ptr ..,.tuple ..,h=>by simp[AV.same] at h
 | .slice ..,.lit _,h|.slice ..,.ptr ..,h|.slice ..,.map ..,h|.slice ..,.func ..,h|.slice ..,.iface ..,h|.slice ..,.agg ..,h|.slice ..,.tuple ..,h=>by simp[AV.same] at h
 | .map ..,.lit _,h|.map ..,.ptr ..,h|.map ..,.slice ..,h|.map ..,.func ..,h|.map ..,.iface ..,h|.map ..,.agg ..,h|.map ..,.tuple ..,h=>by simp[AV.same] at h
 | .iface ..,.lit _,h|.iface ..,.ptr ..,h|.iface ..,.slice ..,h|.iface ..,.map ..,h|.iface ..,.func ..,h|.iface ..,.agg ..,h|.iface ..,.tuple ..,h=>by simp[AV.same] at h
 | .agg ..,.lit _,h|.agg ..,.ptr ..,h|.agg ..,.slice ..,h|.agg ..,.map ..,h|.agg ..,.func ..,h|.agg ..,.iface ..,h|.agg ..,.tuple ..,h=>by simp[AV.same] at h
 | .tuple ..,.lit _,h|.tuple ..,.ptr ..,h|.tuple ..,.slice ..,h|.tuple ..,.map ..,h|.tuple ..,.func ..,h|.tuple ..,.iface ..,h|.tuple ..,.agg ..,h=>by simp[AV.same] at h
theorem xW:∀(a b:List AV),AV.vo a b=true->a=b
 | [],[],_=>rfl
 | [],_::_,h=>by simp[AV.vo] at h
 | _::_,[],h=>by simp[AV.vo] at h
 | a::l,b::m,h=>by
   simp only[AV.vo,Bool.and_eq_true] at h;rw[BO a b h.1,xW l m h.2]
end
theorem xf{E:Env}{pm:Nat}{t:ax}{σ:AS}:∀{l:List Row},again E pm t σ l=true->∀r∈l,has pm r.i=false ->
  ∃v,bz E t σ r.o.op=some (.read v)/\∀d u,r.o.dst=some d->t.get d=some u->u=v
 | [],_,r,hr,_=>by cases hr
 | q::l,h,r,hr,hp=>by
   simp only[again,Bool.and_eq_true,Bool.or_eq_true] at h;rcases List.mem_cons.1 hr with rfl|hr
   ·have h1:=h.1.resolve_left (by rw[hp];simp);split at h1
    ·rename_i v d he hd;refine ⟨v,he,fun d' u e hu=>?_⟩;have e:=Option.some.inj (hd.symm.trans e);subst e;rw[hu] at h1;exact BO u v h1
    ·rename_i v he hd;exact ⟨v,he,fun d u e _=>by rw[hd] at e;cases e⟩
    ·cases h1
   ·exact xf h.2 r hr hp
theorem pL{p:Row->Bool}:∀{l:List Row} {r:Row} {m:List Row},fW p l=some (r,m)->p r=true/\l.Perm (r::m)
 | [],r,m,h=>by simp[fW] at h
 | x::l,r,m,h=>by
   simp only[fW] at h;split at h
   ·rename_i hp;simp only[Option.some.injEq,Prod.mk.injEq] at h;obtain ⟨rfl,rfl⟩:=h;exact ⟨hp,.refl _⟩
   ·split at h
    ·rename_i q m' hq;simp only[Option.some.injEq,Prod.mk.injEq] at h;obtain ⟨rfl,rfl⟩:=h;obtain ⟨h1,h2⟩:=pL hq;exact ⟨h1,(h2.cons x).trans (.swap ..)⟩
    ·cases h
theorem qz{p:Row->Bool}:∀{l:List Row},fW p l=none->∀r∈l,p r=false
 | [],_,r,hr=>by cases hr
 | x::l,h,r,hr=>by
   simp only[fW] at h;split at h
   ·cases h
   ·rename_i hp;split at h
    ·cases h
    ·rename_i hq;rcases List.mem_cons.1 hr with rfl|hr
     ·exact hp
     ·exact qz hq r hr
inductive PK where
 | no
 | now (v:AV)
 | read (v:AV)
 | new (ob:af) (k:qS) (id:Nat)
def PK.val:PK->AV
 | .no=>aP
 | .now v=>v
 | .read v=>v
 | .new _ k id=>k.val id
def ui(E:Env)(ops:List Oper)(rd:List Row)(t:ax)(σ:AS)(γ:aK)(r:Row):PK->Prop
 | .no=>cY ops t r.o=some false
 | .now v=>cY ops t r.o=some true/\bz E t σ r.o.op=some (.pure v)
 | .read v=>cY ops t r.o=some true/\r∈rd/\∃u,bz E t σ r.o.op=some (.read u)/\(r.o.dst≠none->u=v)
 | .new ob k id=>cY ops t r.o=some true/\bz E t σ r.o.op=some (.new ob k)/\id<σ.next/\γ id=none/\σ.heap.get id=some ob
def mi(l:List Nat)(t t':ax):Prop:=∀d∈l,t.get d=t'.get d
theorem gY{ops:Array Oper}{o:Oper}{t t':ax}(h:mi (o.looksAt ops) t t'):cY ops.toList t o=cY ops.toList t' o:=
 B8 fun d hd=>h d (by
  unfold Oper.looksAt;refine List.mem_append_right _ ?_;cases hg:o.guard with
  | none=>rw[hg] at hd;cases hd
  | some g=>
    obtain ⟨j,want⟩:=g;rw[hg] at hd;simp only[Option.bind_some] at hd;simp only[hd];simp)
theorem eS{E:Env}{σ:AS}{ops:Array Oper}{o:Oper}{t t':ax}(h:mi (o.looksAt ops) t t'):bz E t σ o.op=bz E t' σ o.op:=
 Gr o.op fun x hx=>by
  cases x with
  | tmp d=>exact h d (List.mem_append_left _ (List.mem_filterMap.2 ⟨.tmp d,by simpa using hx,rfl⟩))
  | _=>rfl
theorem Fg{E:Env}{cb:Cb}{σ:AS}{ops:Array Oper}{o:Oper}{t t':ax}(h:mi (o.looksAt ops) t t'):lH E cb ops.toList o t σ=lH E cb ops.toList o t' σ:=by
 unfold lH;rw[gY h,eS h]
def bW(done:Nat)(ak:Array Bool)(r:Row):Prop:=has done r.i=true/\ak.getD r.i false=false
open Classical in
noncomputable def Bs(rows:List Row)(done:Nat)(ak:Array Bool)(d:Nat):Bool:=decide (∃r∈rows,bW done ak r/\r.o.dst=some d)
theorem ON{rows:List Row}{done:Nat}{ak:Array Bool}{d:Nat}:Bs rows done ak d=true↔∃r∈rows,bW done ak r/\r.o.dst=some d:=by
 classical unfold Bs;exact decide_eq_true_iff
theorem gW{rows:List Row}{done:Nat}{ak:Array Bool}{d:Nat}:Bs rows done ak d=false↔∀r∈rows,bW done ak r->r.o.dst≠some d:=by
 rw[<-Bool.not_eq_true,ON];constructor
 ·intro h r hr hp e;exact h ⟨r,hr,hp,e⟩
 ·rintro h ⟨r,hr,hp,e⟩;exact h r hr hp e
structure Inv(F:di)(E:Env)(ops:Array Oper)(rows:List Row)(n:Nat)(γ0:aK)(σ0:AS)(done:Nat)(rem rd:List Row)(t:ax)(σ:AS)(kd:Nat->PK)(γ:aK)(ak:Array Bool)(a:Act)(w:World):Prop where
 l8:∀r∈rem,r∈rows/\has done r.i=false
 cover:∀r∈rows,has done r.i=true\/r∈rem
 HT:rem.Pairwise (fun r q=>r.i≠q.i)
 down:∀r∈rows,has done r.i=true->∀j,has r.pm j=true->has done j=true
 sub:∀r∈rows,ak.getD r.i false=true->has done r.i=true
 size:ak.size=ops.size
 cz:∀r∈rows,bW done ak r->r.early=true/\ui E ops.toList rd t σ γ r (kd r.i)/\(∀d,r.o.dst=some d->t.get d=some (kd r.i).val/\d<n)
 ids:∀r∈rows,∀q∈rows,bW done ak r->bW done ak q->∀ob k id cT k',kd r.i=.new ob k id->kd q.i=.new cT k' id->r.i=q.i
 fresh:∀r∈rows,bW done ak r->∀ob k id,kd r.i=.new ob k id->σ0.next<=id
 rel:aL F γ σ w
 step:Step γ0 σ0 γ σ
 tmps:cE γ n (T.mask (Bs rows done ak) t) a
theorem ja{ak:Array Bool}{i:Nat}(h:i<ak.size)(d:Bool):(ak.setIfInBounds i true).getD i d=true:=by
 simp[h]
section
variable{F:di}{P:Program}{E:Env}{ops:Array Oper}{rows:List Row}(hrows:mZ ops rows){n:Nat}{γ0:aK}{σ0:AS}{done:Nat}{rem rd:List Row}{t:ax}{σ:AS}{kd:Nat->PK}{γ:aK}{ak:Array Bool}{a:Act}{w:World}
include hrows
theorem mZ.idx{r:Row}(hr:r∈rows):r.i<ops.size:=(Array.getElem?_eq_some_iff.1 (hrows.row r hr).1).1
theorem mZ.ly{r:Row}(hr:r∈rows):r.looks=r.o.looksAt ops:=by
 rw[(hrows.row r hr).2];rfl
theorem mZ.Gk{r:Row}(hr:r∈rows):r.early=early r.o.op:=by
 rw[(hrows.row r hr).2];rfl
theorem BB{i:Nat}(h:i∈Region.ready .any ops ak):∃r∈rows,r.i=i/\ak.getD i true=false/\∀j,has r.pm j=true->ak.getD j false=true:=by
 obtain ⟨h0,o,ho,jF⟩:=mem_ready.1 h;refine ⟨_,hrows.all i o ho,rfl,h0,fun j hj=>?_⟩;obtain ⟨e,he,hb,rfl⟩:=(jZ j _).1 hj;exact jF e (by simpa using he) hb
omit hrows in
theorem rY(hs:ak.size=ops.size){i:Nat}(h:ak.getD i true=false):ak.getD i false=false:=by
 rcases Nat.lt_or_ge i ak.size with h'|h'
 ·simpa [h'] using h
 ·simp[Array.getElem?_eq_none h'] at h
theorem su(hI:Inv F E ops rows n γ0 σ0 done rem rd t σ kd γ ak a w){r q:Row}(hr:r∈rows)(sg:has done r.i=false)(hq:q∈rows)(hp:bW done ak q)
  (qj:r.early=true\/∀j,has r.pm j=true->ak.getD j false=true) (d:Nat) (hd:r.o.dst=some d):d∉q.looks/\q.o.dst≠some d:=by
 have aN:r.i≠q.i:=fun e=>by have:=hp.1;rw[<-e,sg] at this;cases this
 have Cr:=hrows.pair r hr q hq aN;refine ⟨fun hm=>?_,fun e=>?_⟩
 ·rcases Cr.looks d hd hm with h|⟨h,h'⟩
  ·have:=hI.down q hq hp.1 _ h;rw[sg] at this;cases this
  ·rcases qj with e|e
   ·rw[h'] at e;cases e
   ·have:=e _ h;rw[hp.2] at this;cases this
 ·have h1:=(Cr.dst d hd e).2;rw[(hI.cz q hq hp).1] at h1;cases h1
omit hrows in
theorem pM{t t1:ax}{dst:Option Nat}{v:AV}(h:oj n t dst v=some t1)(hn:n<=aU)(i:Nat):t1.get i=if dst=some i then some v else t.get i:=by
 unfold oj at h;cases dst with
 | none=>simp only[Option.some.injEq] at h;subst h;simp
 | some d=>
   simp only[] at h;split at h
   ·rename_i ah;have:=gA ah;simp only[Option.some.injEq] at h;subst h;rw[T.bH _ _ _ _ (by omega)];by_cases e:i=d
    ·subst e;simp
    ·rw[if_neg e,if_neg (fun h=>e (Option.some.inj h).symm)]
   ·cases h
omit hrows in
theorem Bw{t t1:ax}{d:Nat}{v:AV}(h:oj n t (some d) v=some t1):d<n:=by
 unfold oj at h;simp only[] at h;split at h
 ·rename_i ah;exact gA ah
 ·cases h
theorem ui.lP{q:Row}(hq:q∈rows){nw:List Row}{t1:ax}{gg:AS}{eT:aK}{k:PK}(dT:mi q.looks t t1)(bq:∀v,k=.read v->q∈rd->q∈nw/\∃u,bz E t1 gg q.o.op=some (.read u)/\(q.o.dst≠none->u=v))
  (Oq:Step γ σ eT gg) (h:ui E ops.toList rd t σ γ q k):ui E ops.toList nw t1 gg eT q k:=by
 rw[hrows.ly hq] at dT;have hw:=gY dT;cases k with
 | no=>exact hw.symm.trans h
 | now v=>exact ⟨hw ▸ h.1,Ao gg (eS (E:=E) (σ:=σ) dT ▸ h.2)⟩
 | read v=>
   obtain ⟨h1,h2,u,h3,h4⟩:=h;obtain ⟨e1,e2⟩:=bq v rfl h2;exact ⟨hw ▸ h1,e1,e2⟩
 | new ob k id=>
   obtain ⟨h1,h2,h3,h4,h5⟩:=h;exact ⟨hw ▸ h1,xn gg (eS (E:=E) (σ:=σ) dT ▸ h2),Nat.lt_of_lt_of_le h3 Oq.le,Oq.new id h3 h4,(Oq.same id h3 h4).trans h5⟩
theorem Inv.ahead(hI:Inv F E ops rows n γ0 σ0 done rem rd t σ kd γ ak a w)(hn:n<=aU){r:Row}{eH:List Row}(hp:rem.Perm (r::eH))(qj:r.early=true)(mW:ready done r=true){k:PK}{t1:ax}(ht:oj n t r.o.dst k.val=some t1){nw:List Row}{gg:AS}
  (hk:ui E ops.toList nw t1 gg γ r k) (kM:∀ob x id,k=.new ob x id->σ.next<=id)
  (bq:∀q v,q∈rows->kd q.i=.read v->q∈rd->(∃u,bz E t1 σ q.o.op=some (.read u)/\(q.o.dst≠none->u=v))->(∀d,q.o.dst=some d->t1.get d=some v)->q∈nw/\∃u,bz E t1 gg q.o.op=some (.read u)/\(q.o.dst≠none->u=v))
  (hR:aL F γ gg w) (hS:Step γ σ γ gg) :
  Inv F E ops rows n γ0 σ0 (Nat.lor done (Nat.shiftLeft 1 r.i)) eH nw t1 gg (fun j=>if j=r.i then k else kd j) γ ak a w:=by
 have AT:r∈rem:=hp.mem_iff.2 (by simp);obtain ⟨hr,sg⟩:=hI.l8 r AT;have hD:(r::eH).Pairwise (fun r q=>r.i≠q.i):=(hp.pairwise_iff (fun h=>Ne.symm h)).1 hI.HT;rw[List.pairwise_cons] at hD;have eM:∀j,has (Nat.lor done (Nat.shiftLeft 1 r.i)) j=true↔has done j=true\/j=r.i:=fun j=>by rw[jY];simp
 have UK:ak.getD r.i false=false:=by
  cases h:ak.getD r.i false with
  | false=>rfl
  | true=>have:=hI.sub r hr h;rw[sg] at this;cases this
 have eC:∀q∈rows,bW (Nat.lor done (Nat.shiftLeft 1 r.i)) ak q->(q=r\/(q.i≠r.i/\bW done ak q)):=fun q hq h=>by
  by_cases e:q.i=r.i
  ·exact .inl (hrows.eq hq hr e)
  ·exact .inr ⟨e,((eM q.i).1 h.1).resolve_right e,h.2⟩
 have jc:=fun (q:Row) (hq:q∈rows) (eN:bW done ak q)=>su hrows hI hr sg hq eN (.inl qj);have dd:=pM ht hn;refine ⟨fun q hq=>?_,fun q hq=>?_,hD.2,fun q hq h j hj=>?_,fun q hq h=>?_,hI.size,fun q hq h=>?_,fun q hq q' eN h h' ob x id cT x' e e'=>?_,fun q hq h ob x id e=>?_,hR,hI.step.trans hS,?_⟩
 ·have eN:q∈rem:=hp.mem_iff.2 (by simp[hq]);obtain ⟨h1,h2⟩:=hI.l8 q eN;refine ⟨h1,?_⟩;rw[jY,h2];simp[Ne.symm (hD.1 q hq)]
 ·rcases hI.cover q hq with h|h
  ·exact .inl ((eM _).2 (.inl h))
  ·rcases List.mem_cons.1 (hp.mem_iff.1 h) with rfl|h
   ·exact .inl ((eM _).2 (.inr rfl))
   ·exact .inr h
 ·rcases (eM _).1 h with h|h
  ·exact (eM _).2 (.inl (hI.down q hq h j hj))
  ·have e:=hrows.eq hq hr h;subst e;exact (eM _).2 (.inl (BC.1 mW j hj))
 ·exact (eM _).2 (.inl (hI.sub q hq h))
 ·rcases eC q hq h with rfl|⟨aN,h'⟩
  ·refine ⟨qj,?_,fun d hd=>?_⟩
   ·rw[if_pos rfl];exact hk
   ·rw[if_pos rfl,dd,if_pos hd];refine ⟨rfl,?_⟩;rw[hd] at ht;exact Bw ht
  ·obtain ⟨h1,h2,h3⟩:=hI.cz q hq h';rw[if_neg aN];have dT:mi q.looks t t1:=fun d hd=>by
    rw[dd,if_neg];intro e;exact (jc q hq h' d e).1 hd
   have sj:∀d,q.o.dst=some d->t1.get d=t.get d:=fun d hd=>by
    rw[dd,if_neg];intro e;exact (jc q hq h' d e).2 hd
   refine ⟨h1,ui.lP hrows hq dT (fun v ev hm=>?_) hS h2,fun d hd=>?_⟩
   ·have h2':=h2;rw[ev] at h2';obtain ⟨_,_,u,h4,h5⟩:=h2';have hs:=dT;rw[hrows.ly hq] at hs;rw[eS hs] at h4;exact bq q v hq ev hm ⟨u,h4,h5⟩ fun d hd=>by rw[sj d hd,(h3 d hd).1,ev];rfl
   ·rw[sj d hd];exact h3 d hd
 ·rcases eC q hq h with rfl|⟨aN,h1⟩<;>rcases eC q' eN h' with rfl|⟨hne',h1'⟩
  ·rfl
  ·rw[if_pos rfl] at e;rw[if_neg hne'] at e';have h2:=kM ob x id e;have h3:=(hI.cz q' eN h1').2.1;rw[e'] at h3;have:=h3.2.2.1;omega
  ·rw[if_pos rfl] at e';rw[if_neg aN] at e;have h2:=kM _ _ _ e';have h3:=(hI.cz q hq h1).2.1;rw[e] at h3;have:=h3.2.2.1;omega
  ·rw[if_neg aN] at e;rw[if_neg hne'] at e';exact hI.ids q hq q' eN h1 h1' ob x id cT x' e e'
 ·rcases eC q hq h with rfl|⟨aN,h1⟩
  ·rw[if_pos rfl] at e;have:=kM _ _ _ e;have:=hI.step.le;omega
  ·rw[if_neg aN] at e;exact hI.fresh q hq h1 ob x id e
 ·refine ⟨hI.tmps.size,hI.tmps.defers,fun i v hv=>?_⟩;rw[T.eo] at hv;split at hv
  ·cases hv
  ·rename_i hm;have hm:=gW.1 (Bool.not_eq_true _ ▸ hm:_=false);have UT:r.o.dst≠some i:=hm r hr ⟨(eM _).2 (.inr rfl),UK⟩;rw[dd,if_neg UT] at hv;refine hI.tmps.get i v ?_;rw[T.eo,if_neg,hv];rw[Bool.not_eq_true,gW];exact fun q hq h=>hm q hq ⟨(eM _).2 (.inl h.1),h.2⟩
end
end Go.Proofs.YtmbdghclhpboaaaGreat.Ev
namespace Go.Proofs.YtmbdghclhpboaaaGreat.Ev
theorem Step.Rn{γ0 γ:aK}{σ0 σ:AS}{id:Nat}(q:Option Place)(hg:γ id=none)(hid:σ0.next<=id)(h:Step γ0 σ0 γ σ):Step γ0 σ0 (fJ γ id q) σ:=
 ⟨h.ext.trans (iY q hg),fun o ho EJ=>by rw[bU _ _ (by omega)];exact h.new o ho EJ,h.le,h.same⟩
theorem Iw{E:Env}{cb:Cb}{ops:List Oper}{o:Oper}{t:ax}{σ cd:AS}{v:AV}(h:lH E cb ops o t σ=some (v,cd,3)):cd=σ:=by
 unfold lH at h;(repeat' split at h)<;>simp only[Option.some.injEq,Prod.mk.injEq,reduceCtorEq] at h;all_goals first
  | exact h.2.1.symm
  | (exfalso;have:=h.2.2;omega)
section
variable{F:di}{P:Program}{E:Env}(hE:ch P E){ops:Array Oper}{rows:List Row}(hrows:mZ ops rows){n:Nat}{γ0:aK}{σ0:AS}{done:Nat}{rem rd:List Row}{t:ax}{σ:AS}{kd:Nat->PK}{γ:aK}{ak:Array Bool}{a:Act}{w:World}
include hrows
theorem uZ(hI:Inv F E ops rows n γ0 σ0 done rem rd t σ kd γ ak a w){r:Row}(hr:r∈rows)(hs:bW done ak r->r.early=true)(hc:∀j,has r.pm j=true->ak.getD j false=true):mi r.looks t (T.mask (Bs rows done ak) t):=fun d hd=>by
 rw[T.eo,if_neg];rw[Bool.not_eq_true,gW];intro q hq hp e;by_cases Ct:q.i=r.i
 ·have:=hrows.eq hq hr Ct;subst this;exact hrows.self q hq (hs hp) d e hd
 ·rcases (hrows.pair q hq r hr Ct).looks d e hd with h|⟨_,h⟩
  ·have:=hc _ h;rw[hp.2] at this;cases this
  ·rw[(hI.cz q hq hp).1] at h;cases h
theorem Inv.laid(hI:Inv F E ops rows n γ0 σ0 done rem rd t σ kd γ ak a w){r:Row}(hr:r∈rows)(hp:bW done ak r){aq:aK}{x:Value}{w':World}(hx:an aq (kd r.i).val x)(hR:aL F aq σ w')(hS:Step γ0 σ0 aq σ)(lN:Ext γ aq)
  (jc:∀q∈rows,bW done ak q->q.i≠r.i->ui E ops.toList rd t σ γ q (kd q.i)->ui E ops.toList rd t σ aq q (kd q.i)) :
  Inv F E ops rows n γ0 σ0 done rem rd t σ kd aq (ak.setIfInBounds r.i true) (a.put r.o.dst x) w':=by
 have hi:r.i<ak.size:=by rw[hI.size];exact hrows.idx hr
 have fk:∀j,(ak.setIfInBounds r.i true).getD j false=if j=r.i then true else ak.getD j false:=fun j=>by
  by_cases e:j=r.i
  ·subst e;rw[if_pos rfl,ja hi]
  ·rw[if_neg e,getD_set_ne _ (Ne.symm e)]
 have eC:∀q,bW done (ak.setIfInBounds r.i true) q↔bW done ak q/\q.i≠r.i:=fun q=>by
  unfold bW;rw[fk];by_cases e:q.i=r.i
  ·simp[e]
  ·simp[e]
 refine ⟨hI.l8,hI.cover,hI.HT,hI.down,fun q hq h=>?_,by simp[hI.size],fun q hq h=>?_,fun q hq q' eN h h'=>hI.ids q hq q' eN ((eC q).1 h).1 ((eC q').1 h').1,fun q hq h=>hI.fresh q hq ((eC q).1 h).1,hR,hS,?_⟩
 ·rw[fk] at h;by_cases e:q.i=r.i
  ·rw[e];exact hp.1
  ·rw[if_neg e] at h;exact hI.sub q hq h
 ·obtain ⟨h1,aN⟩:=(eC q).1 h;obtain ⟨p1,p2,p3⟩:=hI.cz q hq h1;exact ⟨p1,jc q hq h1 aN p2,p3⟩
 ·refine ⟨by cases r.o.dst<;>simpa [Act.put] using hI.tmps.size,by cases r.o.dst<;>exact hI.tmps.defers,fun i v hv=>?_⟩;rw[T.eo] at hv;split at hv
  ·cases hv
  ·rename_i hm;have hm:=gW.1 (Bool.not_eq_true _ ▸ hm:_=false);by_cases e:r.o.dst=some i
   ·obtain ⟨h1,h2⟩:=(hI.cz r hr hp).2.2 i e;rw[h1] at hv;cases hv
    refine ⟨x,?_,hx⟩;rw[e];simp only[Act.put];rw[Array.getElem?_setIfInBounds_self_of_lt (Nat.lt_of_lt_of_le h2 hI.tmps.size)]
   ·obtain ⟨y,h1,h2⟩:=hI.tmps.get i v (by
     rw[T.eo,if_neg,hv];rw[Bool.not_eq_true,gW];intro q hq h e';by_cases Ct:q.i=r.i
     ·have:=hrows.eq hq hr Ct;subst this;exact e e'
     ·exact hm q hq ((eC q).2 ⟨h,Ct⟩) e')
    refine ⟨y,?_,h2.mono lN _ _⟩;cases hd:r.o.dst with
    | none=>exact h1
    | some d=>
      simp only[Act.put];rw[Array.getElem?_setIfInBounds_ne (fun h=>e (by rw[hd,h]))];exact h1
include hE in
theorem Inv.Ds(hI:Inv F E ops rows n γ0 σ0 done rem rd t σ kd γ ak a w){r:Row}(hr:r∈rows)(hp:bW done ak r)(hc:∀j,has r.pm j=true->ak.getD j false=true){Q:Exit->Act->World->Prop}{K:Act->World->Prop}
  (hK:∀aq a' w',Inv F E ops rows n γ0 σ0 done rem rd t σ kd aq (ak.setIfInBounds r.i true) a' w'->(aq=γ/\(∀ob k id,kd r.i≠.new ob k id)\/∃ob k id p,kd r.i=.new ob k id/\aq=fJ γ id (some p))->K a' w'):wpOp P ops Q r.i K a w:=by
 obtain ⟨he,hP,_⟩:=hI.cz r hr hp;have dT:=uZ hrows hI hr (fun _=>he) hc;rw[hrows.ly hr] at dT;have jS:∀b,cY ops.toList t r.o=some b->Region.wanted r.o (yielded ops a.tmps)=b:=fun b hb=>by
  rw[gY dT] at hb;exact oC (γ:=γ) (n:=n) hb fun d u _ hu=>hI.tmps.get d u hu
 have gB:=fun out (h:bz E t σ r.o.op=some out)=>(eS (E:=E) (σ:=σ) dT).symm.trans h;have bD:=hI.tmps.aE;have Jq:(∀ob k id,kd r.i≠.new ob k id)->∀x,an γ (kd r.i).val x->K (a.put r.o.dst x) w:=fun pD x hx=>hK γ _ _ (hI.laid hrows hr hp hx hI.rel hI.step (.refl γ) fun q hq h aN hP=>hP) (.inl ⟨rfl,pD⟩);unfold wpOp;simp only[(hrows.row r hr).1];cases hk:kd r.i with
 | no=>
   rw[hk] at hP;rw[jS _ hP];simp only[Bool.false_eq_true,if_false];exact Jq (fun _ _ _ e=>by rw[hk] at e;cases e) undef (by rw[hk];exact aM γ _)
 | now v=>
   rw[hk] at hP;rw[jS _ hP.1];simp only[if_true];refine .inl ?_;unfold Oper.wp;obtain ⟨x,h1,h2⟩:=oZ hE hI.rel.toRel bD r.o (gB _ hP.2) (.inl rfl);rw[h1,Oper.upon_value];exact Jq (fun _ _ _ e=>by rw[hk] at e;cases e) x (by rw[hk];exact h2)
 | read v=>
   rw[hk] at hP;obtain ⟨Up,_,u,Uq,LD⟩:=hP;rw[jS _ Up];simp only[if_true];refine .inl ?_;unfold Oper.wp;obtain ⟨x,h1,h2⟩:=oZ hE hI.rel.toRel bD r.o (gB _ Uq) (.inr rfl);rw[h1,Oper.upon_value];cases hd:r.o.dst with
   | none=>
     obtain ⟨z,hz⟩:∃z,an γ v z\/True:=⟨undef,.inr trivial⟩;have GC:=hI;refine hK γ _ _ ?_ (.inl ⟨rfl,fun _ _ _ e=>by rw[hk] at e;cases e⟩);have hi:r.i<ak.size:=by rw[hI.size];exact hrows.idx hr
     have fk:∀j,(ak.setIfInBounds r.i true).getD j false=if j=r.i then true else ak.getD j false:=fun j=>by
      by_cases e:j=r.i
      ·subst e;rw[if_pos rfl,ja hi]
      ·rw[if_neg e,getD_set_ne _ (Ne.symm e)]
     have eC:∀q,bW done (ak.setIfInBounds r.i true) q↔bW done ak q/\q.i≠r.i:=fun q=>by
      unfold bW;rw[fk];by_cases e:q.i=r.i<;>simp[e]
     refine ⟨hI.l8,hI.cover,hI.HT,hI.down,fun q hq h=>?_,by simp[hI.size],fun q hq h=>hI.cz q hq ((eC q).1 h).1,fun q hq q' eN h h'=>hI.ids q hq q' eN ((eC q).1 h).1 ((eC q').1 h').1,fun q hq h=>hI.fresh q hq ((eC q).1 h).1,hI.rel,hI.step,⟨hI.tmps.size,hI.tmps.defers,fun i v hv=>hI.tmps.get i v ?_⟩⟩
     ·rw[fk] at h;by_cases e:q.i=r.i
      ·rw[e];exact hp.1
      ·rw[if_neg e] at h;exact hI.sub q hq h
     ·rw[T.eo] at hv ⊢;split at hv
      ·cases hv
      ·rename_i hm;have hm:=gW.1 (Bool.not_eq_true _ ▸ hm:_=false);rw[if_neg,hv];rw[Bool.not_eq_true,gW];intro q hq h e';by_cases Ct:q.i=r.i
       ·have:=hrows.eq hq hr Ct;subst this;rw[hd] at e';cases e'
       ·exact hm q hq ((eC q).2 ⟨h,Ct⟩) e'
   | some d=>
     rw[<-hd];exact Jq (fun _ _ _ e=>by rw[hk] at e;cases e) x (by rw[hk];rw[<-LD (by rw[hd];simp)];exact h2)
 | new ob k id=>
   rw[hk] at hP;obtain ⟨Up,YK,Uq,LD,YL⟩:=hP;rw[jS _ Up];simp only[if_true];refine .inl ?_;unfold Oper.wp;obtain ⟨hd,uI,x,top,h1,h2⟩:=E1 hE (σ:=σ) (w:=w) bD r.o (gB _ YK);have hrel:=h2 (fJ γ id (some ⟨w.heap.size,0,top⟩)) id { w with heap:=w.heap.push uI } (iY _ LD) (bu _ _ _) (by simp);rw[h1,Oper.upon_value];refine hK _ _ _ (hI.laid hrows hr hp (by rw[hk];exact hrel.2) (hI.rel.place Uq LD YL hd uI 0 top hrel.1) (Step.Rn _ LD (hI.fresh r hr hp ob k id hk) hI.step) (iY _ LD) fun q hq h aN GH=>?_) (.inr ⟨ob,k,id,_,hk,rfl⟩);cases za:kd q.i with
   | no=>rw[za] at GH;exact GH
   | now v=>rw[za] at GH;exact GH
   | read v=>rw[za] at GH;exact GH
   | new cT k' xC=>
     rw[za] at GH;obtain ⟨q1,q2,q3,q4,q5⟩:=GH;refine ⟨q1,q2,q3,?_,q5⟩;rw[bU _ _ fun e=>?_]
     ·exact q4
     ·subst e;exact aN (hI.ids q hq r hr h hp _ _ _ _ _ za hk)
include hE in
theorem Inv.L3(hI:Inv F E ops rows n γ0 σ0 done rem rd t σ kd γ ak a w)(hn:n<=aU){cb:Cb}(mz:rB P cb){r:Row}{eH:List Row}(hp:rem.Perm (r::eH))(hc:∀j,has r.pm j=true->ak.getD j false=true)
  {v:AV} {gg:AS} {tag:Nat} (hs:lH E cb ops.toList r.o t σ=some (v,gg,tag)) {t1:ax} (ht:oj n t r.o.dst v=some t1) (ha:tag=3\/again E r.pm t1 gg rd=true) {Q:Exit->Act->World->Prop} {K:Act->World->Prop}
  (hK:∀aq a' w',Inv F E ops rows n γ0 σ0 (Nat.lor done (Nat.shiftLeft 1 r.i)) eH rd t1 gg kd aq (ak.setIfInBounds r.i true) a' w'->K a' w'):wpOp P ops Q r.i K a w:=by
 have AT:r∈rem:=hp.mem_iff.2 (by simp);obtain ⟨hr,sg⟩:=hI.l8 r AT;have hD:(r::eH).Pairwise (fun r q=>r.i≠q.i):=(hp.pairwise_iff (fun h=>Ne.symm h)).1 hI.HT;rw[List.pairwise_cons] at hD;have dT:=uZ hrows hI hr (fun h=>absurd h.1 (by rw[sg];simp)) hc;rw[hrows.ly hr] at dT;have QZ:=hs;rw[Fg dT] at QZ;refine DV hE mz QZ (hrows.row r hr).1 hI.rel hI.tmps fun aq x w' hx hR hS=>hK aq _ _ ?_;have hi:r.i<ak.size:=by rw[hI.size];exact hrows.idx hr
 have fk:∀j,(ak.setIfInBounds r.i true).getD j false=if j=r.i then true else ak.getD j false:=fun j=>by
  by_cases e:j=r.i
  ·subst e;rw[if_pos rfl,ja hi]
  ·rw[if_neg e,getD_set_ne _ (Ne.symm e)]
 have eM:∀j,has (Nat.lor done (Nat.shiftLeft 1 r.i)) j=true↔has done j=true\/j=r.i:=fun j=>by rw[jY];simp
 have eC:∀q,bW (Nat.lor done (Nat.shiftLeft 1 r.i)) (ak.setIfInBounds r.i true) q↔bW done ak q:=fun q=>by
  unfold bW;rw[fk,eM];by_cases e:q.i=r.i
  ·simp[e,sg]
  ·simp[e]
 have jc:=fun (q:Row) (hq:q∈rows) (eN:bW done ak q)=>su hrows hI hr sg hq eN (.inr hc);have dd:=pM ht hn;refine ⟨fun q hq=>?_,fun q hq=>?_,hD.2,fun q hq h j hj=>?_,fun q hq h=>?_,by simp[hI.size],fun q hq h=>?_,fun q hq q' eN h h'=>hI.ids q hq q' eN ((eC q).1 h) ((eC q').1 h'),fun q hq h=>hI.fresh q hq ((eC q).1 h),hR,hI.step.trans hS,?_⟩
 ·have eN:q∈rem:=hp.mem_iff.2 (by simp[hq]);obtain ⟨h1,h2⟩:=hI.l8 q eN;refine ⟨h1,?_⟩;rw[jY,h2];simp[Ne.symm (hD.1 q hq)]
 ·rcases hI.cover q hq with h|h
  ·exact .inl ((eM _).2 (.inl h))
  ·rcases List.mem_cons.1 (hp.mem_iff.1 h) with rfl|h
   ·exact .inl ((eM _).2 (.inr rfl))
   ·exact .inr h
 ·rcases (eM _).1 h with h|h
  ·exact (eM _).2 (.inl (hI.down q hq h j hj))
  ·have e:=hrows.eq hq hr h;subst e;have h1:=hc j hj;have ah:j<ops.size:=Nat.lt_trans (hrows.lt q hq j hj) (hrows.idx hq);have h2:=hrows.all j _ (Array.getElem?_eq_getElem ah);exact (eM _).2 (.inl (hI.sub _ h2 h1))
 ·rw[fk] at h;by_cases e:q.i=r.i
  ·exact (eM _).2 (.inr e)
  ·rw[if_neg e] at h;exact (eM _).2 (.inl (hI.sub q hq h))
 ·have h':=(eC q).1 h;obtain ⟨h1,h2,h3⟩:=hI.cz q hq h';have tj:mi q.looks t t1:=fun d hd=>by
   rw[dd,if_neg];intro e;exact (jc q hq h' d e).1 hd
  have sj:∀d,q.o.dst=some d->t1.get d=t.get d:=fun d hd=>by
   rw[dd,if_neg];intro e;exact (jc q hq h' d e).2 hd
  refine ⟨h1,ui.lP hrows hq tj (fun v ev hm=>?_) hS h2,fun d hd=>?_⟩
  ·have UN:has r.pm q.i=false:=by
    cases hh:has r.pm q.i with
    | false=>rfl
    | true=>have:=hc _ hh;rw[h'.2] at this;cases this
   rcases ha with rfl|ha
   ·have Oq:=Iw hs;subst Oq;have h2':=h2;rw[ev] at h2';obtain ⟨_,_,u,h4,h5⟩:=h2';rw[hrows.ly hq] at tj;rw[eS tj] at h4;exact ⟨hm,u,h4,h5⟩
   obtain ⟨u,hu,zd⟩:=xf ha q hm UN;refine ⟨hm,u,hu,fun aN=>?_⟩;cases hd:q.o.dst with
   | none=>exact absurd hd aN
   | some d=>
     have h4:=(h3 d hd).1;rw[ev] at h4;exact (zd d v hd (by rw[sj d hd];exact h4)).symm
  ·rw[sj d hd];exact h3 d hd
 ·refine ⟨by cases r.o.dst<;>simpa [Act.put] using hI.tmps.size,by cases r.o.dst<;>exact hI.tmps.defers,fun i u hu=>?_⟩;rw[T.eo] at hu;split at hu
  ·cases hu
  ·rename_i hm;have hm:=gW.1 (Bool.not_eq_true _ ▸ hm:_=false);rw[dd] at hu;by_cases e:r.o.dst=some i
   ·rw[if_pos e] at hu;cases hu
    refine ⟨x,?_,hx⟩;rw[e] at ht ⊢;simp only[Act.put];rw[Array.getElem?_setIfInBounds_self_of_lt (Nat.lt_of_lt_of_le (Bw ht) hI.tmps.size)]
   ·rw[if_neg e] at hu;obtain ⟨y,h1,h2⟩:=hI.tmps.get i u (by
     rw[T.eo,if_neg,hu];rw[Bool.not_eq_true,gW];exact fun q hq h=>hm q hq ((eC q).2 h))
    refine ⟨y,?_,h2.mono hS.ext _ _⟩;cases hd:r.o.dst with
    | none=>exact h1
    | some d=>
      simp only[Act.put];rw[Array.getElem?_setIfInBounds_ne (fun h=>e (by rw[hd,h]))];exact h1
theorem Fo{cb:Cb}{r:Row}(hr:r∈rows)(he:r.early=true){v:AV}{gg:AS}{tag:Nat}(h:lH E cb ops.toList r.o t σ=some (v,gg,tag)) :
  (cY ops.toList t r.o=some false/\v=aP/\gg=σ/\tag=0) \/
  (cY ops.toList t r.o=some true/\((bz E t σ r.o.op=some (.pure v)/\gg=σ/\tag=0)\/(bz E t σ r.o.op=some (.read v)/\gg=σ/\tag=1) \/
   ∃ob k,bz E t σ r.o.op=some (.new ob k)/\σ.next<aU/\v=k.val σ.next/\gg={ heap:=σ.heap.put σ.next ob,next:=σ.next+1 }/\tag=2)):=by
 rw[hrows.Gk hr] at he;unfold lH at h;split at h
 ·cases h
 ·rename_i hw;simp only[Option.some.injEq,Prod.mk.injEq] at h;exact .inl ⟨hw,h.1.symm,h.2.1.symm,h.2.2.symm⟩
 ·rename_i hw;refine .inr ⟨hw,?_⟩;split at h
  ·cases h
  ·rename_i u gB;simp only[Option.some.injEq,Prod.mk.injEq] at h;obtain ⟨rfl,rfl,rfl⟩:=h;exact .inl ⟨gB,rfl,rfl⟩
  ·rename_i u gB;simp only[Option.some.injEq,Prod.mk.injEq] at h;obtain ⟨rfl,rfl,rfl⟩:=h;exact .inr (.inl ⟨gB,rfl,rfl⟩)
  ·rename_i ob k gB;split at h
   ·rename_i ah;simp only[Option.some.injEq,Prod.mk.injEq] at h;obtain ⟨rfl,rfl,rfl⟩:=h;exact .inr (.inr ⟨ob,k,gB,gA ah,rfl,rfl,rfl⟩)
   ·cases h
  ·rename_i u qR gB;rcases rN he gB with ⟨_,e⟩|⟨_,e⟩|⟨_,_,e⟩<;>cases e
  ·rename_i f args gB;rcases rN he gB with ⟨_,e⟩|⟨_,e⟩|⟨_,_,e⟩<;>cases e
theorem saturate{cb:Cb}(hn:n<=aU){t':ax}{cd:AS}:∀(fuel:Nat) (done:Nat) (rem rd:List Row) (t:ax) (σ:AS) (kd:Nat->PK),mO E cb n ops.toList fuel done rem rd t σ=some (t',cd) ->
  Inv F E ops rows n γ0 σ0 done rem rd t σ kd γ ak a w ->
  ∃fS eH nw t1 gg zf,Inv F E ops rows n γ0 σ0 fS eH nw t1 gg zf γ ak a w/\(∃f0,mO E cb n ops.toList f0 fS eH nw t1 gg=some (t',cd))/\((eH=[]/\t1=t'/\gg=cd) \/
   ∃r ra v qR tag t2 f,eH.Perm (r::ra)/\(∀q∈eH,q.i≠r.i->ready fS q=false)/\(∀q∈eH,q.early=true->ready fS q=false)/\lH E cb ops.toList r.o t1 gg=some (v,qR,tag)/\oj n t1 r.o.dst v=some t2/\(tag=3\/again E r.pm t2 qR nw=true) /\
    mO E cb n ops.toList f (Nat.lor fS (Nat.shiftLeft 1 r.i)) ra nw t2 qR=some (t',cd)):=by
 intro fuel;induction fuel with
 | zero=>intro done rem rd t σ kd h;simp[mO] at h
 | succ fuel ih=>
   intro done rem rd t σ kd h hI;have h0:=h;simp only[mO] at h;split at h
   ·simp only[Option.some.injEq,Prod.mk.injEq] at h;exact ⟨done,[],rd,t,σ,kd,hI,⟨_,h0⟩,.inl ⟨rfl,h.1,h.2⟩⟩
   ·rename_i x l;split at h
    ·rename_i r eH Oa;obtain ⟨h1,fe⟩:=pL Oa;simp only[Bool.and_eq_true] at h1;obtain ⟨qj,mW⟩:=h1;have hr:=(hI.l8 r (fe.mem_iff.2 (by simp))).1;split at h
     ·rename_i v gg tag hs;split at h
      ·rename_i t1 ht;have dT:mi r.looks t t1:=fun d hd=>by
        rw[pM ht hn,if_neg];intro e;exact hrows.self r hr qj d e hd
       rw[hrows.ly hr] at dT;have hw:=gY dT;have gB:=fun σ=>eS (E:=E) (σ:=σ) dT;rcases Fo hrows hr qj hs with ⟨e1,rfl,rfl,rfl⟩|⟨e1,⟨e2,rfl,rfl⟩|⟨e2,rfl,rfl⟩|⟨ob,k,e2,ah,rfl,rfl,rfl⟩⟩<;>simp only[] at h
       ·exact ih _ _ _ _ _ _ h (hI.ahead hrows hn fe qj mW (k:=.no) ht (hw.symm.trans e1) (fun _ _ _ e=>by cases e) (fun q v hq hk hm he hd=>⟨hm,he⟩) hI.rel (.refl _ _))
       ·exact ih _ _ _ _ _ _ h (hI.ahead hrows hn fe qj mW (k:=.now v) ht ⟨hw.symm.trans e1,(gB _).symm.trans e2⟩ (fun _ _ _ e=>by cases e) (fun q v hq hk hm he hd=>⟨hm,he⟩) hI.rel (.refl _ _))
       ·exact ih _ _ _ _ _ _ h (hI.ahead hrows hn fe qj mW (k:=.read v) ht ⟨hw.symm.trans e1,by simp,v,(gB _).symm.trans e2,fun _=>rfl⟩ (fun _ _ _ e=>by cases e) (fun q v hq hk hm he hd=>⟨List.mem_cons_of_mem _ hm,he⟩) hI.rel (.refl _ _))
       ·split at h
        ·rename_i ha;refine ih _ _ _ _ _ _ h (hI.ahead hrows hn fe qj mW (k:=.new ob k σ.next) ht ⟨hw.symm.trans e1,(gB _).symm.trans (xn _ e2),Nat.lt_succ_self _,hI.rel.jv _ (Nat.le_refl _),?_⟩ (fun _ _ _ e=>by cases e;exact Nat.le_refl _)
          (fun q v hq hk hm he hd=>?_) (hI.rel.more ah ob) (Step.more hI.rel ah ob))
         ·simp only[];rw[T.bH _ _ _ _ (Nat.le_of_lt ah),if_pos rfl]
         ·obtain ⟨u,h1,h2⟩:=xf ha q hm (jy _);refine ⟨hm,u,h1,fun aN=>?_⟩;cases hqd:q.o.dst with
          | none=>exact absurd hqd aN
          | some d=>exact (h2 d v hqd (hd d hqd)).symm
        ·cases h
      ·cases h
     ·cases h
    ·rename_i Oa;have pD:=qz Oa;split at h
     ·cases h
     ·rename_i r ra Ob;obtain ⟨h1,fe⟩:=pL Ob;split at h
      ·cases h
      ·rename_i jF;split at h
       ·rename_i v qR tag hs;split at h
        ·rename_i t2 ht;split at h
         ·rename_i ha;have ha:tag=3\/again E r.pm t2 qR rd=true:=by
           rw[Bool.or_eq_true] at ha;exact ha.imp Nat.eq_of_beq_eq_true id
          refine ⟨done,x::l,rd,t,σ,kd,hI,⟨_,h0⟩,.inr ⟨r,ra,v,qR,tag,t2,fuel,fe,fun q hq aN=>?_,fun q hq he=>?_,hs,ht,ha,h⟩⟩
          ·rcases List.mem_cons.1 (fe.mem_iff.1 hq) with rfl|hq
           ·exact absurd rfl aN
           ·have:=List.all_eq_true.1 jF q hq;simpa using this
          ·have:=pD q hq;rw[he] at this;simpa using this
         ·cases h
        ·cases h
       ·cases h
omit hrows in
theorem count_set{ak:Array Bool}{i:Nat}(h:i<ak.size)(hf:ak.getD i true=false):(ak.setIfInBounds i true).toList.count false+1=ak.toList.count false:=by
 have QK:ak.toList[i]?=some false:=by
  have:ak[i]?=some ak[i]:=Array.getElem?_eq_getElem h;simp[h] at hf;simp[this,hf]
 rw[Array.toList_setIfInBounds];have hi:i<ak.toList.length:=by simpa using h
 rw[List.count_set hi];have hg:ak.toList[i]=false:=by
  rw[List.getElem?_eq_getElem hi] at QK;exact Option.some.inj QK
 have nV:0<ak.toList.count false:=List.count_pos_iff.2 (hg ▸ List.getElem_mem hi);rw[hg];simp only[beq_self_eq_true,if_true];rw[if_neg (by simp)];omega
include hE in
theorem Lv(hn:n<=aU){cb:Cb}(mz:rB P cb){t':ax}{cd:AS}{Q:Exit->Act->World->Prop}(hQ:∀aq a' w',aL F aq cd w'->cE aq n t' a'->Step γ0 σ0 aq cd->Q .normal a' w') :
  ∀(m:Nat) (fuel:Nat) (done:Nat) (rem rd:List Row) (t:ax) (σ:AS) (kd:Nat->PK) (γ:aK) (ak:Array Bool) (a:Act) (w:World),mO E cb n ops.toList fuel done rem rd t σ=some (t',cd) ->
  Inv F E ops rows n γ0 σ0 done rem rd t σ kd γ ak a w->ak.toList.count false<=m->wpAny P .any ops Q m ak a w:=by
 intro m;have pC:∀(fuel:Nat) (done:Nat) (rem rd:List Row) (t:ax) (σ:AS) (kd:Nat->PK) (γ:aK) (ak:Array Bool) (a:Act) (w:World),mO E cb n ops.toList fuel done rem rd t σ=some (t',cd) ->
   Inv F E ops rows n γ0 σ0 done rem rd t σ kd γ ak a w->Region.ready .any ops ak=[]->Q .normal a w:=by
  intro fuel done rem rd t σ kd γ ak a w h hI pC;have jF:∀i,i<ops.size->ak.getD i false=true:=by
   intro i;induction i using Nat.strongRecOn with
   | _ i ih=>
     intro hi;cases hl:ak.getD i false with
     | true=>rfl
     | false=>
       exfalso;have wm:=hrows.all i _ (Array.getElem?_eq_getElem hi);have hs:i<ak.size:=by rw[hI.size];exact hi
       have rk:ak.getD i true=false:=by simpa [hs] using hl
       have:i∈Region.ready .any ops ak:=mem_ready.2 ⟨rk,_,Array.getElem?_eq_getElem hi,fun e he hb=>by
        have UR:has (xK ops i ops[i]).pm e.on=true:=(jZ _ _).2 ⟨e,by simpa using he,hb,rfl⟩;have ah:=hrows.lt _ wm _ UR;have ah:e.on<i:=ah;exact ih e.on ah (by omega)⟩
       rw[pC] at this;cases this
  obtain ⟨fS,eH,nw,t1,gg,zf,lJ,⟨f0,v9⟩,uS⟩:=saturate (hrows:=hrows) hn fuel done rem rd t σ kd h hI;have Of:eH=[]:=by
   cases hr:eH with
   | nil=>rfl
   | cons q l=>
     exfalso;obtain ⟨h1,h2⟩:=lJ.l8 q (by rw[hr];simp);have:=lJ.sub q h1 (jF _ (hrows.idx h1));rw[h2] at this;cases this
  rcases uS with ⟨_,rfl,rfl⟩|⟨r,ra,_,_,_,_,_,fe,_⟩
  ·refine hQ γ a w lJ.rel ⟨lJ.tmps.size,lJ.tmps.defers,fun i v hv=>lJ.tmps.get i v ?_⟩ lJ.step;rw[T.eo,if_neg,hv];rw[Bool.not_eq_true,gW];intro q hq hp;have h2:=hp.2;rw[jF _ (hrows.idx hq)] at h2;cases h2
  ·rw[Of] at fe;have:=fe.length_eq;simp at this
 induction m with
 | zero=>
   intro fuel done rem rd t σ kd γ ak a w h hI hm;have hr:Region.ready .any ops ak=[]:=by
    apply List.eq_nil_iff_forall_not_mem.2;intro i hi;have hf:=(mem_ready.1 hi).1;have ah:i<ak.size:=by
     rcases Nat.lt_or_ge i ak.size with h'|h'
     ·exact h'
     ·simp[Array.getElem?_eq_none h'] at hf
    have:=count_set ah hf;omega
   exact ⟨hr,pC fuel done rem rd t σ kd γ ak a w h hI hr⟩
 | succ m ih=>
   intro fuel done rem rd t σ kd γ ak a w h hI hm;refine ⟨pC fuel done rem rd t σ kd γ ak a w h hI,fun i hi=>?_⟩;obtain ⟨r,hr,rfl,rk,hc⟩:=BB hrows hi;have ah:r.i<ak.size:=by rw[hI.size];exact hrows.idx hr
   have KF:=count_set ah rk;have Oj:=rY hI.size rk;obtain ⟨fS,eH,nw,t1,gg,zf,lJ,⟨f0,v9⟩,uS⟩:=saturate (hrows:=hrows) hn fuel done rem rd t σ kd h hI;by_cases hd:has fS r.i=true
   ·refine lJ.Ds hE hrows hr ⟨hd,Oj⟩ hc fun aq a' w' GC _=>?_;exact ih f0 fS eH nw t1 gg zf aq _ a' w' v9 GC (by omega)
   ·have hd:has fS r.i=false:=by simpa using hd
    have AT:=(lJ.cover r hr).resolve_left (by rw[hd];simp);have mW:ready fS r=true:=BC.2 fun j hj=>by
     have ah:j<ops.size:=Nat.lt_trans (hrows.lt r hr j hj) (hrows.idx hr);exact lJ.sub _ (hrows.all j _ (Array.getElem?_eq_getElem ah)) (hc j hj)
    rcases uS with ⟨rfl,rfl,rfl⟩|⟨q,ra,v,qR,tag,t2,f,fe,hu1,hu2,hs,ht,ha,Uw⟩
    ·cases AT
    ·have Zk:r.i=q.i:=by
      by_cases e:r.i=q.i
      ·exact e
      ·have:=hu1 r AT e;rw[mW] at this;cases this
     have Ct:=hrows.eq hr (lJ.l8 q (fe.mem_iff.2 (by simp))).1 Zk;subst Ct;exact lJ.L3 hE hrows hn mz fe hc hs ht ha fun aq a' w' GC=>ih f _ ra nw t2 qR zf aq _ a' w' Uw GC (by omega)
end
end Go.Proofs.YtmbdghclhpboaaaGreat.Ev

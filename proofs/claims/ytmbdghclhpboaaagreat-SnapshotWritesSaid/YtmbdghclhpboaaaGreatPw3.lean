/- Part of the proof: EvD. Conditions: as each states. -/
import Derived.Test.YtmbdghclhpboaaaGreatPw2
set_option linter.all false
namespace Go.Proofs.YtmbdghclhpboaaaGreat.Ev
theorem Ed{i:Nat}(h:Nat.beq i 0=true):i=0:=Nat.eq_of_beq_eq_true h
theorem Ec{i:Nat}(h:Nat.beq i 0=false):i≠0:=Nat.ne_of_beq_eq_false h
theorem T.VD{α:Type}(a:α)(f i:Nat):T.set (f+1) .e i a=T.set (f+1) (.n none .e .e) i a:=by
 cases i with
 | zero=>rfl
 | succ i=>simp only[T.set]
theorem T.Ue{α:Type}(j:Nat):(T.n (none:Option α) .e .e).get j=none:=by
 cases j with
 | zero=>rfl
 | succ j=>simp only[T.get];split<;>rfl
theorem T.jX{α:Type}(a:α):∀(f:Nat) (t:T α) (i j:Nat),i+1<2 ^ f->(T.set f t i a).get j=if j=i then some a else t.get j:=by
 intro f;induction f with
 | zero=>intro t i j h;simp at h
 | succ f ih=>
   have main:∀(v:Option α) (l r:T α) (i j:Nat),i+1<2 ^ (f+1)->(T.set (f+1) (.n v l r) i a).get j=if j=i then some a else (T.n v l r).get j:=by
    intro v l r i j h;have hp:2 ^ (f+1)=2 * 2 ^ f:=by rw[Nat.pow_succ];omega
    cases i with
    | zero=>
      cases j with
      | zero=>simp[T.set,T.get]
      | succ j=>simp[T.set,T.get]
    | succ i=>
      have hk:i / 2+1<2 ^ f:=by omega
      simp only[T.set];cases hb:Nat.beq (i % 2) 0<;>simp only[]<;>cases j with
      | zero=>simp[T.get]
      | succ j=>
        simp only[T.get];cases o5:Nat.beq (j % 2) 0<;>simp only[]<;>try rw[ih _ _ _ hk]
        all_goals
         first|have h1:=Ed hb|have h1:=Ec hb
         first|have h2:=Ed o5|have h2:=Ec o5
         by_cases o8:j=i
         ·subst o8;first|(exfalso;omega)|simp
         ·rw[if_neg (by omega:¬j+1=i+1)]
          try rw[if_neg (by omega)]
   intro t i j h;cases t with
   | n v l r=>exact main v l r i j h
   | e=>rw[T.VD,main none .e .e i j h,T.Ue];rfl
theorem T.bH{α:Type}(t:T α)(i j:Nat)(a:α)(h:i<=aU):(t.put i a).get j=if j=i then some a else t.get j:=
 T.jX a 21 t i j (by unfold aU at h;omega)
structure Place where
 block:Nat
 base:Nat
 top:Nat
abbrev aK:=Nat->Option (Option Place)
def gz(γ:aK)(o off:Nat)(a:Addr):Prop:=
 match γ o with
 | none=>False
 | some none=>True
 | some (some p)=>a=⟨p.block,p.base+off,none⟩
def oA(γ:aK)(o n:Nat):Prop:=
 match γ o with
 | none=>False
 | some none=>True
 | some (some p)=>p.base+n<=p.top
def lQ(γ:aK)(o r:Nat):Prop:=
 match γ o with
 | none=>False
 | some none=>True
 | some (some p)=>r=p.block
mutual
def an(γ:aK):AV->Value->Prop
 | .lit v,x=>x=v
 | .ptr o off,x=>∃a,x=.pointer (some a)/\gz γ o off a
 | .slice o off len cap,x=>∃a c,x=.slice (some a) len c/\(c=0\/gz γ o off a)/\len<=c/\(match cap with
   | .k n=>c=n
   | .grown size=>oA γ o (off+c * size))
 | .map o,x=>∃r,x=.map (some r)/\lQ γ o r
 | .func fn a b,x=>∃a' b':Array Value,x=.func fn a' b'/\az γ a a'.toList/\az γ b b'.toList
 | .iface t v,x=>∃y,x=.iface t y/\an γ v y
 | .agg l,x=>∃a:Array Value,x=.agg a/\az γ l a.toList
 | .tuple l,x=>∃a:Array Value,x=.tuple a/\az γ l a.toList
def az(γ:aK):List AV->List Value->Prop
 | [],l=>l=[]
 | v::vs,l=>∃x xs,l=x::xs/\an γ v x/\az γ vs xs
end
def Ext(γ aq:aK):Prop:=∀o p,γ o=some p->aq o=some p\/aq o=some none
theorem Ext.refl(γ:aK):Ext γ γ:=fun _ _ h=>.inl h
theorem Ext.trans{a b c:aK}(h:Ext a b)(h':Ext b c):Ext a c:=fun o p hp=>by
 rcases h o p hp with e|e
 ·exact h' o p e
 ·rcases h' o none e with e'|e'<;>exact .inr e'
theorem gz.mono{γ aq:aK}(h:Ext γ aq){o off:Nat}{a:Addr}(ha:gz γ o off a):gz aq o off a:=by
 unfold gz at *;cases hg:γ o with
 | none=>rw[hg] at ha;exact ha.elim
 | some p=>
   rcases h o p hg with e|e
   ·rw[e];rw[hg] at ha;exact ha
   ·rw[e];trivial
theorem oA.mono{γ aq:aK}(h:Ext γ aq){o n:Nat}(ha:oA γ o n):oA aq o n:=by
 unfold oA at *;cases hg:γ o with
 | none=>rw[hg] at ha;exact ha.elim
 | some p=>
   rcases h o p hg with e|e
   ·rw[e];rw[hg] at ha;exact ha
   ·rw[e];trivial
theorem lQ.mono{γ aq:aK}(h:Ext γ aq){o n:Nat}(ha:lQ γ o n):lQ aq o n:=by
 unfold lQ at *;cases hg:γ o with
 | none=>rw[hg] at ha;exact ha.elim
 | some p=>
   rcases h o p hg with e|e
   ·rw[e];rw[hg] at ha;exact ha
   ·rw[e];trivial
mutual
theorem an.mono{γ aq:aK}(h:Ext γ aq):∀(v:AV) (x:Value),an γ v x->an aq v x
 | .lit _,_,hx=>by unfold an at *;exact hx
 | .ptr _ _,_,hx=>by
   unfold an at *;obtain ⟨a,e,ha⟩:=hx;exact ⟨a,e,ha.mono h⟩
 | .slice _ _ _ cap,_,hx=>by
   unfold an at *;obtain ⟨a,c,e,ha,hl,hc⟩:=hx;refine ⟨a,c,e,ha.imp id (gz.mono h),hl,?_⟩;cases cap with
   | k n=>exact hc
   | grown s=>exact oA.mono h hc
 | .map _,_,hx=>by
   unfold an at *;obtain ⟨r,e,hr⟩:=hx;exact ⟨r,e,hr.mono h⟩
 | .func _ l m,_,hx=>by
   unfold an at *;obtain ⟨a,b,e,h1,h2⟩:=hx;exact ⟨a,b,e,az.mono h l _ h1,az.mono h m _ h2⟩
 | .iface _ v,_,hx=>by
   unfold an at *;obtain ⟨y,e,hy⟩:=hx;exact ⟨y,e,an.mono h v y hy⟩
 | .agg l,_,hx=>by
   unfold an at *;obtain ⟨a,e,h1⟩:=hx;exact ⟨a,e,az.mono h l _ h1⟩
 | .tuple l,_,hx=>by
   unfold an at *;obtain ⟨a,e,h1⟩:=hx;exact ⟨a,e,az.mono h l _ h1⟩
theorem az.mono{γ aq:aK}(h:Ext γ aq):∀(l:List AV) (x:List Value),az γ l x->az aq l x
 | [],_,hx=>by unfold az at *;exact hx
 | v::vs,_,hx=>by
   unfold az at *;obtain ⟨x,xs,e,h1,h2⟩:=hx;exact ⟨x,xs,e,an.mono h v x h1,az.mono h vs xs h2⟩
end
end Go.Proofs.YtmbdghclhpboaaaGreat.Ev
namespace Go.Proofs.YtmbdghclhpboaaaGreat.Ev
def aX(γ:aK):List (AV×AV×Nat)->List MapEntry->Prop
 | [],l=>l=[]
 | (k,v,b)::es,l=>∃k' v' rest,l=⟨k',v',b⟩::rest/\an γ k k'/\an γ v v'/\aX γ es rest
def dI(γ:aK)(ob:af)(p:Place)(w:World):Prop:=
 match ob with
 | .cells l elem=>∃c,w.heap[p.block]?=some (.cells c elem (0,0))/\(c.size=p.top/\(Au elem=true->p.base=0/\l.length=p.top))/\p.base+l.length<=p.top/\∀i v,l[i]?=some v->∃x,c[p.base+i]?=some x/\an γ v x
 | .row xs elem=>∃c,w.heap[p.block]?=some (.cells c elem (0,0))/\(c.size=p.top/\(Au elem=true->p.base=0/\xs.length=p.top))/\p.base+xs.length<=p.top/\∀i x,xs[i]?=some x->c[p.base+i]?=some x
 | .res _=>False
 | .br es=>∃es' clock,w.heap[p.block]?=some (.map es' clock)/\es'.toList.map (fun e=>(e.key,e.val))=es/\((∀e∈es,sL e.1=true)->Go.MapKept.Stamped es' clock)
 | .map es clock=>∃es':Array MapEntry,w.heap[p.block]?=some (.map es' clock)/\aX γ es es'.toList
 | .iter m since seen mI=>p.base=0/\∃r,w.heap[p.block]?=some (.mapIter (some r) since seen.toArray mI)/\lQ γ m r
 | .dead=>True
structure Rel(γ:aK)(σ:AS)(w:World):Prop where
 jv:∀o,σ.next<=o->γ o=none
 obj:∀o p,γ o=some (some p)->∃ob,σ.heap.get o=some ob/\dI γ ob p w
 gone:∀o,γ o=some none->σ.heap.get o=some .dead
 inj:∀o o' p p',γ o=some (some p)->γ o'=some (some p')->p.block=p'.block->o=o'
 aU:σ.next<=aU
structure Step(γ:aK)(σ:AS)(aq:aK)(cd:AS):Prop where
 ext:Ext γ aq
 new:∀o,o<σ.next->γ o=none->aq o=none
 le:σ.next<=cd.next
 same:∀o,o<σ.next->γ o=none->cd.heap.get o=σ.heap.get o
theorem Step.refl(γ:aK)(σ:AS):Step γ σ γ σ:=⟨.refl γ,fun _ _ h=>h,Nat.le_refl _,fun _ _ _=>rfl⟩
theorem Step.trans{γ eT gF:aK}{σ gg qR:AS}(h:Step γ σ eT gg)(h':Step eT gg gF qR):Step γ σ gF qR:=
 ⟨h.ext.trans h'.ext,fun o ho hg=>h'.new o (Nat.lt_of_lt_of_le ho h.le) (h.new o ho hg),Nat.le_trans h.le h'.le,
  fun o ho hg=>(h'.same o (Nat.lt_of_lt_of_le ho h.le) (h.new o ho hg)).trans (h.same o ho hg)⟩
theorem Rel.find{γ:aK}{σ:AS}{w:World}(h:Rel γ σ w){o:Nat}{ob:af}(hg:σ.heap.get o=some ob)(hd:ob≠.dead)(hn:γ o≠none) :
  ∃p,γ o=some (some p)/\dI γ ob p w:=by
 cases hp:γ o with
 | none=>exact absurd hp hn
 | some q=>
   cases q with
   | none=>
     have:=h.gone o hp;rw[hg] at this;exact absurd (Option.some.inj this) hd
   | some p=>
     obtain ⟨cT,h1,h2⟩:=h.obj o p hp;rw[hg] at h1;cases h1
     exact ⟨p,rfl,h2⟩
theorem gz.ne{γ:aK}{o off:Nat}{a:Addr}(h:gz γ o off a):γ o≠none:=fun e=>by unfold gz at h;rw[e] at h;exact h
theorem lQ.ne{γ:aK}{o r:Nat}(h:lQ γ o r):γ o≠none:=fun e=>by unfold lQ at h;rw[e] at h;exact h
theorem gz.at{γ:aK}{o off:Nat}{a:Addr}{p:Place}(h:gz γ o off a)(hp:γ o=some (some p)):a=⟨p.block,p.base+off,none⟩:=by
 unfold gz at h;rw[hp] at h;exact h
theorem lQ.at{γ:aK}{o r:Nat}{p:Place}(h:lQ γ o r)(hp:γ o=some (some p)):r=p.block:=by
 unfold lQ at h;rw[hp] at h;exact h
structure ch(P:Program)(E:Env):Prop where
 info:∀t r,E.ty t=some r->∀w,(typeInfo t).run P w=.ok r.info w
 bg:∀t r,E.ty t=some r->P.underlying t=some r.bg
 fn:∀f fn,E.fn f=some fn->P.funcs[f]?=some fn/\∀args w,(callFunc f args).run P w=.ok (.enter f args) w
 wide:P.follows .mixedOrders=true
 guard:∀t r n,E.ty t=some r->r.flat=some n->P.eqGuardType P.depth t=false
 eq:∀t r n,E.ty t=some r->r.flat=some n->∀(xs ys:List Value) b w,xs.length=n->ys.length=n->fits r.kinds (xs.map .lit)=true->bn (xs.map .lit) (ys.map .lit)=some b ->
  (Op.equalIn Op.maxDepth t (.agg xs.toArray) (.agg ys.toArray)).run P w=.ok b w
 key:∀t r n k e,E.ty t=some r->r.flat=some n->r.bg=.array k e->∀(xs:List Value) b w,xs.length=n->(Instr.checkKey b 10000 t (.agg xs.toArray)).run P w=.ok () w
section
variable{P:Program}{E:Env}(hE:ch P E){t:TypeId}{r:cZ}(h:E.ty t=some r)(w:World)
include hE h
theorem ba:(underlying t).run P w=.ok r.bg w:=run_underlying (hE.bg t r h) w
theorem l9:(typeInfo t).run P w=.ok r.info w:=hE.info t r h w
theorem bT:(Go.sizeOf t).run P w=.ok r.info.size w:=by simp[Go.sizeOf,l9 hE h]
theorem ma{z:Value}(hz:r.info.zero=some z):(zeroValue t).run P w=.ok z w:=by simp[zeroValue,l9 hE h,hz]
theorem pQ:(isAgg t).run P w=.ok (bG r.bg) w:=by
 unfold isAgg;simp only[Sem.run_bind,ba hE h,Result.andThen_ok];cases r.bg<;>rfl
end
structure cE(γ:aK)(n:Nat)(t:ax)(a:Act):Prop where
 size:n<=a.tmps.size
 defers:a.defers=[]
 get:∀i v,t.get i=some v->∃x,a.tmps[i]?=some x/\an γ v x
theorem kJ(γ:aK):∀l:List Value,az γ (l.map .lit) l
 | []=>by simp[az]
 | v::l=>by
   simp only[List.map_cons,az];exact ⟨v,l,rfl,rfl,kJ γ l⟩
theorem aM(γ:aK)(v:Value):an γ (.lit v) v:=by simp[an]
theorem al{γ:aK}{v x:Value}:an γ (.lit v) x↔x=v:=by simp[an]
theorem cN(γ:aK)(v:Value):an γ (ofValue v) v:=by
 unfold ofValue;split
 ·simp only[an];exact ⟨_,rfl,kJ γ _⟩
 ·exact aM γ _
def o2(γ:aK)(t:ax)(ρ:Operand->Value):Prop:=∀x v,aE t x=some v->an γ v (ρ x)
theorem cE.aE{γ:aK}{n:Nat}{t:ax}{a:Act}(h:cE γ n t a):o2 γ t a.eval:=by
 intro x v hv;cases x with
 | tmp i=>
   obtain ⟨y,hy,hc⟩:=h.get i v hv;simp only[Act.eval,Array.getD_eq_getD_getElem?,hy,Option.getD_some];exact hc
 | const c=>simp only[Go.Proofs.YtmbdghclhpboaaaGreat.Ev.aE,Option.some.injEq] at hv;subst hv;exact cN γ c
 | global g=>simp[Go.Proofs.YtmbdghclhpboaaaGreat.Ev.aE] at hv
 | func f=>simp only[Go.Proofs.YtmbdghclhpboaaaGreat.Ev.aE,Option.some.injEq] at hv;subst hv;exact aM γ _
theorem bp{γ:aK}:∀{l:List AV} {xs:List Value},az γ l xs->xs.length=l.length
 | [],_,h=>by simp only[az] at h;simp[h]
 | v::l,_,h=>by
   simp only[az] at h;obtain ⟨x,xs,rfl,_,h2⟩:=h;simp[bp h2]
theorem dq{γ:aK}:∀{l:List AV} {xs:List Value},az γ l xs->∀(i:Nat) (v:AV),l[i]?=some v->∃x,xs[i]?=some x/\an γ v x
 | [],_,_,i,v,hv=>by simp at hv
 | u::l,_,h,i,v,hv=>by
   simp only[az] at h;obtain ⟨x,xs,rfl,h1,h2⟩:=h;cases i with
   | zero=>simp only[List.getElem?_cons_zero,Option.some.injEq] at hv;subst hv;exact ⟨x,rfl,h1⟩
   | succ i=>simpa using dq h2 i v (by simpa using hv)
theorem pq{γ:aK}:∀{l:List AV} {xs:List Value},xs.length=l.length->(∀(i:Nat) (v:AV),l[i]?=some v->∃x,xs[i]?=some x/\an γ v x)->az γ l xs
 | [],[],_,_=>by simp[az]
 | [],_::_,h,_=>by simp at h
 | _::_,[],h,_=>by simp at h
 | u::l,x::xs,h,hg=>by
   simp only[az];refine ⟨x,xs,rfl,?_,pq (by simpa using h) fun i v hv=>by simpa using hg (i+1) v (by simpa using hv)⟩;obtain ⟨y,hy,hc⟩:=hg 0 u rfl;simp only[List.getElem?_cons_zero,Option.some.injEq] at hy;subst hy;exact hc
theorem eQ{γ:aK}{l m:List AV}{xs ys:List Value}(h:az γ l xs)(h':az γ m ys):az γ (l++m) (xs++ys):=by
 induction l generalizing xs with
 | nil=>simp only[az] at h;subst h;simpa using h'
 | cons v l ih=>
   simp only[az] at h;obtain ⟨x,xs,rfl,h1,h2⟩:=h;simp only[List.cons_append,az];exact ⟨x,xs++ys,rfl,h1,ih h2⟩
theorem yk{γ:aK}{l:List AV}{xs:List Value}(h:az γ l xs)(n:Nat):az γ (l.drop n) (xs.drop n):=
 pq (by simp[bp h]) fun i v hv=>by
  rw[List.getElem?_drop] at hv ⊢;exact dq h _ v hv
theorem ym{γ:aK}{l:List AV}{xs:List Value}(h:az γ l xs)(n:Nat):az γ (l.take n) (xs.take n):=
 pq (by simp[bp h]) fun i v hv=>by
  rw[List.getElem?_take] at hv ⊢;split at hv
  ·rw[if_pos ‹_›];exact dq h _ v hv
  ·simp at hv
theorem Af{γ:aK}{l vs:List AV}{xs ys:List Value}(h:az γ l xs)(h':az γ vs ys)(off:Nat):az γ (setFrom l off vs) (setFrom xs off ys):=by
 unfold setFrom;rw[<-bp h'];exact eQ (eQ (ym h _) h') (yk h _)
theorem eY{γ:aK}{t:ax}{ρ:Operand->Value}(h:o2 γ t ρ):∀{l:List Operand} {vs:List AV},jN t l=some vs->az γ vs (l.map ρ)
 | [],vs,hv=>by simp only[jN,List.map_nil,dY,Option.some.injEq] at hv;subst hv;simp[az]
 | x::l,vs,hv=>by
   simp only[jN,List.map_cons] at hv;cases hx:Go.Proofs.YtmbdghclhpboaaaGreat.Ev.aE t x with
   | none=>rw[hx] at hv;simp[dY] at hv
   | some v=>
     rw[hx] at hv;simp only[dY] at hv;cases hr:dY (l.map (Go.Proofs.YtmbdghclhpboaaaGreat.Ev.aE t)) with
     | none=>rw[hr] at hv;simp at hv
     | some vs'=>
       rw[hr] at hv;simp only[Option.some.injEq] at hv;subst hv;simp only[az,List.map_cons];exact ⟨_,_,rfl,h x v hx,eY h hr⟩
theorem eX{γ:aK}{v:AV}{x:Value}(h:an γ v x):az γ v.cells x.cells.toList:=by
 cases v with
 | lit u=>
   rw[al] at h;subst h;cases x<;>simp only[AV.cells,Value.cells]<;>first|exact kJ γ _|(simp only[az];exact ⟨_,_,rfl,aM γ _,rfl⟩)
 | agg l=>
   simp only[an] at h;obtain ⟨a,rfl,h⟩:=h;simpa only[AV.cells,Value.cells] using h
 | ptr o off=>have h':=h;simp only[an] at h';obtain ⟨a,rfl,_⟩:=h';simp only[AV.cells,Value.cells,az];exact ⟨_,_,rfl,h,rfl⟩
 | slice o off len cap=>have h':=h;simp only[an] at h';obtain ⟨a,c,rfl,_⟩:=h';simp only[AV.cells,Value.cells,az];exact ⟨_,_,rfl,h,rfl⟩
 | map o=>have h':=h;simp only[an] at h';obtain ⟨a,rfl,_⟩:=h';simp only[AV.cells,Value.cells,az];exact ⟨_,_,rfl,h,rfl⟩
 | func f a b=>have h':=h;simp only[an] at h';obtain ⟨a,b,rfl,_⟩:=h';simp only[AV.cells,Value.cells,az];exact ⟨_,_,rfl,h,rfl⟩
 | iface ty u=>have h':=h;simp only[an] at h';obtain ⟨a,rfl,_⟩:=h';simp only[AV.cells,Value.cells,az];exact ⟨_,_,rfl,h,rfl⟩
 | tuple l=>have h':=h;simp only[an] at h';obtain ⟨a,rfl,_⟩:=h';simp only[AV.cells,Value.cells,az];exact ⟨_,_,rfl,h,rfl⟩
theorem C3{γ:aK}{v:AV}{x:Value}(h:an γ v x)(ho:v.one=true):x.oneCell'=true:=by
 cases v with
 | lit u=>rw[al] at h;subst h;cases x<;>simp_all [AV.one,Value.oneCell']
 | agg l=>simp[AV.one] at ho
 | tuple l=>simp[AV.one] at ho
 | ptr o off=>simp only[an] at h;obtain ⟨a,rfl,_⟩:=h;rfl
 | slice o off len cap=>simp only[an] at h;obtain ⟨a,c,rfl,_⟩:=h;rfl
 | map o=>simp only[an] at h;obtain ⟨a,rfl,_⟩:=h;rfl
 | func f a b=>simp only[an] at h;obtain ⟨a,b,rfl,_⟩:=h;rfl
 | iface ty u=>simp only[an] at h;obtain ⟨a,rfl,_⟩:=h;rfl
mutual
theorem iZ{γ:aK}:∀(v:AV) (x y:Value),v.flat=some x->an γ v y->y=x
 | .lit v,x,y,h,hc=>by
   simp only[AV.flat,Option.some.injEq] at h;rw[al] at hc;rw[hc,h]
 | .agg l,x,y,h,hc=>by
   simp only[AV.flat] at h;split at h
   ·rename_i xs hx;simp only[Option.some.injEq] at h;simp only[an] at hc;obtain ⟨a,rfl,ha⟩:=hc;have:=kL l xs _ hx ha;subst h;rw[<-this]
   ·cases h
 | .tuple l,x,y,h,hc=>by
   simp only[AV.flat] at h;split at h
   ·rename_i xs hx;simp only[Option.some.injEq] at h;simp only[an] at hc;obtain ⟨a,rfl,ha⟩:=hc;have:=kL l xs _ hx ha;subst h;rw[<-this]
   ·cases h
 | .iface t v,x,y,h,hc=>by
   simp only[AV.flat] at h;split at h
   ·rename_i z hz;simp only[Option.some.injEq] at h;simp only[an] at hc;obtain ⟨a,rfl,ha⟩:=hc;rw[iZ v z a hz ha,h]
   ·cases h
 | .ptr ..,_,_,h,_|.slice ..,_,_,h,_|.map ..,_,_,h,_|.func ..,_,_,h,_=>by simp[AV.flat] at h
theorem kL{γ:aK}:∀(l:List AV) (xs ys:List Value),AV.jP l=some xs->az γ l ys->ys=xs
 | [],xs,ys,h,hc=>by
   simp only[AV.jP,Option.some.injEq] at h;simp only[az] at hc;rw[hc,h]
 | v::l,xs,ys,h,hc=>by
   simp only[AV.jP] at h;split at h
   ·rename_i x zs h1 h2;simp only[Option.some.injEq] at h;simp only[az] at hc;obtain ⟨y,ZH,rfl,c1,c2⟩:=hc;rw[iZ v x y h1 c1,kL l zs ZH h2 c2,h]
   ·cases h
end
mutual
theorem kx{γ:aK}:∀(v:AV) (x:Value),v.flat=some x->an γ v x
 | .lit v,x,h=>by
   simp only[AV.flat,Option.some.injEq] at h;rw[al,h]
 | .agg l,x,h=>by
   simp only[AV.flat] at h;split at h
   ·rename_i xs hx;simp only[Option.some.injEq] at h;subst h;simp only[an];exact ⟨_,rfl,hY l xs hx⟩
   ·cases h
 | .tuple l,x,h=>by
   simp only[AV.flat] at h;split at h
   ·rename_i xs hx;simp only[Option.some.injEq] at h;subst h;simp only[an];exact ⟨_,rfl,hY l xs hx⟩
   ·cases h
 | .iface t v,x,h=>by
   simp only[AV.flat] at h;split at h
   ·rename_i z hz;simp only[Option.some.injEq] at h;subst h;simp only[an];exact ⟨z,rfl,kx v z hz⟩
   ·cases h
 | .ptr ..,_,h|.slice ..,_,h|.map ..,_,h|.func ..,_,h=>by simp[AV.flat] at h
theorem hY{γ:aK}:∀(l:List AV) (xs:List Value),AV.jP l=some xs->az γ l xs
 | [],xs,h=>by
   simp only[AV.jP,Option.some.injEq] at h;subst h;simp[az]
 | v::l,xs,h=>by
   simp only[AV.jP] at h;split at h
   ·rename_i x zs h1 h2;simp only[Option.some.injEq] at h;subst h;simp only[az];exact ⟨x,zs,rfl,kx v x h1,hY l zs h2⟩
   ·cases h
end
end Go.Proofs.YtmbdghclhpboaaaGreat.Ev
namespace Go.Proofs.YtmbdghclhpboaaaGreat.Ev
theorem kG(b o j:Nat):(⟨b,o,none⟩:Addr).add j=⟨b,o+j,none⟩:=by
 unfold Addr.add;by_cases hj:j=0<;>simp[hj]
section
variable{P:Program}{E:Env}(hE:ch P E){γ:aK}{σ:AS}{w:World}
include hE
theorem Hx{t:TypeId}{cs:List AV}{xs:Array Value}{off:Nat}{v:AV}(h:partOf E t cs off=some v)(hc:az γ cs xs.toList) :
  ∃x,(part t xs off).run P w=.ok x w/\an γ v x:=by
 unfold partOf at h;cases hr:E.ty t with
 | none=>rw[hr] at h;simp at h
 | some r=>
   rw[hr] at h;simp only[] at h;unfold part;simp only[Sem.run_bind,pQ hE hr,Result.andThen_ok];cases ha:bG r.bg with
   | true=>
     rw[ha] at h;simp only[] at h;split at h
     ·rename_i hle;have hle:=Nat.le_of_ble_eq_true hle;simp only[Option.some.injEq] at h;subst h;simp only[if_true,Sem.run_bind,bT hE hr,Result.andThen_ok,Sem.run_pure];refine ⟨_,rfl,?_⟩;simp only[an];refine ⟨_,rfl,?_⟩;have:=ym (yk hc off) r.info.size;rw[Array.toList_extract,List.extract_eq_take_drop];rwa [Nat.add_sub_cancel_left]
     ·simp at h
   | false=>
     rw[ha] at h;simp only[] at h;obtain ⟨x,hx,kA⟩:=dq hc off v h;have xA:xs[off]?=some x:=by simpa using hx
     simp only[Bool.false_eq_true,if_false,xA,Sem.run_pure];exact ⟨x,rfl,kA⟩
theorem Hg(hR:Rel γ σ w){t:TypeId}{o off:Nat}{a:Addr}{v:AV}(h:loadAt E σ t o off=some v)(ha:gz γ o off a) :
  ∃x,(loadVar t a).run P w=.ok x w/\an γ v x:=by
 unfold loadAt at h;split at h
 ·rename_i l elem hg;obtain ⟨p,hp,sh⟩:=hR.find hg (by simp) ha.ne;obtain rfl:=ha.at hp;obtain ⟨c,hb,hs,hl,oE⟩:=sh;have AH:∀i u,l[i]?=some u->∃x,w.cell? ⟨p.block,p.base+i,none⟩=some x/\an γ u x:=by
   intro i u hu;obtain ⟨x,hx,kA⟩:=oE i u hu;exact ⟨x,by simp[World.cell?,hb,hx],kA⟩
  unfold partOf at h;cases hr:E.ty t with
  | none=>rw[hr] at h;simp at h
  | some r=>
    rw[hr] at h;simp only[] at h;unfold loadVar;simp only[Sem.run_bind,pQ hE hr,Result.andThen_ok];cases lk:bG r.bg with
    | true=>
      rw[lk] at h;simp only[] at h;split at h
      ·rename_i hle;have hle:=Nat.le_of_ble_eq_true hle;simp only[Option.some.injEq] at h;subst h;have hlen:((c.toList.drop (p.base+off)).take r.info.size).length=r.info.size:=by
        simp;omega
       have cW:=run_loadCells_list (P:=P) w ⟨p.block,p.base+off,none⟩ ((c.toList.drop (p.base+off)).take r.info.size) (by
        intro j u hu;rw[kG];have hj:j<r.info.size:=by
         have:=(List.getElem?_eq_some_iff.1 hu).1;rw[hlen] at this;exact this
        rw[List.getElem?_take,if_pos hj,List.getElem?_drop] at hu;simp only[World.cell?,hb,Option.isSome_none,Bool.false_eq_true,if_false];simpa using hu)
       rw[hlen] at cW;simp only[if_true,Sem.run_bind,bT hE hr,Result.andThen_ok,cW,Sem.run_pure];refine ⟨_,rfl,?_⟩;simp only[an];refine ⟨_,rfl,?_⟩;simp only[];refine pq (by rw[hlen];simp;omega) fun i u hu=>?_;rw[List.getElem?_take] at hu;split at hu
       ·rename_i hi;rw[List.getElem?_drop] at hu;obtain ⟨x,hx,kA⟩:=oE _ u hu;refine ⟨x,?_,kA⟩;rw[List.getElem?_take,if_pos hi,List.getElem?_drop,Nat.add_assoc];simpa using hx
       ·simp at hu
      ·simp at h
    | false=>
      rw[lk] at h;simp only[] at h;obtain ⟨x,hx,kA⟩:=AH off v h;simp only[Bool.false_eq_true,if_false,run_load,hx];exact ⟨x,rfl,kA⟩
 ·simp at h
end
end Go.Proofs.YtmbdghclhpboaaaGreat.Ev

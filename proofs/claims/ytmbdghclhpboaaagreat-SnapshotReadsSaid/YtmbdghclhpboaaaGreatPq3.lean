/- Part of the proof: EvD. Conditions: as each states. -/
import Derived.Test.YtmbdghclhpboaaaGreatPq2
set_option linter.all false
namespace Go.Proofs.YtmbdghclhpboaaaGreat.Ev
theorem Fo{i:Nat}(h:Nat.beq i 0=true):i=0:=nQ1 h
theorem Fm{i:Nat}(h:Nat.beq i 0=false):i≠0:=Nat.ne_of_beq_eq_false h
theorem T.Yg{α:Type}(a:α)(f i:Nat):T.set (f+1) .e i a=T.set (f+1) (.n none .e .e) i a:=by
 cases i with
 | zero=>rfl
 | succ i=>simp only[T.set]
theorem T.WO{α:Type}(j:Nat):(T.n (none:Option α) .e .e).get j=none:=by
 cases j with
 | zero=>rfl
 | succ j=>simp only[T.get];split<;>rfl
theorem T.kO{α:Type}(a:α):∀(f:Nat) (t:T α) (i j:Nat),i+1<2 ^ f->(T.set f t i a).get j=if j=i then some a else t.get j:=by
 intro f;induction f with
 | zero=>intro t i j h;simp at h
 | succ f ih=>
   have main:∀(v:Option α) (l r:T α) (i j:Nat),i+1<2 ^ (f+1)->(T.set (f+1) (.n v l r) i a).get j=if j=i then some a else (T.n v l r).get j:=by
    intro v l r i j h;have hp:2 ^ (f+1)=2 * 2 ^ f:=by rw[Nat.pow_succ];omega
    cases i with
    | zero=>
      cases j with
      | zero=>simp[T.set,T.get]
      | succ j=>simp[T.set,T.get]
    | succ i=>
      have hk:i / 2+1<2 ^ f:=by omega
      simp only[T.set];cases hb:Nat.beq (i % 2) 0<;>simp only[]<;>cases j with
      | zero=>simp[T.get]
      | succ j=>
        simp only[T.get];cases pQ:Nat.beq (j % 2) 0<;>simp only[]<;>try rw[ih _ _ _ hk]
        all_goals
         first|have h1:=Fo hb|have h1:=Fm hb
         first|have h2:=Fo pQ|have h2:=Fm pQ
         by_cases pS:j=i
         ·subst pS;first|(exfalso;omega)|simp
         ·rw[if_neg (by omega:¬j+1=i+1)]
          try rw[if_neg (by omega)]
   intro t i j h;cases t with
   | n v l r=>exact main v l r i j h
   | e=>rw[T.Yg,main none .e .e i j h,T.WO];rfl
theorem T.bN{α:Type}(t:T α)(i j:Nat)(a:α)(h:i<=aY):(t.put i a).get j=if j=i then some a else t.get j:=
 T.kO a 21 t i j (by unfold aY at h;omega)
structure Place where
 block:Nat
 base:Nat
 top:Nat
abbrev aT:=Nat->Option (Option Place)
def gY(γ:aT)(o off:Nat)(a:Addr):Prop:=
 match γ o with
 | none=>False
 | some none=>True
 | some (some p)=>a=⟨p.block,p.base+off,none⟩
def pa(γ:aT)(o n:Nat):Prop:=
 match γ o with
 | none=>False
 | some none=>True
 | some (some p)=>p.base+n<=p.top
def mw(γ:aT)(o r:Nat):Prop:=
 match γ o with
 | none=>False
 | some none=>True
 | some (some p)=>r=p.block
mutual
def aw(γ:aT):AV->Value->Prop
 | .lit v,x=>x=v
 | .ptr o off,x=>∃a,x=.pointer (some a)/\gY γ o off a
 | .slice o off len cap,x=>∃a c,x=.slice (some a) len c/\(c=0\/gY γ o off a)/\len<=c/\(match cap with
   | .k n=>c=n
   | .grown size=>pa γ o (off+c * size))
 | .map o,x=>∃r,x=.map (some r)/\mw γ o r
 | .func fn a b,x=>∃a' b':Array Value,x=.func fn a' b'/\aG γ a a'.toList/\aG γ b b'.toList
 | .iface t v,x=>∃y,x=.iface t y/\aw γ v y
 | .agg l,x=>∃a:Array Value,x=.agg a/\aG γ l a.toList
 | .tuple l,x=>∃a:Array Value,x=.tuple a/\aG γ l a.toList
def aG(γ:aT):List AV->List Value->Prop
 | [],l=>l=[]
 | v::vs,l=>∃x xs,l=x::xs/\aw γ v x/\aG γ vs xs
end
def Ext(γ ay:aT):Prop:=∀o p,γ o=some p->ay o=some p\/ay o=some none
theorem Ext.refl(γ:aT):Ext γ γ:=fun _ _ h=>.inl h
theorem Ext.trans{a b c:aT}(h:Ext a b)(h':Ext b c):Ext a c:=fun o p hp=>by
 rcases h o p hp with e|e
 ·exact h' o p e
 ·rcases h' o none e with e'|e'<;>exact .inr e'
theorem gY.mono{γ ay:aT}(h:Ext γ ay){o off:Nat}{a:Addr}(ha:gY γ o off a):gY ay o off a:=by
 unfold gY at *;cases hg:γ o with
 | none=>rw[hg] at ha;exact ha.elim
 | some p=>
   rcases h o p hg with e|e
   ·rw[e];rw[hg] at ha;exact ha
   ·rw[e];trivial
theorem pa.mono{γ ay:aT}(h:Ext γ ay){o n:Nat}(ha:pa γ o n):pa ay o n:=by
 unfold pa at *;cases hg:γ o with
 | none=>rw[hg] at ha;exact ha.elim
 | some p=>
   rcases h o p hg with e|e
   ·rw[e];rw[hg] at ha;exact ha
   ·rw[e];trivial
theorem mw.mono{γ ay:aT}(h:Ext γ ay){o n:Nat}(ha:mw γ o n):mw ay o n:=by
 unfold mw at *;cases hg:γ o with
 | none=>rw[hg] at ha;exact ha.elim
 | some p=>
   rcases h o p hg with e|e
   ·rw[e];rw[hg] at ha;exact ha
   ·rw[e];trivial
mutual
theorem aw.mono{γ ay:aT}(h:Ext γ ay):∀(v:AV) (x:Value),aw γ v x->aw ay v x
 | .lit _,_,hx=>by unfold aw at *;exact hx
 | .ptr _ _,_,hx=>by
   unfold aw at *;obtain ⟨a,e,ha⟩:=hx;exact ⟨a,e,ha.mono h⟩
 | .slice _ _ _ cap,_,hx=>by
   unfold aw at *;obtain ⟨a,c,e,ha,hl,hc⟩:=hx;refine ⟨a,c,e,ha.imp id (gY.mono h),hl,?_⟩;cases cap with
   | k n=>exact hc
   | grown s=>exact pa.mono h hc
 | .map _,_,hx=>by
   unfold aw at *;obtain ⟨r,e,hr⟩:=hx;exact ⟨r,e,hr.mono h⟩
 | .func _ l m,_,hx=>by
   unfold aw at *;obtain ⟨a,b,e,h1,h2⟩:=hx;exact ⟨a,b,e,aG.mono h l _ h1,aG.mono h m _ h2⟩
 | .iface _ v,_,hx=>by
   unfold aw at *;obtain ⟨y,e,hy⟩:=hx;exact ⟨y,e,aw.mono h v y hy⟩
 | .agg l,_,hx=>by
   unfold aw at *;obtain ⟨a,e,h1⟩:=hx;exact ⟨a,e,aG.mono h l _ h1⟩
 | .tuple l,_,hx=>by
   unfold aw at *;obtain ⟨a,e,h1⟩:=hx;exact ⟨a,e,aG.mono h l _ h1⟩
theorem aG.mono{γ ay:aT}(h:Ext γ ay):∀(l:List AV) (x:List Value),aG γ l x->aG ay l x
 | [],_,hx=>by unfold aG at *;exact hx
 | v::vs,_,hx=>by
   unfold aG at *;obtain ⟨x,xs,e,h1,h2⟩:=hx;exact ⟨x,xs,e,aw.mono h v x h1,aG.mono h vs xs h2⟩
end
def bf(γ:aT):List (AV×AV×Nat)->List MapEntry->Prop
 | [],l=>l=[]
 | (k,v,b)::es,l=>∃k' v' rest,l=⟨k',v',b⟩::rest/\aw γ k k'/\aw γ v v'/\bf γ es rest
def eo(γ:aT)(ob:ai)(p:Place)(w:World):Prop:=
 match ob with
 | .cells l elem=>∃c,w.heap[p.block]?=some (.cells c elem (0,0))/\(c.size=p.top/\(BD elem=true->p.base=0/\l.length=p.top))/\p.base+l.length<=p.top/\∀i v,l[i]?=some v->∃x,c[p.base+i]?=some x/\aw γ v x
 | .row xs elem=>∃c,w.heap[p.block]?=some (.cells c elem (0,0))/\(c.size=p.top/\(BD elem=true->p.base=0/\xs.length=p.top))/\p.base+xs.length<=p.top/\∀i x,xs[i]?=some x->c[p.base+i]?=some x
 | .res _=>False
 | .bE es=>∃es' clock,w.heap[p.block]?=some (.map es' clock)/\es'.toList.map (fun e=>(e.key,e.val))=es/\((∀e∈es,tS e.1=true)->Go.MapKept.Stamped es' clock)
 | .map es clock=>∃es':Array MapEntry,w.heap[p.block]?=some (.map es' clock)/\bf γ es es'.toList
 | .iter m since seen nH=>p.base=0/\∃r,w.heap[p.block]?=some (.mapIter (some r) since seen.toArray nH)/\mw γ m r
 | .dead=>True
structure Rel(γ:aT)(σ:AS)(w:World):Prop where
 j6:∀o,σ.next<=o->γ o=none
 obj:∀o p,γ o=some (some p)->∃ob,σ.heap.get o=some ob/\eo γ ob p w
 gone:∀o,γ o=some none->σ.heap.get o=some .dead
 inj:∀o o' p p',γ o=some (some p)->γ o'=some (some p')->p.block=p'.block->o=o'
 aY:σ.next<=aY
structure Step(γ:aT)(σ:AS)(ay:aT)(cJ:AS):Prop where
 ext:Ext γ ay
 new:∀o,o<σ.next->γ o=none->ay o=none
 le:σ.next<=cJ.next
 same:∀o,o<σ.next->γ o=none->cJ.heap.get o=σ.heap.get o
theorem Step.refl(γ:aT)(σ:AS):Step γ σ γ σ:=⟨.refl γ,fun _ _ h=>h,Nat.le_refl _,fun _ _ _=>rfl⟩
theorem Step.trans{γ fD hY:aT}{σ gL rR:AS}(h:Step γ σ fD gL)(h':Step fD gL hY rR):Step γ σ hY rR:=
 ⟨h.ext.trans h'.ext,fun o ho hg=>h'.new o (Nat.lt_of_lt_of_le ho h.le) (h.new o ho hg),Nat.le_trans h.le h'.le,
  fun o ho hg=>(h'.same o (Nat.lt_of_lt_of_le ho h.le) (h.new o ho hg)).trans (h.same o ho hg)⟩
theorem Rel.find{γ:aT}{σ:AS}{w:World}(h:Rel γ σ w){o:Nat}{ob:ai}(hg:σ.heap.get o=some ob)(hd:ob≠.dead)(hn:γ o≠none) :
  ∃p,γ o=some (some p)/\eo γ ob p w:=by
 cases hp:γ o with
 | none=>exact absurd hp hn
 | some q=>
   cases q with
   | none=>
     have:=h.gone o hp;rw[hg] at this;exact absurd (Option.some.inj this) hd
   | some p=>
     obtain ⟨dq,h1,h2⟩:=h.obj o p hp;rw[hg] at h1;cases h1
     exact ⟨p,rfl,h2⟩
theorem gY.ne{γ:aT}{o off:Nat}{a:Addr}(h:gY γ o off a):γ o≠none:=fun e=>by unfold gY at h;rw[e] at h;exact h
theorem mw.ne{γ:aT}{o r:Nat}(h:mw γ o r):γ o≠none:=fun e=>by unfold mw at h;rw[e] at h;exact h
theorem gY.at{γ:aT}{o off:Nat}{a:Addr}{p:Place}(h:gY γ o off a)(hp:γ o=some (some p)):a=⟨p.block,p.base+off,none⟩:=by
 unfold gY at h;rw[hp] at h;exact h
theorem mw.at{γ:aT}{o r:Nat}{p:Place}(h:mw γ o r)(hp:γ o=some (some p)):r=p.block:=by
 unfold mw at h;rw[hp] at h;exact h
structure cL(P:Program)(E:Env):Prop where
 info:∀t r,E.ty t=some r->∀w,(typeInfo t).run P w=.ok r.info w
 bp:∀t r,E.ty t=some r->P.underlying t=some r.bp
 fn:∀f fn,E.fn f=some fn->P.funcs[f]?=some fn/\∀args w,(callFunc f args).run P w=.ok (.enter f args) w
 wide:P.follows .mixedOrders=true
 guard:∀t r n,E.ty t=some r->r.flat=some n->P.eqGuardType P.depth t=false
 eq:∀t r n,E.ty t=some r->r.flat=some n->∀(xs ys:List Value) b w,xs.length=n->ys.length=n->fits r.kinds (xs.map .lit)=true->bz (xs.map .lit) (ys.map .lit)=some b ->
  (Op.equalIn Op.maxDepth t (.agg xs.toArray) (.agg ys.toArray)).run P w=.ok b w
 key:∀t r n k e,E.ty t=some r->r.flat=some n->r.bp=.array k e->∀(xs:List Value) b w,xs.length=n->(Instr.checkKey b 10000 t (.agg xs.toArray)).run P w=.ok () w
section
variable{P:Program}{E:Env}(hE:cL P E){t:TypeId}{r:dd}(h:E.ty t=some r)(w:World)
include hE h
theorem bn:(underlying t).run P w=.ok r.bp w:=run_underlying (hE.bp t r h) w
theorem mT:(typeInfo t).run P w=.ok r.info w:=hE.info t r h w
theorem bY:(Go.sizeOf t).run P w=.ok r.info.size w:=by simp[Go.sizeOf,mT hE h]
theorem mU{z:Value}(hz:r.info.zero=some z):(zeroValue t).run P w=.ok z w:=by simp[zeroValue,mT hE h,hz]
theorem qD:(isAgg t).run P w=.ok (bQ r.bp) w:=by
 unfold isAgg;simp only[Sem.run_bind,bn hE h,Result.andThen_ok];cases r.bp<;>rfl
end
structure cW(γ:aT)(n:Nat)(t:aE)(a:Act):Prop where
 size:n<=a.tmps.size
 defers:a.defers=[]
 get:∀i v,t.get i=some v->∃x,a.tmps[i]?=some x/\aw γ v x
theorem lz(γ:aT):∀l:List Value,aG γ (l.map .lit) l
 | []=>by simp[aG]
 | v::l=>by
   simp only[List.map_cons,aG];exact ⟨v,l,rfl,rfl,lz γ l⟩
theorem aS(γ:aT)(v:Value):aw γ (.lit v) v:=by simp[aw]
theorem au{γ:aT}{v x:Value}:aw γ (.lit v) x↔x=v:=by simp[aw]
theorem dg(γ:aT)(v:Value):aw γ (ofValue v) v:=by
 unfold ofValue;split
 ·simp only[aw];exact ⟨_,rfl,lz γ _⟩
 ·exact aS γ _
def pM(γ:aT)(t:aE)(ρ:Operand->Value):Prop:=∀x v,aL t x=some v->aw γ v (ρ x)
theorem cW.aL{γ:aT}{n:Nat}{t:aE}{a:Act}(h:cW γ n t a):pM γ t a.eval:=by
 intro x v hv;cases x with
 | tmp i=>
   obtain ⟨y,hy,hc⟩:=h.get i v hv;simp only[Act.eval,Array.getD_eq_getD_getElem?,hy,Option.getD_some];exact hc
 | const c=>simp only[Go.Proofs.YtmbdghclhpboaaaGreat.Ev.aL,Option.some.injEq] at hv;subst hv;exact dg γ c
 | global g=>simp[Go.Proofs.YtmbdghclhpboaaaGreat.Ev.aL] at hv
 | func f=>simp only[Go.Proofs.YtmbdghclhpboaaaGreat.Ev.aL,Option.some.injEq] at hv;subst hv;exact aS γ _
theorem bB{γ:aT}:∀{l:List AV} {xs:List Value},aG γ l xs->xs.length=l.length
 | [],_,h=>by simp only[aG] at h;simp[h]
 | v::l,_,h=>by
   simp only[aG] at h;obtain ⟨x,xs,rfl,_,h2⟩:=h;simp[bB h2]
theorem dQ{γ:aT}:∀{l:List AV} {xs:List Value},aG γ l xs->∀(i:Nat) (v:AV),l[i]?=some v->∃x,xs[i]?=some x/\aw γ v x
 | [],_,_,i,v,hv=>by simp at hv
 | u::l,_,h,i,v,hv=>by
   simp only[aG] at h;obtain ⟨x,xs,rfl,h1,h2⟩:=h;cases i with
   | zero=>simp only[List.getElem?_cons_zero,Option.some.injEq] at hv;subst hv;exact ⟨x,rfl,h1⟩
   | succ i=>simpa using dQ h2 i v (by simpa using hv)
theorem qc{γ:aT}:∀{l:List AV} {xs:List Value},xs.length=l.length->(∀(i:Nat) (v:AV),l[i]?=some v->∃x,xs[i]?=some x/\aw γ v x)->aG γ l xs
 | [],[],_,_=>by simp[aG]
 | [],_::_,h,_=>by simp at h
 | _::_,[],h,_=>by simp at h
 | u::l,x::xs,h,hg=>by
   simp only[aG];refine ⟨x,xs,rfl,?_,qc (by simpa using h) fun i v hv=>by simpa using hg (i+1) v (by simpa using hv)⟩;obtain ⟨y,hy,hc⟩:=hg 0 u rfl;simp only[List.getElem?_cons_zero,Option.some.injEq] at hy;subst hy;exact hc
theorem fA{γ:aT}{l m:List AV}{xs ys:List Value}(h:aG γ l xs)(h':aG γ m ys):aG γ (l++m) (xs++ys):=by
 induction l generalizing xs with
 | nil=>simp only[aG] at h;subst h;simpa using h'
 | cons v l ih=>
   simp only[aG] at h;obtain ⟨x,xs,rfl,h1,h2⟩:=h;simp only[List.cons_append,aG];exact ⟨x,xs++ys,rfl,h1,ih h2⟩
theorem zi{γ:aT}{l:List AV}{xs:List Value}(h:aG γ l xs)(n:Nat):aG γ (l.drop n) (xs.drop n):=
 qc (by simp[bB h]) fun i v hv=>by
  rw[List.getElem?_drop] at hv ⊢;exact dQ h _ v hv
theorem zk{γ:aT}{l:List AV}{xs:List Value}(h:aG γ l xs)(n:Nat):aG γ (l.take n) (xs.take n):=
 qc (by simp[bB h]) fun i v hv=>by
  rw[List.getElem?_take] at hv ⊢;split at hv
  ·rw[if_pos ‹_›];exact dQ h _ v hv
  ·simp at hv
theorem Bq{γ:aT}{l vs:List AV}{xs ys:List Value}(h:aG γ l xs)(h':aG γ vs ys)(off:Nat):aG γ (setFrom l off vs) (setFrom xs off ys):=by
 unfold setFrom;rw[<-bB h'];exact fA (fA (zk h _) h') (zi h _)
theorem fI{γ:aT}{t:aE}{ρ:Operand->Value}(h:pM γ t ρ):∀{l:List Operand} {vs:List AV},kD t l=some vs->aG γ vs (l.map ρ)
 | [],vs,hv=>by simp only[kD,List.map_nil,eO,Option.some.injEq] at hv;subst hv;simp[aG]
 | x::l,vs,hv=>by
   simp only[kD,List.map_cons] at hv;cases hx:Go.Proofs.YtmbdghclhpboaaaGreat.Ev.aL t x with
   | none=>rw[hx] at hv;simp[eO] at hv
   | some v=>
     rw[hx] at hv;simp only[eO] at hv;cases hr:eO (l.map (Go.Proofs.YtmbdghclhpboaaaGreat.Ev.aL t)) with
     | none=>rw[hr] at hv;simp at hv
     | some vs'=>
       rw[hr] at hv;simp only[Option.some.injEq] at hv;subst hv;simp only[aG,List.map_cons];exact ⟨_,_,rfl,h x v hx,fI h hr⟩
theorem fH{γ:aT}{v:AV}{x:Value}(h:aw γ v x):aG γ v.cells x.cells.toList:=by
 cases v with
 | lit u=>
   rw[au] at h;subst h;cases x<;>simp only[AV.cells,Value.cells]<;>first|exact lz γ _|(simp only[aG];exact ⟨_,_,rfl,aS γ _,rfl⟩)
 | agg l=>
   simp only[aw] at h;obtain ⟨a,rfl,h⟩:=h;simpa only[AV.cells,Value.cells] using h
 | ptr o off=>have h':=h;simp only[aw] at h';obtain ⟨a,rfl,_⟩:=h';simp only[AV.cells,Value.cells,aG];exact ⟨_,_,rfl,h,rfl⟩
 | slice o off len cap=>have h':=h;simp only[aw] at h';obtain ⟨a,c,rfl,_⟩:=h';simp only[AV.cells,Value.cells,aG];exact ⟨_,_,rfl,h,rfl⟩
 | map o=>have h':=h;simp only[aw] at h';obtain ⟨a,rfl,_⟩:=h';simp only[AV.cells,Value.cells,aG];exact ⟨_,_,rfl,h,rfl⟩
 | func f a b=>have h':=h;simp only[aw] at h';obtain ⟨a,b,rfl,_⟩:=h';simp only[AV.cells,Value.cells,aG];exact ⟨_,_,rfl,h,rfl⟩
 | iface ty u=>have h':=h;simp only[aw] at h';obtain ⟨a,rfl,_⟩:=h';simp only[AV.cells,Value.cells,aG];exact ⟨_,_,rfl,h,rfl⟩
 | tuple l=>have h':=h;simp only[aw] at h';obtain ⟨a,rfl,_⟩:=h';simp only[AV.cells,Value.cells,aG];exact ⟨_,_,rfl,h,rfl⟩
theorem D6{γ:aT}{v:AV}{x:Value}(h:aw γ v x)(ho:v.one=true):x.oneCell'=true:=by
 cases v with
 | lit u=>rw[au] at h;subst h;cases x<;>simp_all [AV.one,Value.oneCell']
 | agg l=>simp[AV.one] at ho
 | tuple l=>simp[AV.one] at ho
 | ptr o off=>simp only[aw] at h;obtain ⟨a,rfl,_⟩:=h;rfl
 | slice o off len cap=>simp only[aw] at h;obtain ⟨a,c,rfl,_⟩:=h;rfl
 | map o=>simp only[aw] at h;obtain ⟨a,rfl,_⟩:=h;rfl
 | func f a b=>simp only[aw] at h;obtain ⟨a,b,rfl,_⟩:=h;rfl
 | iface ty u=>simp only[aw] at h;obtain ⟨a,rfl,_⟩:=h;rfl
mutual
theorem jI{γ:aT}:∀(v:AV) (x y:Value),v.flat=some x->aw γ v y->y=x
 | .lit v,x,y,h,hc=>by
   simp only[AV.flat,Option.some.injEq] at h;rw[au] at hc;rw[hc,h]
 | .agg l,x,y,h,hc=>by
   simp only[AV.flat] at h;split at h
   ·rename_i xs hx;simp only[Option.some.injEq] at h;simp only[aw] at hc;obtain ⟨a,rfl,ha⟩:=hc;have:=jJ l xs _ hx ha;subst h;rw[<-this]
   ·cases h
 | .tuple l,x,y,h,hc=>by
   simp only[AV.flat] at h;split at h
   ·rename_i xs hx;simp only[Option.some.injEq] at h;simp only[aw] at hc;obtain ⟨a,rfl,ha⟩:=hc;have:=jJ l xs _ hx ha;subst h;rw[<-this]
   ·cases h
 | .iface t v,x,y,h,hc=>by
   simp only[AV.flat] at h;split at h
   ·rename_i z hz;simp only[Option.some.injEq] at h;simp only[aw] at hc;obtain ⟨a,rfl,ha⟩:=hc;rw[jI v z a hz ha,h]
   ·cases h
 | .ptr ..,_,_,h,_|.slice ..,_,_,h,_|.map ..,_,_,h,_|.func ..,_,_,h,_=>by simp[AV.flat] at h
theorem jJ{γ:aT}:∀(l:List AV) (xs ys:List Value),AV.kF l=some xs->aG γ l ys->ys=xs
 | [],xs,ys,h,hc=>by
   simp only[AV.kF,Option.some.injEq] at h;simp only[aG] at hc;rw[hc,h]
 | v::l,xs,ys,h,hc=>by
   simp only[AV.kF] at h;split at h
   ·rename_i x zs h1 h2;simp only[Option.some.injEq] at h;simp only[aG] at hc;obtain ⟨y,ys',rfl,c1,c2⟩:=hc;rw[jI v x y h1 c1,jJ l zs ys' h2 c2,h]
   ·cases h
end
mutual
theorem jF{γ:aT}:∀(v:AV) (x:Value),v.flat=some x->aw γ v x
 | .lit v,x,h=>by
   simp only[AV.flat,Option.some.injEq] at h;rw[au,h]
 | .agg l,x,h=>by
   simp only[AV.flat] at h;split at h
   ·rename_i xs hx;simp only[Option.some.injEq] at h;subst h;simp only[aw];exact ⟨_,rfl,iQ l xs hx⟩
   ·cases h
 | .tuple l,x,h=>by
   simp only[AV.flat] at h;split at h
   ·rename_i xs hx;simp only[Option.some.injEq] at h;subst h;simp only[aw];exact ⟨_,rfl,iQ l xs hx⟩
   ·cases h
 | .iface t v,x,h=>by
   simp only[AV.flat] at h;split at h
   ·rename_i z hz;simp only[Option.some.injEq] at h;subst h;simp only[aw];exact ⟨z,rfl,jF v z hz⟩
   ·cases h
 | .ptr ..,_,h|.slice ..,_,h|.map ..,_,h|.func ..,_,h=>by simp[AV.flat] at h
theorem iQ{γ:aT}:∀(l:List AV) (xs:List Value),AV.kF l=some xs->aG γ l xs
 | [],xs,h=>by
   simp only[AV.kF,Option.some.injEq] at h;subst h;simp[aG]
 | v::l,xs,h=>by
   simp only[AV.kF] at h;split at h
   ·rename_i x zs h1 h2;simp only[Option.some.injEq] at h;subst h;simp only[aG];exact ⟨x,zs,rfl,jF v x h1,iQ l zs h2⟩
   ·cases h
end
end Go.Proofs.YtmbdghclhpboaaaGreat.Ev
namespace Go.Proofs.YtmbdghclhpboaaaGreat.Ev
theorem lu(b o j:Nat):(⟨b,o,none⟩:Addr).add j=⟨b,o+j,none⟩:=by
 unfold Addr.add;by_cases hj:j=0<;>simp[hj]
section
variable{P:Program}{E:Env}(hE:cL P E){γ:aT}{σ:AS}{w:World}
include hE
theorem Jd{t:TypeId}{cs:List AV}{xs:Array Value}{off:Nat}{v:AV}(h:partOf E t cs off=some v)(hc:aG γ cs xs.toList) :
  ∃x,(part t xs off).run P w=.ok x w/\aw γ v x:=by
 unfold partOf at h;cases hr:E.ty t with
 | none=>rw[hr] at h;simp at h
 | some r=>
   rw[hr] at h;simp only[] at h;unfold part;simp only[Sem.run_bind,qD hE hr,Result.andThen_ok];cases ha:bQ r.bp with
   | true=>
     rw[ha] at h;simp only[] at h;split at h
     ·rename_i hle;have hle:=nB1 hle;simp only[Option.some.injEq] at h;subst h;simp only[if_true,Sem.run_bind,bY hE hr,Result.andThen_ok,Sem.run_pure];refine ⟨_,rfl,?_⟩;simp only[aw];refine ⟨_,rfl,?_⟩;have:=zk (zi hc off) r.info.size;rw[Array.toList_extract,List.extract_eq_take_drop];rwa [Nat.add_sub_cancel_left]
     ·simp at h
   | false=>
     rw[ha] at h;simp only[] at h;obtain ⟨x,hx,ll⟩:=dQ hc off v h;have yy:xs[off]?=some x:=by simpa using hx
     simp only[Bool.false_eq_true,if_false,yy,Sem.run_pure];exact ⟨x,rfl,ll⟩
theorem IV(hR:Rel γ σ w){t:TypeId}{o off:Nat}{a:Addr}{v:AV}(h:loadAt E σ t o off=some v)(ha:gY γ o off a) :
  ∃x,(loadVar t a).run P w=.ok x w/\aw γ v x:=by
 unfold loadAt at h;split at h
 ·rename_i l elem hg;obtain ⟨p,hp,tu⟩:=hR.find hg (by simp) ha.ne;obtain rfl:=ha.at hp;obtain ⟨c,hb,hs,hl,pR⟩:=tu;have BP:∀i u,l[i]?=some u->∃x,w.cell? ⟨p.block,p.base+i,none⟩=some x/\aw γ u x:=by
   intro i u hu;obtain ⟨x,hx,ll⟩:=pR i u hu;exact ⟨x,by simp[World.cell?,hb,hx],ll⟩
  unfold partOf at h;cases hr:E.ty t with
  | none=>rw[hr] at h;simp at h
  | some r=>
    rw[hr] at h;simp only[] at h;unfold loadVar;simp only[Sem.run_bind,qD hE hr,Result.andThen_ok];cases nA:bQ r.bp with
    | true=>
      rw[nA] at h;simp only[] at h;split at h
      ·rename_i hle;have hle:=nB1 hle;simp only[Option.some.injEq] at h;subst h;have hlen:((c.toList.drop (p.base+off)).take r.info.size).length=r.info.size:=by
        simp;omega
       have dB:=run_loadCells_list (P:=P) w ⟨p.block,p.base+off,none⟩ ((c.toList.drop (p.base+off)).take r.info.size) (by
        intro j u hu;rw[lu];have hj:j<r.info.size:=by
         have:=(lE1.1 hu).1;rw[hlen] at this;exact this
        rw[List.getElem?_take,if_pos hj,List.getElem?_drop] at hu;simp only[World.cell?,hb,Option.isSome_none,Bool.false_eq_true,if_false];simpa using hu)
       rw[hlen] at dB;simp only[if_true,Sem.run_bind,bY hE hr,Result.andThen_ok,dB,Sem.run_pure];refine ⟨_,rfl,?_⟩;simp only[aw];refine ⟨_,rfl,?_⟩;simp only[];refine qc (by rw[hlen];simp;omega) fun i u hu=>?_;rw[List.getElem?_take] at hu;split at hu
       ·rename_i hi;rw[List.getElem?_drop] at hu;obtain ⟨x,hx,ll⟩:=pR _ u hu;refine ⟨x,?_,ll⟩;rw[List.getElem?_take,if_pos hi,List.getElem?_drop,Nat.add_assoc];simpa using hx
       ·simp at hu
      ·simp at h
    | false=>
      rw[nA] at h;simp only[] at h;obtain ⟨x,hx,ll⟩:=BP off v h;simp only[Bool.false_eq_true,if_false,run_load,hx];exact ⟨x,rfl,ll⟩
 ·simp at h
end

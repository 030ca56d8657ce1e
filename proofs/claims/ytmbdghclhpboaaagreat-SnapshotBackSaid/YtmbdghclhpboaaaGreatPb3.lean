/- Part of the proof: EvD. Conditions: as each states. -/
import Derived.Test.YtmbdghclhpboaaaGreatPb2
set_option linter.all false
namespace Go.Proofs.YtmbdghclhpboaaaGreat.Ev
theorem beq_t{i:Nat}(h:Nat.beq i 0=true):i=0:=Nat.eq_of_beq_eq_true h
theorem beq_f{i:Nat}(h:Nat.beq i 0=false):i≠0:=Nat.ne_of_beq_eq_false h
theorem T.set_e{α:Type}(a:α)(f i:Nat):T.set (f+1) .e i a=T.set (f+1) (.n none .e .e) i a:=by
 cases i with
 | zero=>rfl
 | succ i=>simp only[T.set]
theorem T.get_e{α:Type}(j:Nat):(T.n (none:Option α) .e .e).get j=none:=by
 cases j with
 | zero=>rfl
 | succ j=>simp only[T.get];split<;>rfl
theorem T.get_set{α:Type}(a:α):∀(f:Nat) (t:T α) (i j:Nat),i+1<2 ^ f→(T.set f t i a).get j=if j=i then some a else t.get j:=by
 intro f
 induction f with
 | zero=>intro t i j h;simp at h
 | succ f ih=>
   have main:∀(v:Option α) (l r:T α) (i j:Nat),i+1<2 ^ (f+1)→(T.set (f+1) (.n v l r) i a).get j=if j=i then some a else (T.n v l r).get j:=by
    intro v l r i j h
    have hp:2 ^ (f+1)=2 * 2 ^ f:=by rw[Nat.pow_succ];omega
    cases i with
    | zero=>
      cases j with
      | zero=>simp[T.set,T.get]
      | succ j=>simp[T.set,T.get]
    | succ i=>
      have hk:i / 2+1<2 ^ f:=by omega
      simp only[T.set]
      cases hb:Nat.beq (i % 2) 0<;>simp only[]<;>cases j with
      | zero=>simp[T.get]
      | succ j=>
        simp only[T.get]
        cases hb':Nat.beq (j % 2) 0<;>simp only[]<;>try rw[ih _ _ _ hk]
        all_goals
         first|have h1:=beq_t hb|have h1:=beq_f hb
         first|have h2:=beq_t hb'|have h2:=beq_f hb'
         by_cases hij:j=i
         ·subst hij;first|(exfalso;omega)|simp
         ·rw[if_neg (by omega:¬j+1=i+1)]
          try rw[if_neg (by omega)]
   intro t i j h
   cases t with
   | n v l r=>exact main v l r i j h
   | e=>rw[T.set_e,main none .e .e i j h,T.get_e];rfl
theorem T.get_put{α:Type}(t:T α)(i j:Nat)(a:α)(h:i≤lim):(t.put i a).get j=if j=i then some a else t.get j:=
 T.get_set a 21 t i j (by unfold lim at h;omega)
structure Place where
 block:Nat
 base:Nat
 top:Nat
abbrev Gam:=Nat→Option (Option Place)
def atP(γ:Gam)(o off:Nat)(a:Addr):Prop:=
 match γ o with
 | none=>False
 | some none=>True
 | some (some p)=>a=⟨p.block,p.base+off,none⟩
def topP(γ:Gam)(o n:Nat):Prop:=
 match γ o with
 | none=>False
 | some none=>True
 | some (some p)=>p.base+n≤p.top
def mapP(γ:Gam)(o r:Nat):Prop:=
 match γ o with
 | none=>False
 | some none=>True
 | some (some p)=>r=p.block
mutual
def Conc(γ:Gam):AV→Value→Prop
 | .lit v,x=>x=v
 | .ptr o off,x=>∃a,x=.pointer (some a)∧atP γ o off a
 | .slice o off len cap,x=>∃a c,x=.slice (some a) len c∧(c=0∨atP γ o off a)∧len≤c∧(match cap with
   | .k n=>c=n
   | .grown size=>topP γ o (off+c * size))
 | .map o,x=>∃r,x=.map (some r)∧mapP γ o r
 | .func fn a b,x=>∃a' b':Array Value,x=.func fn a' b'∧Concs γ a a'.toList∧Concs γ b b'.toList
 | .iface t v,x=>∃y,x=.iface t y∧Conc γ v y
 | .agg l,x=>∃a:Array Value,x=.agg a∧Concs γ l a.toList
 | .tuple l,x=>∃a:Array Value,x=.tuple a∧Concs γ l a.toList
def Concs(γ:Gam):List AV→List Value→Prop
 | [],l=>l=[]
 | v::vs,l=>∃x xs,l=x::xs∧Conc γ v x∧Concs γ vs xs
end
def Ext(γ γ':Gam):Prop:=∀o p,γ o=some p→γ' o=some p∨γ' o=some none
theorem Ext.refl(γ:Gam):Ext γ γ:=fun _ _ h=>.inl h
theorem Ext.trans{a b c:Gam}(h:Ext a b)(h':Ext b c):Ext a c:=fun o p hp=>by
 rcases h o p hp with e|e
 ·exact h' o p e
 ·rcases h' o none e with e'|e'<;>exact .inr e'
theorem atP.mono{γ γ':Gam}(h:Ext γ γ'){o off:Nat}{a:Addr}(ha:atP γ o off a):atP γ' o off a:=by
 unfold atP at *
 cases hg:γ o with
 | none=>rw[hg] at ha;exact ha.elim
 | some p=>
   rcases h o p hg with e|e
   ·rw[e];rw[hg] at ha;exact ha
   ·rw[e];trivial
theorem topP.mono{γ γ':Gam}(h:Ext γ γ'){o n:Nat}(ha:topP γ o n):topP γ' o n:=by
 unfold topP at *
 cases hg:γ o with
 | none=>rw[hg] at ha;exact ha.elim
 | some p=>
   rcases h o p hg with e|e
   ·rw[e];rw[hg] at ha;exact ha
   ·rw[e];trivial
theorem mapP.mono{γ γ':Gam}(h:Ext γ γ'){o n:Nat}(ha:mapP γ o n):mapP γ' o n:=by
 unfold mapP at *
 cases hg:γ o with
 | none=>rw[hg] at ha;exact ha.elim
 | some p=>
   rcases h o p hg with e|e
   ·rw[e];rw[hg] at ha;exact ha
   ·rw[e];trivial
mutual
theorem Conc.mono{γ γ':Gam}(h:Ext γ γ'):∀(v:AV) (x:Value),Conc γ v x→Conc γ' v x
 | .lit _,_,hx=>by unfold Conc at *;exact hx
 | .ptr _ _,_,hx=>by
   unfold Conc at *
   obtain ⟨a,e,ha⟩:=hx
   exact ⟨a,e,ha.mono h⟩
 | .slice _ _ _ cap,_,hx=>by
   unfold Conc at *
   obtain ⟨a,c,e,ha,hl,hc⟩:=hx
   refine ⟨a,c,e,ha.imp id (atP.mono h),hl,?_⟩
   cases cap with
   | k n=>exact hc
   | grown s=>exact topP.mono h hc
 | .map _,_,hx=>by
   unfold Conc at *
   obtain ⟨r,e,hr⟩:=hx
   exact ⟨r,e,hr.mono h⟩
 | .func _ l m,_,hx=>by
   unfold Conc at *
   obtain ⟨a,b,e,h1,h2⟩:=hx
   exact ⟨a,b,e,Concs.mono h l _ h1,Concs.mono h m _ h2⟩
 | .iface _ v,_,hx=>by
   unfold Conc at *
   obtain ⟨y,e,hy⟩:=hx
   exact ⟨y,e,Conc.mono h v y hy⟩
 | .agg l,_,hx=>by
   unfold Conc at *
   obtain ⟨a,e,h1⟩:=hx
   exact ⟨a,e,Concs.mono h l _ h1⟩
 | .tuple l,_,hx=>by
   unfold Conc at *
   obtain ⟨a,e,h1⟩:=hx
   exact ⟨a,e,Concs.mono h l _ h1⟩
theorem Concs.mono{γ γ':Gam}(h:Ext γ γ'):∀(l:List AV) (x:List Value),Concs γ l x→Concs γ' l x
 | [],_,hx=>by unfold Concs at *;exact hx
 | v::vs,_,hx=>by
   unfold Concs at *
   obtain ⟨x,xs,e,h1,h2⟩:=hx
   exact ⟨x,xs,e,Conc.mono h v x h1,Concs.mono h vs xs h2⟩
end
end Go.Proofs.YtmbdghclhpboaaaGreat.Ev
namespace Go.Proofs.YtmbdghclhpboaaaGreat.Ev
def EntRel(γ:Gam):List (AV×AV×Nat)→List MapEntry→Prop
 | [],l=>l=[]
 | (k,v,b)::es,l=>∃k' v' rest,l=⟨k',v',b⟩::rest∧Conc γ k k'∧Conc γ v v'∧EntRel γ es rest
def ObjRel(γ:Gam)(ob:AObj)(p:Place)(w:World):Prop:=
 match ob with
 | .cells l elem=>∃c,w.heap[p.block]?=some (.cells c elem (0,0))∧(c.size=p.top∧(fixT elem=true→p.base=0∧l.length=p.top))∧p.base+l.length≤p.top∧∀i v,l[i]?=some v→∃x,c[p.base+i]?=some x∧Conc γ v x
 | .row xs elem=>∃c,w.heap[p.block]?=some (.cells c elem (0,0))∧(c.size=p.top∧(fixT elem=true→p.base=0∧xs.length=p.top))∧p.base+xs.length≤p.top∧∀i x,xs[i]?=some x→c[p.base+i]?=some x
 | .res _=>False
 | .mrow es=>∃es' clock,w.heap[p.block]?=some (.map es' clock)∧es'.toList.map (fun e=>(e.key,e.val))=es∧((∀e∈es,scalK e.1=true)→Go.MapKept.Stamped es' clock)
 | .map es clock=>∃es':Array MapEntry,w.heap[p.block]?=some (.map es' clock)∧EntRel γ es es'.toList
 | .iter m since seen stepped=>p.base=0∧∃r,w.heap[p.block]?=some (.mapIter (some r) since seen.toArray stepped)∧mapP γ m r
 | .dead=>True
structure Rel(γ:Gam)(σ:AS)(w:World):Prop where
 dom:∀o,σ.next≤o→γ o=none
 obj:∀o p,γ o=some (some p)→∃ob,σ.heap.get o=some ob∧ObjRel γ ob p w
 gone:∀o,γ o=some none→σ.heap.get o=some .dead
 inj:∀o o' p p',γ o=some (some p)→γ o'=some (some p')→p.block=p'.block→o=o'
 lim:σ.next≤lim
structure Step(γ:Gam)(σ:AS)(γ':Gam)(σ':AS):Prop where
 ext:Ext γ γ'
 new:∀o,o<σ.next→γ o=none→γ' o=none
 le:σ.next≤σ'.next
 same:∀o,o<σ.next→γ o=none→σ'.heap.get o=σ.heap.get o
theorem Step.refl(γ:Gam)(σ:AS):Step γ σ γ σ:=⟨.refl γ,fun _ _ h=>h,Nat.le_refl _,fun _ _ _=>rfl⟩
theorem Step.trans{γ γ1 γ2:Gam}{σ σ1 σ2:AS}(h:Step γ σ γ1 σ1)(h':Step γ1 σ1 γ2 σ2):Step γ σ γ2 σ2:=
 ⟨h.ext.trans h'.ext,fun o ho hg=>h'.new o (Nat.lt_of_lt_of_le ho h.le) (h.new o ho hg),Nat.le_trans h.le h'.le,
  fun o ho hg=>(h'.same o (Nat.lt_of_lt_of_le ho h.le) (h.new o ho hg)).trans (h.same o ho hg)⟩
theorem Rel.find{γ:Gam}{σ:AS}{w:World}(h:Rel γ σ w){o:Nat}{ob:AObj}(hg:σ.heap.get o=some ob)(hd:ob≠.dead)(hn:γ o≠none) :
  ∃p,γ o=some (some p)∧ObjRel γ ob p w:=by
 cases hp:γ o with
 | none=>exact absurd hp hn
 | some q=>
   cases q with
   | none=>
     have:=h.gone o hp
     rw[hg] at this
     exact absurd (Option.some.inj this) hd
   | some p=>
     obtain ⟨ob',h1,h2⟩:=h.obj o p hp
     rw[hg] at h1
     cases h1
     exact ⟨p,rfl,h2⟩
theorem atP.ne{γ:Gam}{o off:Nat}{a:Addr}(h:atP γ o off a):γ o≠none:=fun e=>by unfold atP at h;rw[e] at h;exact h
theorem mapP.ne{γ:Gam}{o r:Nat}(h:mapP γ o r):γ o≠none:=fun e=>by unfold mapP at h;rw[e] at h;exact h
theorem atP.at{γ:Gam}{o off:Nat}{a:Addr}{p:Place}(h:atP γ o off a)(hp:γ o=some (some p)):a=⟨p.block,p.base+off,none⟩:=by
 unfold atP at h;rw[hp] at h;exact h
theorem mapP.at{γ:Gam}{o r:Nat}{p:Place}(h:mapP γ o r)(hp:γ o=some (some p)):r=p.block:=by
 unfold mapP at h;rw[hp] at h;exact h
structure EnvOk(P:Program)(E:Env):Prop where
 info:∀t r,E.ty t=some r→∀w,(typeInfo t).run P w=.ok r.info w
 und:∀t r,E.ty t=some r→P.underlying t=some r.und
 fn:∀f fn,E.fn f=some fn→P.funcs[f]?=some fn∧∀args w,(callFunc f args).run P w=.ok (.enter f args) w
 wide:P.follows .mixedOrders=true
 guard:∀t r n,E.ty t=some r→r.flat=some n→P.eqGuardType P.depth t=false
 eq:∀t r n,E.ty t=some r→r.flat=some n→∀(xs ys:List Value) b w,xs.length=n→ys.length=n→fits r.kinds (xs.map .lit)=true→flatEq (xs.map .lit) (ys.map .lit)=some b →
  (Op.equalIn Op.maxDepth t (.agg xs.toArray) (.agg ys.toArray)).run P w=.ok b w
 key:∀t r n k e,E.ty t=some r→r.flat=some n→r.und=.array k e→∀(xs:List Value) b w,xs.length=n→(Instr.checkKey b 10000 t (.agg xs.toArray)).run P w=.ok () w
section
variable{P:Program}{E:Env}(hE:EnvOk P E){t:TypeId}{r:TyRow}(h:E.ty t=some r)(w:World)
include hE h
theorem run_und:(underlying t).run P w=.ok r.und w:=run_underlying (hE.und t r h) w
theorem run_info:(typeInfo t).run P w=.ok r.info w:=hE.info t r h w
theorem run_size:(Go.sizeOf t).run P w=.ok r.info.size w:=by simp[Go.sizeOf,run_info hE h]
theorem run_zero{z:Value}(hz:r.info.zero=some z):(zeroValue t).run P w=.ok z w:=by simp[zeroValue,run_info hE h,hz]
theorem run_agg:(isAgg t).run P w=.ok (isAggD r.und) w:=by
 unfold isAgg
 simp only[Sem.run_bind,run_und hE h,Result.andThen_ok]
 cases r.und<;>rfl
end
structure ConcT(γ:Gam)(n:Nat)(t:Tmps)(a:Act):Prop where
 size:n≤a.tmps.size
 defers:a.defers=[]
 get:∀i v,t.get i=some v→∃x,a.tmps[i]?=some x∧Conc γ v x
theorem concs_lits(γ:Gam):∀l:List Value,Concs γ (l.map .lit) l
 | []=>by simp[Concs]
 | v::l=>by
   simp only[List.map_cons,Concs]
   exact ⟨v,l,rfl,rfl,concs_lits γ l⟩
theorem conc_lit(γ:Gam)(v:Value):Conc γ (.lit v) v:=by simp[Conc]
theorem conc_lit_iff{γ:Gam}{v x:Value}:Conc γ (.lit v) x↔x=v:=by simp[Conc]
theorem conc_ofValue(γ:Gam)(v:Value):Conc γ (ofValue v) v:=by
 unfold ofValue
 split
 ·simp only[Conc];exact ⟨_,rfl,concs_lits γ _⟩
 ·exact conc_lit γ _
def OpRel(γ:Gam)(t:Tmps)(ρ:Operand→Value):Prop:=∀x v,opnd t x=some v→Conc γ v (ρ x)
theorem ConcT.opnd{γ:Gam}{n:Nat}{t:Tmps}{a:Act}(h:ConcT γ n t a):OpRel γ t a.eval:=by
 intro x v hv
 cases x with
 | tmp i=>
   obtain ⟨y,hy,hc⟩:=h.get i v hv
   simp only[Act.eval,Array.getD_eq_getD_getElem?,hy,Option.getD_some]
   exact hc
 | const c=>simp only[Go.Proofs.YtmbdghclhpboaaaGreat.Ev.opnd,Option.some.injEq] at hv;subst hv;exact conc_ofValue γ c
 | global g=>simp[Go.Proofs.YtmbdghclhpboaaaGreat.Ev.opnd] at hv
 | func f=>simp only[Go.Proofs.YtmbdghclhpboaaaGreat.Ev.opnd,Option.some.injEq] at hv;subst hv;exact conc_lit γ _
theorem concs_length{γ:Gam}:∀{l:List AV} {xs:List Value},Concs γ l xs→xs.length=l.length
 | [],_,h=>by simp only[Concs] at h;simp[h]
 | v::l,_,h=>by
   simp only[Concs] at h
   obtain ⟨x,xs,rfl,_,h2⟩:=h
   simp[concs_length h2]
theorem concs_get{γ:Gam}:∀{l:List AV} {xs:List Value},Concs γ l xs→∀(i:Nat) (v:AV),l[i]?=some v→∃x,xs[i]?=some x∧Conc γ v x
 | [],_,_,i,v,hv=>by simp at hv
 | u::l,_,h,i,v,hv=>by
   simp only[Concs] at h
   obtain ⟨x,xs,rfl,h1,h2⟩:=h
   cases i with
   | zero=>simp only[List.getElem?_cons_zero,Option.some.injEq] at hv;subst hv;exact ⟨x,rfl,h1⟩
   | succ i=>simpa using concs_get h2 i v (by simpa using hv)
theorem concs_of{γ:Gam}:∀{l:List AV} {xs:List Value},xs.length=l.length→(∀(i:Nat) (v:AV),l[i]?=some v→∃x,xs[i]?=some x∧Conc γ v x)→Concs γ l xs
 | [],[],_,_=>by simp[Concs]
 | [],_::_,h,_=>by simp at h
 | _::_,[],h,_=>by simp at h
 | u::l,x::xs,h,hg=>by
   simp only[Concs]
   refine ⟨x,xs,rfl,?_,concs_of (by simpa using h) fun i v hv=>by simpa using hg (i+1) v (by simpa using hv)⟩
   obtain ⟨y,hy,hc⟩:=hg 0 u rfl
   simp only[List.getElem?_cons_zero,Option.some.injEq] at hy
   subst hy;exact hc
theorem concs_append{γ:Gam}{l m:List AV}{xs ys:List Value}(h:Concs γ l xs)(h':Concs γ m ys):Concs γ (l++m) (xs++ys):=by
 induction l generalizing xs with
 | nil=>simp only[Concs] at h;subst h;simpa using h'
 | cons v l ih=>
   simp only[Concs] at h
   obtain ⟨x,xs,rfl,h1,h2⟩:=h
   simp only[List.cons_append,Concs]
   exact ⟨x,xs++ys,rfl,h1,ih h2⟩
theorem concs_drop{γ:Gam}{l:List AV}{xs:List Value}(h:Concs γ l xs)(n:Nat):Concs γ (l.drop n) (xs.drop n):=
 concs_of (by simp[concs_length h]) fun i v hv=>by
  rw[List.getElem?_drop] at hv ⊢
  exact concs_get h _ v hv
theorem concs_take{γ:Gam}{l:List AV}{xs:List Value}(h:Concs γ l xs)(n:Nat):Concs γ (l.take n) (xs.take n):=
 concs_of (by simp[concs_length h]) fun i v hv=>by
  rw[List.getElem?_take] at hv ⊢
  split at hv
  ·rw[if_pos ‹_›];exact concs_get h _ v hv
  ·simp at hv
theorem concs_setFrom{γ:Gam}{l vs:List AV}{xs ys:List Value}(h:Concs γ l xs)(h':Concs γ vs ys)(off:Nat):Concs γ (setFrom l off vs) (setFrom xs off ys):=by
 unfold setFrom
 rw[←concs_length h']
 exact concs_append (concs_append (concs_take h _) h') (concs_drop h _)
theorem concs_allSome{γ:Gam}{t:Tmps}{ρ:Operand→Value}(h:OpRel γ t ρ):∀{l:List Operand} {vs:List AV},argsA t l=some vs→Concs γ vs (l.map ρ)
 | [],vs,hv=>by simp only[argsA,List.map_nil,allSome,Option.some.injEq] at hv;subst hv;simp[Concs]
 | x::l,vs,hv=>by
   simp only[argsA,List.map_cons] at hv
   cases hx:Go.Proofs.YtmbdghclhpboaaaGreat.Ev.opnd t x with
   | none=>rw[hx] at hv;simp[allSome] at hv
   | some v=>
     rw[hx] at hv
     simp only[allSome] at hv
     cases hr:allSome (l.map (Go.Proofs.YtmbdghclhpboaaaGreat.Ev.opnd t)) with
     | none=>rw[hr] at hv;simp at hv
     | some vs'=>
       rw[hr] at hv
       simp only[Option.some.injEq] at hv
       subst hv
       simp only[Concs,List.map_cons]
       exact ⟨_,_,rfl,h x v hx,concs_allSome h hr⟩
theorem conc_cells{γ:Gam}{v:AV}{x:Value}(h:Conc γ v x):Concs γ v.cells x.cells.toList:=by
 cases v with
 | lit u=>
   rw[conc_lit_iff] at h
   subst h
   cases x<;>simp only[AV.cells,Value.cells]<;>first|exact concs_lits γ _|(simp only[Concs];exact ⟨_,_,rfl,conc_lit γ _,rfl⟩)
 | agg l=>
   simp only[Conc] at h
   obtain ⟨a,rfl,h⟩:=h
   simpa only[AV.cells,Value.cells] using h
 | ptr o off=>have h':=h;simp only[Conc] at h';obtain ⟨a,rfl,_⟩:=h';simp only[AV.cells,Value.cells,Concs];exact ⟨_,_,rfl,h,rfl⟩
 | slice o off len cap=>have h':=h;simp only[Conc] at h';obtain ⟨a,c,rfl,_⟩:=h';simp only[AV.cells,Value.cells,Concs];exact ⟨_,_,rfl,h,rfl⟩
 | map o=>have h':=h;simp only[Conc] at h';obtain ⟨a,rfl,_⟩:=h';simp only[AV.cells,Value.cells,Concs];exact ⟨_,_,rfl,h,rfl⟩
 | func f a b=>have h':=h;simp only[Conc] at h';obtain ⟨a,b,rfl,_⟩:=h';simp only[AV.cells,Value.cells,Concs];exact ⟨_,_,rfl,h,rfl⟩
 | iface ty u=>have h':=h;simp only[Conc] at h';obtain ⟨a,rfl,_⟩:=h';simp only[AV.cells,Value.cells,Concs];exact ⟨_,_,rfl,h,rfl⟩
 | tuple l=>have h':=h;simp only[Conc] at h';obtain ⟨a,rfl,_⟩:=h';simp only[AV.cells,Value.cells,Concs];exact ⟨_,_,rfl,h,rfl⟩
theorem conc_one{γ:Gam}{v:AV}{x:Value}(h:Conc γ v x)(ho:v.one=true):x.oneCell'=true:=by
 cases v with
 | lit u=>rw[conc_lit_iff] at h;subst h;cases x<;>simp_all [AV.one,Value.oneCell']
 | agg l=>simp[AV.one] at ho
 | tuple l=>simp[AV.one] at ho
 | ptr o off=>simp only[Conc] at h;obtain ⟨a,rfl,_⟩:=h;rfl
 | slice o off len cap=>simp only[Conc] at h;obtain ⟨a,c,rfl,_⟩:=h;rfl
 | map o=>simp only[Conc] at h;obtain ⟨a,rfl,_⟩:=h;rfl
 | func f a b=>simp only[Conc] at h;obtain ⟨a,b,rfl,_⟩:=h;rfl
 | iface ty u=>simp only[Conc] at h;obtain ⟨a,rfl,_⟩:=h;rfl
mutual
theorem flat_conc{γ:Gam}:∀(v:AV) (x y:Value),v.flat=some x→Conc γ v y→y=x
 | .lit v,x,y,h,hc=>by
   simp only[AV.flat,Option.some.injEq] at h
   rw[conc_lit_iff] at hc
   rw[hc,h]
 | .agg l,x,y,h,hc=>by
   simp only[AV.flat] at h
   split at h
   ·rename_i xs hx
    simp only[Option.some.injEq] at h
    simp only[Conc] at hc
    obtain ⟨a,rfl,ha⟩:=hc
    have:=flats_conc l xs _ hx ha
    subst h
    rw[←this]
   ·cases h
 | .tuple l,x,y,h,hc=>by
   simp only[AV.flat] at h
   split at h
   ·rename_i xs hx
    simp only[Option.some.injEq] at h
    simp only[Conc] at hc
    obtain ⟨a,rfl,ha⟩:=hc
    have:=flats_conc l xs _ hx ha
    subst h
    rw[←this]
   ·cases h
 | .iface t v,x,y,h,hc=>by
   simp only[AV.flat] at h
   split at h
   ·rename_i z hz
    simp only[Option.some.injEq] at h
    simp only[Conc] at hc
    obtain ⟨a,rfl,ha⟩:=hc
    rw[flat_conc v z a hz ha,h]
   ·cases h
 | .ptr ..,_,_,h,_|.slice ..,_,_,h,_|.map ..,_,_,h,_|.func ..,_,_,h,_=>by simp[AV.flat] at h
theorem flats_conc{γ:Gam}:∀(l:List AV) (xs ys:List Value),AV.flats l=some xs→Concs γ l ys→ys=xs
 | [],xs,ys,h,hc=>by
   simp only[AV.flats,Option.some.injEq] at h
   simp only[Concs] at hc
   rw[hc,h]
 | v::l,xs,ys,h,hc=>by
   simp only[AV.flats] at h
   split at h
   ·rename_i x zs h1 h2
    simp only[Option.some.injEq] at h
    simp only[Concs] at hc
    obtain ⟨y,ys',rfl,c1,c2⟩:=hc
    rw[flat_conc v x y h1 c1,flats_conc l zs ys' h2 c2,h]
   ·cases h
end
mutual
theorem conc_flat{γ:Gam}:∀(v:AV) (x:Value),v.flat=some x→Conc γ v x
 | .lit v,x,h=>by
   simp only[AV.flat,Option.some.injEq] at h
   rw[conc_lit_iff,h]
 | .agg l,x,h=>by
   simp only[AV.flat] at h
   split at h
   ·rename_i xs hx
    simp only[Option.some.injEq] at h
    subst h
    simp only[Conc]
    exact ⟨_,rfl,concs_flat l xs hx⟩
   ·cases h
 | .tuple l,x,h=>by
   simp only[AV.flat] at h
   split at h
   ·rename_i xs hx
    simp only[Option.some.injEq] at h
    subst h
    simp only[Conc]
    exact ⟨_,rfl,concs_flat l xs hx⟩
   ·cases h
 | .iface t v,x,h=>by
   simp only[AV.flat] at h
   split at h
   ·rename_i z hz
    simp only[Option.some.injEq] at h
    subst h
    simp only[Conc]
    exact ⟨z,rfl,conc_flat v z hz⟩
   ·cases h
 | .ptr ..,_,h|.slice ..,_,h|.map ..,_,h|.func ..,_,h=>by simp[AV.flat] at h
theorem concs_flat{γ:Gam}:∀(l:List AV) (xs:List Value),AV.flats l=some xs→Concs γ l xs
 | [],xs,h=>by
   simp only[AV.flats,Option.some.injEq] at h
   subst h
   simp[Concs]
 | v::l,xs,h=>by
   simp only[AV.flats] at h
   split at h
   ·rename_i x zs h1 h2
    simp only[Option.some.injEq] at h
    subst h
    simp only[Concs]
    exact ⟨x,zs,rfl,conc_flat v x h1,concs_flat l zs h2⟩
   ·cases h
end
end Go.Proofs.YtmbdghclhpboaaaGreat.Ev
namespace Go.Proofs.YtmbdghclhpboaaaGreat.Ev
theorem addr_add(b o j:Nat):(⟨b,o,none⟩:Addr).add j=⟨b,o+j,none⟩:=by
 unfold Addr.add
 by_cases hj:j=0<;>simp[hj]
section
variable{P:Program}{E:Env}(hE:EnvOk P E){γ:Gam}{σ:AS}{w:World}
include hE
theorem part_ok{t:TypeId}{cs:List AV}{xs:Array Value}{off:Nat}{v:AV}(h:partOf E t cs off=some v)(hc:Concs γ cs xs.toList) :
  ∃x,(part t xs off).run P w=.ok x w∧Conc γ v x:=by
 unfold partOf at h
 cases hr:E.ty t with
 | none=>rw[hr] at h;simp at h
 | some r=>
   rw[hr] at h
   simp only[] at h
   unfold part
   simp only[Sem.run_bind,run_agg hE hr,Result.andThen_ok]
   cases ha:isAggD r.und with
   | true=>
     rw[ha] at h
     simp only[] at h
     split at h
     ·rename_i hle
      have hle:=Nat.le_of_ble_eq_true hle
      simp only[Option.some.injEq] at h
      subst h
      simp only[if_true,Sem.run_bind,run_size hE hr,Result.andThen_ok,Sem.run_pure]
      refine ⟨_,rfl,?_⟩
      simp only[Conc]
      refine ⟨_,rfl,?_⟩
      have:=concs_take (concs_drop hc off) r.info.size
      rw[Array.toList_extract,List.extract_eq_take_drop]
      rwa [Nat.add_sub_cancel_left]
     ·simp at h
   | false=>
     rw[ha] at h
     simp only[] at h
     obtain ⟨x,hx,hcx⟩:=concs_get hc off v h
     have hx':xs[off]?=some x:=by simpa using hx
     simp only[Bool.false_eq_true,if_false,hx',Sem.run_pure]
     exact ⟨x,rfl,hcx⟩
theorem load_ok(hR:Rel γ σ w){t:TypeId}{o off:Nat}{a:Addr}{v:AV}(h:loadAt E σ t o off=some v)(ha:atP γ o off a) :
  ∃x,(loadVar t a).run P w=.ok x w∧Conc γ v x:=by
 unfold loadAt at h
 split at h
 ·rename_i l elem hg
  obtain ⟨p,hp,hob⟩:=hR.find hg (by simp) ha.ne
  obtain rfl:=ha.at hp
  obtain ⟨c,hb,hs,hl,hcs⟩:=hob
  have hcell:∀i u,l[i]?=some u→∃x,w.cell? ⟨p.block,p.base+i,none⟩=some x∧Conc γ u x:=by
   intro i u hu
   obtain ⟨x,hx,hcx⟩:=hcs i u hu
   exact ⟨x,by simp[World.cell?,hb,hx],hcx⟩
  unfold partOf at h
  cases hr:E.ty t with
  | none=>rw[hr] at h;simp at h
  | some r=>
    rw[hr] at h
    simp only[] at h
    unfold loadVar
    simp only[Sem.run_bind,run_agg hE hr,Result.andThen_ok]
    cases hag:isAggD r.und with
    | true=>
      rw[hag] at h
      simp only[] at h
      split at h
      ·rename_i hle
       have hle:=Nat.le_of_ble_eq_true hle
       simp only[Option.some.injEq] at h
       subst h
       have hlen:((c.toList.drop (p.base+off)).take r.info.size).length=r.info.size:=by
        simp;omega
       have hrun:=run_loadCells_list (P:=P) w ⟨p.block,p.base+off,none⟩ ((c.toList.drop (p.base+off)).take r.info.size) (by
        intro j u hu
        rw[addr_add]
        have hj:j<r.info.size:=by
         have:=(List.getElem?_eq_some_iff.1 hu).1
         rw[hlen] at this;exact this
        rw[List.getElem?_take,if_pos hj,List.getElem?_drop] at hu
        simp only[World.cell?,hb,Option.isSome_none,Bool.false_eq_true,if_false]
        simpa using hu)
       rw[hlen] at hrun
       simp only[if_true,Sem.run_bind,run_size hE hr,Result.andThen_ok,hrun,Sem.run_pure]
       refine ⟨_,rfl,?_⟩
       simp only[Conc]
       refine ⟨_,rfl,?_⟩
       simp only[]
       refine concs_of (by rw[hlen];simp;omega) fun i u hu=>?_
       rw[List.getElem?_take] at hu
       split at hu
       ·rename_i hi
        rw[List.getElem?_drop] at hu
        obtain ⟨x,hx,hcx⟩:=hcs _ u hu
        refine ⟨x,?_,hcx⟩
        rw[List.getElem?_take,if_pos hi,List.getElem?_drop,Nat.add_assoc]
        simpa using hx
       ·simp at hu
      ·simp at h
    | false=>
      rw[hag] at h
      simp only[] at h
      obtain ⟨x,hx,hcx⟩:=hcell off v h
      simp only[Bool.false_eq_true,if_false,run_load,hx]
      exact ⟨x,rfl,hcx⟩
 ·simp at h
end
end Go.Proofs.YtmbdghclhpboaaaGreat.Ev

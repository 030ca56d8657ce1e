/- Part of the proof: EvY. Conditions: as each states. -/
import Derived.Test.YtmbdghclhpboaaaGreatPb11
set_option linter.all false
namespace Go.Proofs.YtmbdghclhpboaaaGreat.Ev
def kindOf:TypeDesc→Option Nat
 | .bool=>some 0
 | .int _=>some 1
 | .string=>some 2
 | _=>none
def flatParts(go:TypeId→Option (List Nat)):Nat→List (TypeId×Nat)→Option (List Nat)
 | _,[]=>some []
 | off,(t,o)::l=>match Nat.beq o off,go t with
   | true,some ks=>(flatParts go (off+ks.length) l).map (ks++·)
   | _,_=>none
def sized(n:Nat):Option (List Nat)→Option (List Nat)
 | some ks=>match Nat.beq ks.length n with
   | true=>some ks
   | false=>none
 | none=>none
def flatK(E:Env):Nat→TypeId→Option (List Nat)
 | 0,_=>none
 | d+1,t=>match E.ty t with
   | none=>none
   | some r=>match r.und with
     | .struct fs=>match r.flat.isSome&&fs.toList.all (fun f=>f.name != "_") with
       | true=>sized r.info.size (flatParts (flatK E d) 0 (fs.toList.map fun f=>(f.type,f.offset)))
       | false=>none
     | .array n e=>match E.ty e with
       | some er=>sized r.info.size (flatParts (flatK E d) 0 ((List.range n).map fun i=>(e,i * er.info.size)))
       | none=>none
     | .bool=>some [0]
     | .int _=>some [1]
     | .string=>some [2]
     | _=>none
def keyOk(E:Env)(r:TyRow):Bool:=
 match r.und with
 | .array k e=>match E.ty e with
   | some er=>(kindOf er.und).isSome&&Nat.beq er.info.size 1&&Nat.beq k r.kinds.length
   | none=>false
 | _=>true
def flatOk(E:Env)(t:TypeId)(r:TyRow):Bool:=
 match r.flat with
 | none=>true
 | some n=>(match flatK E 8 t with
   | some ks=>decide (ks=r.kinds)
   | none=>false)&&Nat.beq r.kinds.length n&&keyOk E r&&isAggD r.und
structure Facts(P:Program)(E:Env):Prop where
 info:∀t r,E.ty t=some r→∀w,(typeInfo t).run P w=.ok r.info w
 und:∀t r,E.ty t=some r→P.underlying t=some r.und
 fn:∀f fn,E.fn f=some fn→P.funcs[f]?=some fn∧∀args w,(callFunc f args).run P w=.ok (.enter f args) w
 wide:P.follows .mixedOrders=true
 guard:∀t r,E.ty t=some r→r.flat≠none→P.eqGuardType P.depth t=false
 held:∀t r fs,E.ty t=some r→r.flat≠none→r.und=.struct fs→P.stoodInHeld t=false
 flat:∀t r,E.ty t=some r→flatOk E t r=true
theorem fits_length:∀{ks:List Nat} {l:List AV},fits ks l=true→l.length=ks.length
 | [],[],_=>rfl
 | [],_::_,h=>by simp[fits] at h
 | _::_,[],h=>by simp[fits] at h
 | k::ks,v::l,h=>by
   cases v with
   | lit u=>
     simp only[fits,Bool.and_eq_true] at h
     simp[fits_length h.2]
   | _=>simp[fits] at h
theorem fits_append:∀{k1 k2:List Nat} {l:List AV},fits (k1++k2) l=true→fits k1 (l.take k1.length)=true∧fits k2 (l.drop k1.length)=true
 | [],k2,l,h=>⟨by simp[fits],by simpa using h⟩
 | k::ks,k2,[],h=>by simp[fits] at h
 | k::ks,k2,v::l,h=>by
   cases v with
   | lit u=>
     simp only[List.cons_append,fits,Bool.and_eq_true] at h
     obtain ⟨h1,h2⟩:=fits_append h.2
     simp only[List.length_cons,List.take_succ_cons,List.drop_succ_cons,fits,Bool.and_eq_true]
     exact ⟨⟨h.1,h1⟩,h2⟩
   | _=>simp[fits] at h
theorem flatEq_append:∀(n:Nat) {a b:List AV} {c:Bool},flatEq a b=some c→∃c1 c2,flatEq (a.take n) (b.take n)=some c1∧flatEq (a.drop n) (b.drop n)=some c2∧c=(c1&&c2)
 | 0,a,b,c,h=>⟨true,c,by simp[flatEq],by simpa using h,by simp⟩
 | n+1,[],[],c,h=>⟨true,c,by simp[flatEq],by simpa using h,by simp⟩
 | n+1,[],_::_,c,h=>by simp[flatEq] at h
 | n+1,x::a,[],c,h=>by cases x<;>simp[flatEq] at h
 | n+1,x::a,y::b,c,h=>by
   cases x with
   | lit u=>
     cases y with
     | lit v=>
       simp only[flatEq] at h
       cases hs:scalarEq u v with
       | none=>rw[hs] at h;simp at h
       | some s=>
         cases hr:flatEq a b with
         | none=>rw[hs,hr] at h;simp at h
         | some r=>
           rw[hs,hr] at h
           simp only[Option.some.injEq] at h
           obtain ⟨c1,c2,h1,h2,rfl⟩:=flatEq_append n hr
           refine ⟨s&&c1,c2,?_,by simpa using h2,?_⟩
           ·simp only[List.take_succ_cons,flatEq,hs,h1]
           ·rw[←h,Bool.and_assoc]
     | _=>simp[flatEq] at h
   | _=>simp[flatEq] at h
def Pk(r:TyRow)(xs:List Value)(x:Value):Prop:=
 match isAggD r.und with
 | true=>x=.agg xs.toArray
 | false=>xs=[x]
def eqParts(d:Nat)(xs ys:Array Value):List (TypeId×Nat)→Sem Bool
 | []=>pure true
 | (t,o)::l=>do
   let a ←part t xs o
   let b ←part t ys o
   let r ←Op.equalIn d t a b
   if (!r)=true then pure false else eqParts d xs ys l
theorem eqFields_parts{d:Nat}{xs ys:Array Value}:∀(fs:List Field),fs.all (fun f=>f.name != "_")=true→Op.eqFields d xs ys fs=eqParts d xs ys (fs.map fun f=>(f.type,f.offset))
 | [],_=>rfl
 | f::fs,h=>by
   simp only[List.all_cons,Bool.and_eq_true,bne_iff_ne,ne_eq] at h
   simp only[Op.eqFields,List.map_cons,eqParts]
   rw[if_pos h.1,eqFields_parts fs (by simpa using h.2)]
theorem eqItems_parts{d:Nat}{e c:Nat}{xs ys:Array Value}:∀(is:List Nat),Op.eqItems d e c xs ys is=eqParts d xs ys (is.map fun i=>(e,i * c))
 | []=>rfl
 | i::is=>by simp only[Op.eqItems,List.map_cons,eqParts];rw[eqItems_parts is]
section
variable{P:Program}{E:Env}(hF:Facts P E)
include hF
theorem part_flat{d:Nat}{t:TypeId}{ks:List Nat}{r:TyRow}(hk:flatK E d t=some ks)(hr:E.ty t=some r)(cs:List Value)(off:Nat)(hl:off+ks.length≤cs.length)(w:World) :
  ∃x,(part t cs.toArray off).run P w=.ok x w∧Pk r ((cs.drop off).take ks.length) x:=by
 cases d with
 | zero=>simp[flatK] at hk
 | succ d=>
   simp only[flatK,hr] at hk
   have hagg:(isAgg t).run P w=.ok (isAggD r.und) w:=by
    unfold isAgg
    simp only[Sem.run_bind,run_underlying (hF.und t r hr),Result.andThen_ok]
    cases r.und<;>rfl
   have hbig:isAggD r.und=true→ks.length=r.info.size→∃x,(part t cs.toArray off).run P w=.ok x w∧Pk r ((cs.drop off).take ks.length) x:=fun ha hsz=>by
    refine ⟨.agg (cs.toArray.extract off (off+r.info.size)),?_,?_⟩
    ·unfold part
     simp only[Sem.run_bind,hagg,Result.andThen_ok,ha,if_true,Go.sizeOf,hF.info t r hr w,Sem.run_pure]
    ·unfold Pk
     rw[ha]
     simp only[]
     congr 1
     apply Array.ext'
     rw[Array.toList_extract,List.extract_eq_take_drop,Nat.add_sub_cancel_left,hsz]
   have hone:isAggD r.und=false→ks.length=1→∃x,(part t cs.toArray off).run P w=.ok x w∧Pk r ((cs.drop off).take ks.length) x:=fun ha h1=>by
    have hlt:off<cs.length:=by omega
    refine ⟨cs[off],?_,?_⟩
    ·unfold part
     simp only[Sem.run_bind,hagg,Result.andThen_ok,ha,Bool.false_eq_true,if_false]
     rw[List.getElem?_toArray,List.getElem?_eq_getElem hlt]
     rfl
    ·unfold Pk
     rw[ha]
     simp only[]
     rw[h1,List.drop_eq_getElem_cons hlt]
     rfl
   have hsized:∀{n:Nat} {o:Option (List Nat)},sized n o=some ks→ks.length=n:=fun {n o} h=>by
    unfold sized at h
    split at h
    ·split at h
     ·rename_i hb
      simp only[Option.some.injEq] at h
      subst h
      exact Nat.eq_of_beq_eq_true hb
     ·cases h
    ·cases h
   split at hk
   ·rename_i hu
    split at hk
    ·exact hbig (by rw[hu];rfl) (hsized hk)
    ·cases hk
   ·rename_i hu
    split at hk
    ·exact hbig (by rw[hu];rfl) (hsized hk)
    ·cases hk
   all_goals first
    | cases hk;done
    | (rename_i hu;simp only[Option.some.injEq] at hk;subst hk;exact hone (by rw[hu];rfl) rfl)
omit hF in
theorem flatK_ty{d:Nat}{t:TypeId}{ks:List Nat}(h:flatK E d t=some ks):∃r,E.ty t=some r:=by
 cases d with
 | zero=>simp[flatK] at h
 | succ d=>
   cases hr:E.ty t with
   | none=>simp[flatK,hr] at h
   | some r=>exact ⟨r,rfl⟩
theorem parts_ok{d D:Nat}(ih:∀t ks,flatK E d t=some ks→∀r,E.ty t=some r→∀(xs ys:List Value) (b:Bool) (w:World) (x y:Value),Pk r xs x→Pk r ys y→fits ks (xs.map .lit)=true→flatEq (xs.map .lit) (ys.map .lit)=some b→(Op.equalIn D t x y).run P w=.ok b w)
  (xs ys:List Value) (w:World) (hl:ys.length=xs.length):∀(l:List (TypeId×Nat)) (off:Nat) (ks:List Nat) (b:Bool),off≤xs.length→flatParts (flatK E d) off l=some ks→fits ks ((xs.drop off).map .lit)=true→flatEq ((xs.drop off).map .lit) ((ys.drop off).map .lit)=some b →
  (eqParts D xs.toArray ys.toArray l).run P w=.ok b w
 | [],off,ks,b,ho,h,hf,he=>by
   simp only[flatParts,Option.some.injEq] at h
   subst h
   have h1:=fits_length hf
   simp only[List.length_nil] at h1
   have h2:=List.length_eq_zero_iff.1 h1
   have h3:(ys.drop off).map AV.lit=[]:=by
    apply List.length_eq_zero_iff.1
    have:=congrArg List.length h2
    simp at this ⊢
    omega
   rw[h2,h3] at he
   simp only[flatEq,Option.some.injEq] at he
   subst he
   rfl
 | (t,o)::l,off,ks,b,ho,h,hf,he=>by
   simp only[flatParts] at h
   split at h
   ·rename_i k1 hb hk
    have hb:=Nat.eq_of_beq_eq_true hb
    subst hb
    obtain ⟨k2,hk2,rfl⟩:=Option.map_eq_some_iff.1 h
    obtain ⟨f1,f2⟩:=fits_append hf
    obtain ⟨c1,c2,e1,e2,rfl⟩:=flatEq_append k1.length he
    have hlen:=fits_length hf
    simp only[List.length_map,List.length_drop,List.length_append] at hlen
    obtain ⟨r,hr⟩:=flatK_ty hk
    have hxl:o+k1.length≤xs.length:=by omega
    obtain ⟨x,px,qx⟩:=part_flat hF hk hr xs o hxl w
    obtain ⟨y,py,qy⟩:=part_flat hF hk hr ys o (by omega) w
    rw[←List.map_take] at f1 e1
    rw[←List.map_take] at e1
    have heq:=ih t k1 hk r hr _ _ c1 w x y qx qy f1 e1
    simp only[eqParts,Sem.run_bind,px,py,heq,Result.andThen_ok]
    cases c1 with
    | false=>rfl
    | true=>
      simp only[Bool.not_true,Bool.false_eq_true,if_false,Bool.true_and]
      rw[←List.map_drop,List.drop_drop] at f2 e2
      rw[←List.map_drop,List.drop_drop] at e2
      exact parts_ok ih xs ys w hl l _ k2 c2 hxl hk2 f2 e2
   ·cases h
omit hF in
theorem info_of{t:TypeId}{i:TypeInfo}{w:World}(h:(typeInfo t).run P w=.ok i w):P.info? t=some i:=by
 unfold typeInfo at h
 simp only[Sem.run_bind,run_program,Result.andThen_ok] at h
 split at h
 ·rename_i j hj
  simp only[Sem.run_pure,Result.ok.injEq,and_true] at h
  rw[hj,h]
 ·exact absurd h (by intro h;cases h)
theorem flatK_eq:∀(d:Nat) (t:TypeId) (ks:List Nat),flatK E d t=some ks→∀r,E.ty t=some r→∀D,d≤D→∀(xs ys:List Value) (b:Bool) (w:World) (x y:Value),Pk r xs x→Pk r ys y→fits ks (xs.map .lit)=true→flatEq (xs.map .lit) (ys.map .lit)=some b→(Op.equalIn D t x y).run P w=.ok b w
 | 0,t,ks,h,_,_,_,_,_,_,_,_,_,_,_,_,_,_=>by simp[flatK] at h
 | d+1,t,ks,h,r,hr,D+1,hD,xs,ys,b,w,x,y,hx,hy,hf,he=>by
   have hund:=hF.und t r hr
   have hlen:ys.length=xs.length:=by simpa using flatEq_length he
   have ih:=fun t ks hk r hr=>flatK_eq d t ks hk r hr D (by omega)
   have hs:∀{n:Nat} {o:Option (List Nat)},sized n o=some ks→o=some ks:=fun {n o} h=>by
    unfold sized at h
    split at h
    ·split at h
     ·exact h
     ·cases h
    ·cases h
   simp only[flatK,hr] at h
   unfold Pk at hx hy
   split at h
   ·rename_i fs hu
    split at h
    ·rename_i hb
     rw[Bool.and_eq_true] at hb
     rw[hu] at hx hy hund
     simp only[isAggD] at hx hy
     subst hx;subst hy
     have hfo:P.fieldsOf t=fs:=by simp[Program.fieldsOf,hund]
     have hne:r.flat≠none:=by
      intro e
      rw[e] at hb
      cases hb.1
     rw[run_equalIn_struct w D t _ _ (by rw[hfo];exact hund) (hF.held t r fs hr hne hu),hfo,eqFields_parts _ hb.2]
     exact parts_ok hF ih xs ys w hlen _ 0 ks b (Nat.zero_le _) (hs h) (by simpa using hf) (by simpa using he)
    ·cases h
   ·rename_i n e hu
    split at h
    ·rename_i er her
     rw[hu] at hx hy hund
     simp only[isAggD] at hx hy
     subst hx;subst hy
     have hi:=info_of (hF.info e er her w)
     rw[run_equalIn_array w D _ _ hund hi,eqItems_parts,show P.cellsOf e=er.info.size by simp[Program.cellsOf,hi]]
     exact parts_ok hF ih xs ys w hlen _ 0 ks b (Nat.zero_le _) (hs h) (by simpa using hf) (by simpa using he)
    ·cases h
   ·rename_i hu
    simp only[Option.some.injEq] at h
    subst h
    rw[hu] at hx hy hund
    simp only[isAggD] at hx hy
    subst hx;subst hy
    cases x<;>simp[fits] at hf
    cases y<;>simp[flatEq,scalarEq] at he
    subst he
    exact run_equalIn_bool w D t _ _ hund
   ·rename_i k hu
    simp only[Option.some.injEq] at h
    subst h
    rw[hu] at hx hy hund
    simp only[isAggD] at hx hy
    subst hx;subst hy
    cases x<;>simp[fits] at hf
    cases y<;>simp[flatEq,scalarEq] at he
    split at he
    ·rename_i hk
     rename_i heq
     split at heq
     ·rename_i hkk
      subst hkk
      simp only[Option.some.injEq] at heq he hk
      subst heq
      subst hk
      rw[run_equalIn_int w D t _ _ _ _ hund,←he,Bool.and_true]
     ·cases heq
    ·cases he
   ·rename_i hu
    simp only[Option.some.injEq] at h
    subst h
    rw[hu] at hx hy hund
    simp only[isAggD] at hx hy
    subst hx;subst hy
    cases x<;>simp[fits] at hf
    cases y<;>simp[flatEq,scalarEq] at he
    subst he
    rw[run_equalIn_string w D t _ _ hund,ByteArray.toList_eq,ByteArray.toList_eq]
    congr 1
    rw[Bool.eq_iff_iff]
    simp
   ·cases h
theorem checkKey_scalar{b:Bool}{n:Nat}{t:TypeId}{r:TyRow}(hr:E.ty t=some r)(hk:(kindOf r.und).isSome=true)(v:Value)(w:World):(Instr.checkKey b (n+1) t v).run P w=.ok () w:=by
 unfold Instr.checkKey
 simp only[Sem.run_bind,run_underlying (hF.und t r hr),Result.andThen_ok]
 cases hu:r.und<;>rw[hu] at hk<;>simp[kindOf] at hk<;>rfl
theorem checkKey_array{b:Bool}{n:Nat}{t e:TypeId}{k:Nat}{r er:TyRow}(hr:E.ty t=some r)(hu:r.und=.array k e)(her:E.ty e=some er)(hk:(kindOf er.und).isSome=true)(hsz:er.info.size=1)(xs:List Value)(hl:k≤xs.length)(w:World) :
  (Instr.checkKey b (n+2) t (.agg xs.toArray)).run P w=.ok () w:=by
 rw[Instr.checkKey]
 simp only[Sem.run_bind,run_underlying (hF.und t r hr),Result.andThen_ok,hu]
 simp only[Std.Legacy.Range.forIn_eq_forIn_range',Std.Legacy.Range.size,Nat.sub_zero,Nat.add_one_sub_one,Nat.div_one]
 have hsize:∀w,(sizeOf e).run P w=.ok 1 w:=fun w=>by simp[Go.sizeOf,hF.info e er her w,hsz]
 have key:∀(is:List Nat),(∀i∈is,i<xs.length)→(forIn is PUnit.unit fun i x=>do
   let s ←sizeOf e
   let p ←part e xs.toArray (i * s)
   Instr.checkKey b (n+1) e p
   pure (ForInStep.yield PUnit.unit):Sem PUnit).run P w=.ok PUnit.unit w:=by
  intro is
  induction is with
  | nil=>intro _;rfl
  | cons i is ih=>
    intro h
    have hi:=h i (by simp)
    have hpart:(part e xs.toArray (i * 1)).run P w=.ok xs[i] w:=by
     unfold part isAgg
     simp only[Sem.run_bind,run_underlying (hF.und e er her),Result.andThen_ok]
     have:xs.toArray[i * 1]?=some xs[i]:=by rw[Nat.mul_one,List.getElem?_toArray,List.getElem?_eq_getElem hi]
     cases hue:er.und<;>rw[hue] at hk<;>simp[kindOf] at hk<;>simp[List.getElem?_eq_getElem hi]
    simp only[List.forIn_cons,Sem.run_bind,hsize,hpart,Result.andThen_ok,checkKey_scalar hF her hk,Sem.run_pure]
    exact ih fun j hj=>h j (by simp[hj])
 have:=key (List.range' 0 k) (fun i hi=>by have:=List.mem_range'_1.1 hi;omega)
 simp at this ⊢
 rw[this]
 rfl
theorem Facts.ok:EnvOk P E where
 info:=hF.info
 und:=hF.und
 fn:=hF.fn
 wide:=hF.wide
 guard:=fun t r n hr hf=>hF.guard t r hr (by rw[hf];simp)
 eq:=fun t r n hr hf xs ys b w hx hy hfit he=>by
  have h:=hF.flat t r hr
  unfold flatOk at h
  rw[hf] at h
  simp only[Bool.and_eq_true] at h
  obtain ⟨⟨⟨h1,h2⟩,h3⟩,h4⟩:=h
  split at h1
  ·rename_i ks hk
   simp only[decide_eq_true_eq] at h1
   subst h1
   refine flatK_eq hF 8 t _ hk r hr Op.maxDepth (by unfold Op.maxDepth;omega) xs ys b w _ _ ?_ ?_ hfit he
   all_goals (unfold Pk;rw[h4])
  ·cases h1
 key:=fun t r n k e hr hf hu xs b w hl=>by
  have h:=hF.flat t r hr
  unfold flatOk at h
  rw[hf] at h
  simp only[Bool.and_eq_true] at h
  obtain ⟨⟨⟨h1,h2⟩,h3⟩,h4⟩:=h
  unfold keyOk at h3
  rw[hu] at h3
  simp only[] at h3
  split at h3
  ·rename_i er her
   simp only[Bool.and_eq_true] at h3
   obtain ⟨⟨h7,h5⟩,h6⟩:=h3
   have h2:=Nat.eq_of_beq_eq_true h2
   have h5:=Nat.eq_of_beq_eq_true h5
   have h6:=Nat.eq_of_beq_eq_true h6
   exact checkKey_array hF hr hu her h7 h5 xs (by omega) w
  ·cases h3
end
def T.All{α:Type}(p:Nat→α→Prop):Nat→Nat→T α→Prop
 | _,_,.e=>True
 | k,m,.n v l r=>(match v with
   | none=>True
   | some a=>p k a)∧T.All p (k+m) (2 * m) l∧T.All p (k+2 * m) (2 * m) r
theorem T.All.at{α:Type}{p:Nat→α→Prop}:∀{t:T α} {k m i:Nat} {a:α},T.All p k m t→t.get i=some a→p (k+m * i) a
 | .e,k,m,i,a,_,h=>by simp[T.get] at h
 | .n v l r,k,m,i,a,H,h=>by
   obtain ⟨h1,h2,h3⟩:=H
   cases i with
   | zero=>
     simp only[T.get] at h
     subst h
     simpa using h1
   | succ i=>
     simp only[T.get] at h
     split at h
     ·rename_i hb
      have hb:=beq_t hb
      have:=h2.at h
      have e:k+m+2 * m * (i / 2)=k+m * (i+1):=by
       have:i=2 * (i / 2):=by omega
       rw[Nat.mul_assoc,Nat.mul_left_comm,←this,Nat.mul_succ]
       omega
      rwa [e] at this
     ·rename_i hb
      have hb:=beq_f hb
      have:=h3.at h
      have e:k+2 * m+2 * m * (i / 2)=k+m * (i+1):=by
       have h2:i+1=2 * (i / 2)+2:=by omega
       rw[h2,Nat.mul_add,Nat.mul_assoc,Nat.mul_left_comm 2 m,Nat.mul_comm 2 m]
       omega
      rwa [e] at this
structure TyP(P:Program)(E:Env)(t:Nat)(r:TyRow):Prop where
 info:∀w,(typeInfo t).run P w=.ok r.info w
 und:P.underlying t=some r.und
 guard:r.flat≠none→P.eqGuardType P.depth t=false
 held:∀fs,r.flat≠none→r.und=.struct fs→P.stoodInHeld t=false
 flat:flatOk E t r=true
def FnP(P:Program)(f:Nat)(fn:Func):Prop:=P.funcs[f]?=some fn∧∀args w,(callFunc f args).run P w=.ok (.enter f args) w
theorem ty0{P:Program}{E:Env}{t:Nat}{i:TypeInfo}{d:TypeDesc}(h1:∀w,(typeInfo t).run P w=.ok i w)(h2:P.underlying t=some d):TyP P E t ⟨i,d,none,[]⟩:=
 ⟨h1,h2,fun h=>absurd rfl h,fun _ h=>absurd rfl h,rfl⟩
theorem tyS{P:Program}{E:Env}{t:Nat}{i:TypeInfo}{d:TypeDesc}{n:Nat}{ks:List Nat}(h1:∀w,(typeInfo t).run P w=.ok i w)(h2:P.underlying t=some d)(h3:P.eqGuardType P.depth t=false)(h4:P.stoodInHeld t=false)
  (h5:flatOk E t ⟨i,d,some n,ks⟩=true):TyP P E t ⟨i,d,some n,ks⟩:=
 ⟨h1,h2,fun _=>h3,fun _ _ _=>h4,h5⟩
theorem tyA{P:Program}{E:Env}{t:Nat}{i:TypeInfo}{d:TypeDesc}{n:Nat}{ks:List Nat}{k e:Nat}(hd:d=.array k e)(h1:∀w,(typeInfo t).run P w=.ok i w)(h2:P.underlying t=some d)(h3:P.eqGuardType P.depth t=false)
  (h5:flatOk E t ⟨i,d,some n,ks⟩=true):TyP P E t ⟨i,d,some n,ks⟩:=
 ⟨h1,h2,fun _=>h3,fun _ _ h=>(by subst hd;cases h),h5⟩
theorem facts_of{P:Program}{E:Env}{tys:T TyRow}{fns:T Func}(e1:E.ty=tys.get)(e2:E.fn=fns.get)(hw:P.follows .mixedOrders=true)(h1:T.All (TyP P E) 0 1 tys)(h2:T.All (FnP P) 0 1 fns):Facts P E:=by
 have ht:∀t r,E.ty t=some r→TyP P E t r:=fun t r h=>by
  rw[e1] at h
  have:=h1.at h
  rwa [Nat.zero_add,Nat.one_mul] at this
 have hf:∀f fn,E.fn f=some fn→FnP P f fn:=fun t r h=>by
  rw[e2] at h
  have:=h2.at h
  rwa [Nat.zero_add,Nat.one_mul] at this
 exact ⟨fun t r h=>(ht t r h).info,fun t r h=>(ht t r h).und,fun f fn h=>hf f fn h,hw,fun t r h hn=>(ht t r h).guard hn,fun t r fs h hn hu=>(ht t r h).held fs hn hu,fun t r h=>(ht t r h).flat⟩
end Go.Proofs.YtmbdghclhpboaaaGreat.Ev
namespace Go.Proofs.YtmbdghclhpboaaaGreat.Ev
open Go.RowKit (Below)
def evFlatO(E:Env)(hv:Cb)(d f:Nat)(args:List AV):Option Value:=
 match evCall E hv d f args σe with
 | some (v,_)=>v.flat
 | none=>none
def evFlat(E:Env)(d f:Nat)(args:List AV):Option Value:=evFlatO E noHv d f args
theorem evFlatO_ok{P:Program}{E:Env}(hE:EnvOk P E){hv:Cb}(hov:CbOk P hv){d f:Nat}{args:List AV}{v:Value}(h:evFlatO E hv d f args=some v){xs:Array Value}(hx:Concs emp args xs.toList)(w:World) :
  Calls P f xs w (fun e w'=>e=.returned v∧Below w.heap.size w w'):=by
 unfold evFlatO at h
 split at h
 ·rename_i u σ' hc
  exact (evCall_ok hE hov d f args σe u σ' hc (frz w emp) emp w xs (rel_start w) hx).2 _ fun γ' x w' hxv hR _=>⟨by rw[flat_conc u v x h hxv],below_of hR.frame⟩
 ·cases h
theorem evFlat_ok{P:Program}{E:Env}(hE:EnvOk P E){d f:Nat}{args:List AV}{v:Value}(h:evFlat E d f args=some v){xs:Array Value}(hx:Concs emp args xs.toList)(w:World) :
  Calls P f xs w (fun e w'=>e=.returned v∧Below w.heap.size w w'):=evFlatO_ok hE (noHv_ok P) h hx w
end Go.Proofs.YtmbdghclhpboaaaGreat.Ev

/- Part of the proof: EvY. Conditions: as each states. -/
import Derived.Test.YtmbdghclhpboaaaGreatPq11
set_option linter.all false
namespace Go.Proofs.YtmbdghclhpboaaaGreat.Ev
def xh:TypeDesc->Option Nat
 | .bool=>some 0
 | .int _=>some 1
 | .string=>some 2
 | _=>none
def mI(go:TypeId->Option (List Nat)):Nat->List (TypeId×Nat)->Option (List Nat)
 | _,[]=>some []
 | off,(t,o)::l=>match Nat.beq o off,go t with
   | true,some ks=>(mI go (off+ks.length) l).map (ks++·)
   | _,_=>none
def sized(n:Nat):Option (List Nat)->Option (List Nat)
 | some ks=>match Nat.beq ks.length n with
   | true=>some ks
   | false=>none
 | none=>none
def lS(E:Env):Nat->TypeId->Option (List Nat)
 | 0,_=>none
 | d+1,t=>match E.ty t with
   | none=>none
   | some r=>match r.bp with
     | .struct fs=>match r.flat.isSome&&fs.toList.all (fun f=>f.name != "_") with
       | true=>sized r.info.size (mI (lS E d) 0 (fs.toList.map fun f=>(f.type,f.offset)))
       | false=>none
     | .array n e=>match E.ty e with
       | some er=>sized r.info.size (mI (lS E d) 0 ((List.range n).map fun i=>(e,i * er.info.size)))
       | none=>none
     | .bool=>some [0]
     | .int _=>some [1]
     | .string=>some [2]
     | _=>none
def Qz(E:Env)(r:dd):Bool:=
 match r.bp with
 | .array k e=>match E.ty e with
   | some er=>(xh er.bp).isSome&&Nat.beq er.info.size 1&&Nat.beq k r.kinds.length
   | none=>false
 | _=>true
def bP(E:Env)(t:TypeId)(r:dd):Bool:=
 match r.flat with
 | none=>true
 | some n=>(match lS E 8 t with
   | some ks=>decide (ks=r.kinds)
   | none=>false)&&Nat.beq r.kinds.length n&&Qz E r&&bQ r.bp
structure J7(P:Program)(E:Env):Prop where
 info:∀t r,E.ty t=some r->∀w,(typeInfo t).run P w=.ok r.info w
 bp:∀t r,E.ty t=some r->P.underlying t=some r.bp
 fn:∀f fn,E.fn f=some fn->P.funcs[f]?=some fn/\∀args w,(callFunc f args).run P w=.ok (.enter f args) w
 wide:P.follows .mixedOrders=true
 guard:∀t r,E.ty t=some r->r.flat≠none->P.eqGuardType P.depth t=false
 held:∀t r fs,E.ty t=some r->r.flat≠none->r.bp=.struct fs->P.stoodInHeld t=false
 flat:∀t r,E.ty t=some r->bP E t r=true
theorem qW:∀{ks:List Nat} {l:List AV},fits ks l=true->l.length=ks.length
 | [],[],_=>rfl
 | [],_::_,h=>by simp[fits] at h
 | _::_,[],h=>by simp[fits] at h
 | k::ks,v::l,h=>by
   cases v with
   | lit u=>
     simp only[fits,Bool.and_eq_true] at h;simp[qW h.2]
   | _=>simp[fits] at h
theorem wV:∀{k1 k2:List Nat} {l:List AV},fits (k1++k2) l=true->fits k1 (l.take k1.length)=true/\fits k2 (l.drop k1.length)=true
 | [],k2,l,h=>⟨by simp[fits],by simpa using h⟩
 | k::ks,k2,[],h=>by simp[fits] at h
 | k::ks,k2,v::l,h=>by
   cases v with
   | lit u=>
     simp only[List.cons_append,fits,Bool.and_eq_true] at h;obtain ⟨h1,h2⟩:=wV h.2;simp only[List.length_cons,List.take_succ_cons,List.drop_succ_cons,fits,Bool.and_eq_true];exact ⟨⟨h.1,h1⟩,h2⟩
   | _=>simp[fits] at h
theorem sO:∀(n:Nat) {a b:List AV} {c:Bool},bz a b=some c->∃c1 c2,bz (a.take n) (b.take n)=some c1/\bz (a.drop n) (b.drop n)=some c2/\c=(c1&&c2)
 | 0,a,b,c,h=>⟨true,c,by simp[bz],by simpa using h,by simp⟩
 | n+1,[],[],c,h=>⟨true,c,by simp[bz],by simpa using h,by simp⟩
 | n+1,[],_::_,c,h=>by simp[bz] at h
 | n+1,x::a,[],c,h=>by cases x<;>simp[bz] at h
 | n+1,x::a,y::b,c,h=>by
   cases x with
   | lit u=>
     cases y with
     | lit v=>
       simp only[bz] at h;cases hs:mV u v with
       | none=>rw[hs] at h;simp at h
       | some s=>
         cases hr:bz a b with
         | none=>rw[hs,hr] at h;simp at h
         | some r=>
           rw[hs,hr] at h;simp only[Option.some.injEq] at h;obtain ⟨c1,c2,h1,h2,rfl⟩:=sO n hr;refine ⟨s&&c1,c2,?_,by simpa using h2,?_⟩
           ·simp only[List.take_succ_cons,bz,hs,h1]
           ·rw[<-h,Bool.and_assoc]
     | _=>simp[bz] at h
   | _=>simp[bz] at h
def Pk(r:dd)(xs:List Value)(x:Value):Prop:=
 match bQ r.bp with
 | true=>x=.agg xs.toArray
 | false=>xs=[x]
def oP(d:Nat)(xs ys:Array Value):List (TypeId×Nat)->Sem Bool
 | []=>pure true
 | (t,o)::l=>do
   let a <-part t xs o
   let b <-part t ys o
   let r <-Op.equalIn d t a b
   if (!r)=true then pure false else oP d xs ys l
theorem rU{d:Nat}{xs ys:Array Value}:∀(fs:List Field),fs.all (fun f=>f.name != "_")=true->Op.eqFields d xs ys fs=oP d xs ys (fs.map fun f=>(f.type,f.offset))
 | [],_=>rfl
 | f::fs,h=>by
   simp only[List.all_cons,Bool.and_eq_true,bne_iff_ne,ne_eq] at h;simp only[Op.eqFields,List.map_cons,oP];rw[if_pos h.1,rU fs (by simpa using h.2)]
theorem sK{d:Nat}{e c:Nat}{xs ys:Array Value}:∀(is:List Nat),Op.eqItems d e c xs ys is=oP d xs ys (is.map fun i=>(e,i * c))
 | []=>rfl
 | i::is=>by simp only[Op.eqItems,List.map_cons,oP];rw[sK is]
section
variable{P:Program}{E:Env}(hF:J7 P E)
include hF
theorem Cr{d:Nat}{t:TypeId}{ks:List Nat}{r:dd}(hk:lS E d t=some ks)(hr:E.ty t=some r)(cs:List Value)(off:Nat)(hl:off+ks.length<=cs.length)(w:World) :
  ∃x,(part t cs.toArray off).run P w=.ok x w/\Pk r ((cs.drop off).take ks.length) x:=by
 cases d with
 | zero=>simp[lS] at hk
 | succ d=>
   simp only[lS,hr] at hk;have Iw:(isAgg t).run P w=.ok (bQ r.bp) w:=by
    unfold isAgg;simp only[Sem.run_bind,run_underlying (hF.bp t r hr),Result.andThen_ok];cases r.bp<;>rfl
   have rV:bQ r.bp=true->ks.length=r.info.size->∃x,(part t cs.toArray off).run P w=.ok x w/\Pk r ((cs.drop off).take ks.length) x:=fun ha jD=>by
    refine ⟨.agg (cs.toArray.extract off (off+r.info.size)),?_,?_⟩
    ·unfold part;simp only[Sem.run_bind,Iw,Result.andThen_ok,ha,if_true,Go.sizeOf,hF.info t r hr w,Sem.run_pure]
    ·unfold Pk;rw[ha];simp only[];congr 1;apply Array.ext';rw[Array.toList_extract,List.extract_eq_take_drop,Nat.add_sub_cancel_left,jD]
   have xa:bQ r.bp=false->ks.length=1->∃x,(part t cs.toArray off).run P w=.ok x w/\Pk r ((cs.drop off).take ks.length) x:=fun ha h1=>by
    have an:off<cs.length:=by omega
    refine ⟨cs[off],?_,?_⟩
    ·unfold part;simp only[Sem.run_bind,Iw,Result.andThen_ok,ha,Bool.false_eq_true,if_false];rw[List.getElem?_toArray,List.getElem?_eq_getElem an];rfl
    ·unfold Pk;rw[ha];simp only[];rw[h1,List.drop_eq_getElem_cons an];rfl
   have Mg:∀{n:Nat} {o:Option (List Nat)},sized n o=some ks->ks.length=n:=fun {n o} h=>by
    unfold sized at h;split at h
    ·split at h
     ·rename_i hb;simp only[Option.some.injEq] at h;subst h;exact nQ1 hb
     ·cases h
    ·cases h
   split at hk
   ·rename_i hu;split at hk
    ·exact rV (by rw[hu];rfl) (Mg hk)
    ·cases hk
   ·rename_i hu;split at hk
    ·exact rV (by rw[hu];rfl) (Mg hk)
    ·cases hk
   all_goals first
    | cases hk;done
    | (rename_i hu;simp only[Option.some.injEq] at hk;subst hk;exact xa (by rw[hu];rfl) rfl)
omit hF in
theorem Nz{d:Nat}{t:TypeId}{ks:List Nat}(h:lS E d t=some ks):∃r,E.ty t=some r:=by
 cases d with
 | zero=>simp[lS] at h
 | succ d=>
   cases hr:E.ty t with
   | none=>simp[lS,hr] at h
   | some r=>exact ⟨r,rfl⟩
theorem yP{d D:Nat}(ih:∀t ks,lS E d t=some ks->∀r,E.ty t=some r->∀(xs ys:List Value) (b:Bool) (w:World) (x y:Value),Pk r xs x->Pk r ys y->fits ks (xs.map .lit)=true->bz (xs.map .lit) (ys.map .lit)=some b->(Op.equalIn D t x y).run P w=.ok b w)
  (xs ys:List Value) (w:World) (hl:ys.length=xs.length):∀(l:List (TypeId×Nat)) (off:Nat) (ks:List Nat) (b:Bool),off<=xs.length->mI (lS E d) off l=some ks->fits ks ((xs.drop off).map .lit)=true->bz ((xs.drop off).map .lit) ((ys.drop off).map .lit)=some b ->
  (oP D xs.toArray ys.toArray l).run P w=.ok b w
 | [],off,ks,b,ho,h,hf,he=>by
   simp only[mI,Option.some.injEq] at h;subst h;have h1:=qW hf;simp only[List.length_nil] at h1;have h2:=List.length_eq_zero_iff.1 h1;have h3:(ys.drop off).map AV.lit=[]:=by
    apply List.length_eq_zero_iff.1;have:=congrArg List.length h2;simp at this ⊢;omega
   rw[h2,h3] at he;simp only[bz,Option.some.injEq] at he;subst he;rfl
 | (t,o)::l,off,ks,b,ho,h,hf,he=>by
   simp only[mI] at h;split at h
   ·rename_i k1 hb hk;have hb:=nQ1 hb;subst hb;obtain ⟨k2,dS,rfl⟩:=oM1.1 h;obtain ⟨f1,f2⟩:=wV hf;obtain ⟨c1,c2,e1,e2,rfl⟩:=sO k1.length he;have hlen:=qW hf;simp only[List.length_map,List.length_drop,List.length_append] at hlen;obtain ⟨r,hr⟩:=Nz hk;have F9:o+k1.length<=xs.length:=by omega
    obtain ⟨x,px,qx⟩:=Cr hF hk hr xs o F9 w;obtain ⟨y,py,qy⟩:=Cr hF hk hr ys o (by omega) w;rw[<-List.map_take] at f1 e1;rw[<-List.map_take] at e1;have heq:=ih t k1 hk r hr _ _ c1 w x y qx qy f1 e1;simp only[oP,Sem.run_bind,px,py,heq,Result.andThen_ok];cases c1 with
    | false=>rfl
    | true=>
      simp only[Bool.not_true,Bool.false_eq_true,if_false,Bool.true_and];rw[<-List.map_drop,List.drop_drop] at f2 e2;rw[<-List.map_drop,List.drop_drop] at e2;exact yP ih xs ys w hl l _ k2 c2 F9 dS f2 e2
   ·cases h
omit hF in
theorem Qx{t:TypeId}{i:TypeInfo}{w:World}(h:(typeInfo t).run P w=.ok i w):P.info? t=some i:=by
 unfold typeInfo at h;simp only[Sem.run_bind,run_program,Result.andThen_ok] at h;split at h
 ·rename_i j hj;simp only[Sem.run_pure,Result.ok.injEq,and_true] at h;rw[hj,h]
 ·exact absurd h (by intro h;cases h)
theorem Ec:∀(d:Nat) (t:TypeId) (ks:List Nat),lS E d t=some ks->∀r,E.ty t=some r->∀D,d<=D->∀(xs ys:List Value) (b:Bool) (w:World) (x y:Value),Pk r xs x->Pk r ys y->fits ks (xs.map .lit)=true->bz (xs.map .lit) (ys.map .lit)=some b->(Op.equalIn D t x y).run P w=.ok b w
 | 0,t,ks,h,_,_,_,_,_,_,_,_,_,_,_,_,_,_=>by simp[lS] at h
 | d+1,t,ks,h,r,hr,D+1,hD,xs,ys,b,w,x,y,hx,hy,hf,he=>by
   have tA:=hF.bp t r hr;have hlen:ys.length=xs.length:=by simpa using sP he
   have ih:=fun t ks hk r hr=>Ec d t ks hk r hr D (by omega);have hs:∀{n:Nat} {o:Option (List Nat)},sized n o=some ks->o=some ks:=fun {n o} h=>by
    unfold sized at h;split at h
    ·split at h
     ·exact h
     ·cases h
    ·cases h
   simp only[lS,hr] at h;unfold Pk at hx hy;split at h
   ·rename_i fs hu;split at h
    ·rename_i hb;rw[Bool.and_eq_true] at hb;rw[hu] at hx hy tA;simp only[bQ] at hx hy;subst hx;subst hy;have Tl:P.fieldsOf t=fs:=by simp[Program.fieldsOf,tA]
     have aP:r.flat≠none:=by
      intro e;rw[e] at hb;cases hb.1
     rw[run_equalIn_struct w D t _ _ (by rw[Tl];exact tA) (hF.held t r fs hr aP hu),Tl,rU _ hb.2];exact yP hF ih xs ys w hlen _ 0 ks b (Nat.zero_le _) (hs h) (by simpa using hf) (by simpa using he)
    ·cases h
   ·rename_i n e hu;split at h
    ·rename_i er fN;rw[hu] at hx hy tA;simp only[bQ] at hx hy;subst hx;subst hy;have hi:=Qx (hF.info e er fN w);rw[run_equalIn_array w D _ _ tA hi,sK,show P.cellsOf e=er.info.size by simp[Program.cellsOf,hi]];exact yP hF ih xs ys w hlen _ 0 ks b (Nat.zero_le _) (hs h) (by simpa using hf) (by simpa using he)
    ·cases h
   ·rename_i hu;simp only[Option.some.injEq] at h;subst h;rw[hu] at hx hy tA;simp only[bQ] at hx hy;subst hx;subst hy;cases x<;>simp[fits] at hf
    cases y<;>simp[bz,mV] at he
    subst he;exact run_equalIn_bool w D t _ _ tA
   ·rename_i k hu;simp only[Option.some.injEq] at h;subst h;rw[hu] at hx hy tA;simp only[bQ] at hx hy;subst hx;subst hy;cases x<;>simp[fits] at hf
    cases y<;>simp[bz,mV] at he
    split at he
    ·rename_i hk;rename_i heq;split at heq
     ·rename_i ti;subst ti;simp only[Option.some.injEq] at heq he hk;subst heq;subst hk;rw[run_equalIn_int w D t _ _ _ _ tA,<-he,Bool.and_true]
     ·cases heq
    ·cases he
   ·rename_i hu;simp only[Option.some.injEq] at h;subst h;rw[hu] at hx hy tA;simp only[bQ] at hx hy;subst hx;subst hy;cases x<;>simp[fits] at hf
    cases y<;>simp[bz,mV] at he
    subst he;rw[run_equalIn_string w D t _ _ tA,ByteArray.toList_eq,ByteArray.toList_eq];congr 1;rw[Bool.eq_iff_iff];simp
   ·cases h
theorem yh{b:Bool}{n:Nat}{t:TypeId}{r:dd}(hr:E.ty t=some r)(hk:(xh r.bp).isSome=true)(v:Value)(w:World):(Instr.checkKey b (n+1) t v).run P w=.ok () w:=by
 unfold Instr.checkKey;simp only[Sem.run_bind,run_underlying (hF.bp t r hr),Result.andThen_ok];cases hu:r.bp<;>rw[hu] at hk<;>simp[xh] at hk<;>rfl
theorem zY{b:Bool}{n:Nat}{t e:TypeId}{k:Nat}{r er:dd}(hr:E.ty t=some r)(hu:r.bp=.array k e)(fN:E.ty e=some er)(hk:(xh er.bp).isSome=true)(jD:er.info.size=1)(xs:List Value)(hl:k<=xs.length)(w:World) :
  (Instr.checkKey b (n+2) t (.agg xs.toArray)).run P w=.ok () w:=by
 rw[Instr.checkKey];simp only[Sem.run_bind,run_underlying (hF.bp t r hr),Result.andThen_ok,hu];simp only[Std.Legacy.Range.forIn_eq_forIn_range',Std.Legacy.Range.size,Nat.sub_zero,Nat.add_one_sub_one,Nat.div_one];have XB:∀w,(sizeOf e).run P w=.ok 1 w:=fun w=>by simp[Go.sizeOf,hF.info e er fN w,jD]
 have key:∀(is:List Nat),(∀i∈is,i<xs.length)->(forIn is PUnit.unit fun i x=>do
   let s <-sizeOf e
   let p <-part e xs.toArray (i * s)
   Instr.checkKey b (n+1) e p
   pure (ForInStep.yield PUnit.unit):Sem PUnit).run P w=.ok PUnit.unit w:=by
  intro is;induction is with
  | nil=>intro _;rfl
  | cons i is ih=>
    intro h;have hi:=h i (by simp);have nO:(part e xs.toArray (i * 1)).run P w=.ok xs[i] w:=by
     unfold part isAgg;simp only[Sem.run_bind,run_underlying (hF.bp e er fN),Result.andThen_ok];have:xs.toArray[i * 1]?=some xs[i]:=by rw[Nat.mul_one,List.getElem?_toArray,List.getElem?_eq_getElem hi]
     cases hue:er.bp<;>rw[hue] at hk<;>simp[xh] at hk<;>simp[List.getElem?_eq_getElem hi]
    simp only[List.forIn_cons,Sem.run_bind,XB,nO,Result.andThen_ok,yh hF fN hk,Sem.run_pure];exact ih fun j hj=>h j (by simp[hj])
 have:=key (List.range' 0 k) (fun i hi=>by have:=List.mem_range'_1.1 hi;omega);simp at this ⊢;rw[this];rfl
theorem J7.ok:cL P E where
 info:=hF.info
 bp:=hF.bp
 fn:=hF.fn
 wide:=hF.wide
 guard:=fun t r n hr hf=>hF.guard t r hr (by rw[hf];simp)
 eq:=fun t r n hr hf xs ys b w hx hy te he=>by
  have h:=hF.flat t r hr;unfold bP at h;rw[hf] at h;simp only[Bool.and_eq_true] at h;obtain ⟨⟨⟨h1,h2⟩,h3⟩,h4⟩:=h;split at h1
  ·rename_i ks hk;simp only[decide_eq_true_eq] at h1;subst h1;refine Ec hF 8 t _ hk r hr Op.maxDepth (by unfold Op.maxDepth;omega) xs ys b w _ _ ?_ ?_ te he;all_goals (unfold Pk;rw[h4])
  ·cases h1
 key:=fun t r n k e hr hf hu xs b w hl=>by
  have h:=hF.flat t r hr;unfold bP at h;rw[hf] at h;simp only[Bool.and_eq_true] at h;obtain ⟨⟨⟨h1,h2⟩,h3⟩,h4⟩:=h;unfold Qz at h3;rw[hu] at h3;simp only[] at h3;split at h3
  ·rename_i er fN;simp only[Bool.and_eq_true] at h3;obtain ⟨⟨h7,h5⟩,h6⟩:=h3;have h2:=nQ1 h2;have h5:=nQ1 h5;have h6:=nQ1 h6;exact zY hF hr hu fN h7 h5 xs (by omega) w
  ·cases h3
end
def T.GY{α:Type}(p:Nat->α->Prop):Nat->Nat->T α->Prop
 | _,_,.e=>True
 | k,m,.n v l r=>(match v with
   | none=>True
   | some a=>p k a)/\T.GY p (k+m) (2 * m) l/\T.GY p (k+2 * m) (2 * m) r
theorem T.GY.at{α:Type}{p:Nat->α->Prop}:∀{t:T α} {k m i:Nat} {a:α},T.GY p k m t->t.get i=some a->p (k+m * i) a
 | .e,k,m,i,a,_,h=>by simp[T.get] at h
 | .n v l r,k,m,i,a,H,h=>by
   obtain ⟨h1,h2,h3⟩:=H;cases i with
   | zero=>
     simp only[T.get] at h;subst h;simpa using h1
   | succ i=>
     simp only[T.get] at h;split at h
     ·rename_i hb;have hb:=Fo hb;have:=h2.at h;have e:k+m+2 * m * (i / 2)=k+m * (i+1):=by
       have:i=2 * (i / 2):=by omega
       rw[Nat.mul_assoc,Nat.mul_left_comm,<-this,Nat.mul_succ];omega
      rwa [e] at this
     ·rename_i hb;have hb:=Fm hb;have:=h3.at h;have e:k+2 * m+2 * m * (i / 2)=k+m * (i+1):=by
       have h2:i+1=2 * (i / 2)+2:=by omega
       rw[h2,Nat.mul_add,Nat.mul_assoc,Nat.mul_left_comm 2 m,Nat.mul_comm 2 m];omega
      rwa [e] at this
structure Ng(P:Program)(E:Env)(t:Nat)(r:dd):Prop where
 info:∀w,(typeInfo t).run P w=.ok r.info w
 bp:P.underlying t=some r.bp
 guard:r.flat≠none->P.eqGuardType P.depth t=false
 held:∀fs,r.flat≠none->r.bp=.struct fs->P.stoodInHeld t=false
 flat:bP E t r=true
def VU(P:Program)(f:Nat)(fn:Func):Prop:=P.funcs[f]?=some fn/\∀args w,(callFunc f args).run P w=.ok (.enter f args) w
theorem aW{P:Program}{E:Env}{t:Nat}{i:TypeInfo}{d:TypeDesc}(h1:∀w,(typeInfo t).run P w=.ok i w)(h2:P.underlying t=some d):Ng P E t ⟨i,d,none,[]⟩:=
 ⟨h1,h2,fun h=>absurd rfl h,fun _ h=>absurd rfl h,rfl⟩
theorem kj{P:Program}{E:Env}{t:Nat}{i:TypeInfo}{d:TypeDesc}{n:Nat}{ks:List Nat}(h1:∀w,(typeInfo t).run P w=.ok i w)(h2:P.underlying t=some d)(h3:P.eqGuardType P.depth t=false)(h4:P.stoodInHeld t=false)
  (h5:bP E t ⟨i,d,some n,ks⟩=true):Ng P E t ⟨i,d,some n,ks⟩:=
 ⟨h1,h2,fun _=>h3,fun _ _ _=>h4,h5⟩
theorem Va{P:Program}{E:Env}{t:Nat}{i:TypeInfo}{d:TypeDesc}{n:Nat}{ks:List Nat}{k e:Nat}(hd:d=.array k e)(h1:∀w,(typeInfo t).run P w=.ok i w)(h2:P.underlying t=some d)(h3:P.eqGuardType P.depth t=false)
  (h5:bP E t ⟨i,d,some n,ks⟩=true):Ng P E t ⟨i,d,some n,ks⟩:=
 ⟨h1,h2,fun _=>h3,fun _ _ h=>(by subst hd;cases h),h5⟩
theorem Ny{P:Program}{E:Env}{tys:T dd}{fns:T Func}(e1:E.ty=tys.get)(e2:E.fn=fns.get)(hw:P.follows .mixedOrders=true)(h1:T.GY (Ng P E) 0 1 tys)(h2:T.GY (VU P) 0 1 fns):J7 P E:=by
 have ht:∀t r,E.ty t=some r->Ng P E t r:=fun t r h=>by
  rw[e1] at h;have:=h1.at h;rwa [Nat.zero_add,Nat.one_mul] at this
 have hf:∀f fn,E.fn f=some fn->VU P f fn:=fun t r h=>by
  rw[e2] at h;have:=h2.at h;rwa [Nat.zero_add,Nat.one_mul] at this
 exact ⟨fun t r h=>(ht t r h).info,fun t r h=>(ht t r h).bp,fun f fn h=>hf f fn h,hw,fun t r h hn=>(ht t r h).guard hn,fun t r fs h hn hu=>(ht t r h).held fs hn hu,fun t r h=>(ht t r h).flat⟩
end Go.Proofs.YtmbdghclhpboaaaGreat.Ev
namespace Go.Proofs.YtmbdghclhpboaaaGreat.Ev
open Go.RowKit (Below)
def wR(E:Env)(hv:Cb)(d f:Nat)(args:List AV):Option Value:=
 match wQ E hv d f args Vk with
 | some (v,_)=>v.flat
 | none=>none
def qU(E:Env)(d f:Nat)(args:List AV):Option Value:=wR E QN d f args
theorem zp{P:Program}{E:Env}(hE:cL P E){hv:Cb}(Qf:sz P hv){d f:Nat}{args:List AV}{v:Value}(h:wR E hv d f args=some v){xs:Array Value}(hx:aG emp args xs.toList)(w:World) :
  Calls P f xs w (fun e w'=>e=.returned v/\Below w.heap.size w w'):=by
 unfold wR at h;split at h
 ·rename_i u cJ hc;exact (vl hE Qf d f args Vk u cJ hc (PG w emp) emp w xs (CH w) hx).2 _ fun ay x w' hxv hR _=>⟨by rw[jI u v x h hxv],DW hR.frame⟩
 ·cases h
theorem Bv{P:Program}{E:Env}(hE:cL P E){d f:Nat}{args:List AV}{v:Value}(h:qU E d f args=some v){xs:Array Value}(hx:aG emp args xs.toList)(w:World) :
  Calls P f xs w (fun e w'=>e=.returned v/\Below w.heap.size w w'):=zp hE (QO P) h hx w

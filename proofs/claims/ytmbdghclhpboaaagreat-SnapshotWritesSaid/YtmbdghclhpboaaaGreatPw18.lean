/- Part of the proof: EvY. Conditions: as each states. -/
import Derived.Test.YtmbdghclhpboaaaGreatPw11
set_option linter.all false
namespace Go.Proofs.YtmbdghclhpboaaaGreat.Ev
def wx:TypeDesc->Option Nat
 | .bool=>some 0
 | .int _=>some 1
 | .string=>some 2
 | _=>none
def lW(go:TypeId->Option (List Nat)):Nat->List (TypeId×Nat)->Option (List Nat)
 | _,[]=>some []
 | off,(t,o)::l=>match Nat.beq o off,go t with
   | true,some ks=>(lW go (off+ks.length) l).map (ks++·)
   | _,_=>none
def sized(n:Nat):Option (List Nat)->Option (List Nat)
 | some ks=>match Nat.beq ks.length n with
   | true=>some ks
   | false=>none
 | none=>none
def lh(E:Env):Nat->TypeId->Option (List Nat)
 | 0,_=>none
 | d+1,t=>match E.ty t with
   | none=>none
   | some r=>match r.bg with
     | .struct fs=>match r.flat.isSome&&fs.toList.all (fun f=>f.name != "_") with
       | true=>sized r.info.size (lW (lh E d) 0 (fs.toList.map fun f=>(f.type,f.offset)))
       | false=>none
     | .array n e=>match E.ty e with
       | some er=>sized r.info.size (lW (lh E d) 0 ((List.range n).map fun i=>(e,i * er.info.size)))
       | none=>none
     | .bool=>some [0]
     | .int _=>some [1]
     | .string=>some [2]
     | _=>none
def Ov(E:Env)(r:cZ):Bool:=
 match r.bg with
 | .array k e=>match E.ty e with
   | some er=>(wx er.bg).isSome&&Nat.beq er.info.size 1&&Nat.beq k r.kinds.length
   | none=>false
 | _=>true
def bI(E:Env)(t:TypeId)(r:cZ):Bool:=
 match r.flat with
 | none=>true
 | some n=>(match lh E 8 t with
   | some ks=>decide (ks=r.kinds)
   | none=>false)&&Nat.beq r.kinds.length n&&Ov E r&&bG r.bg
structure IK(P:Program)(E:Env):Prop where
 info:∀t r,E.ty t=some r->∀w,(typeInfo t).run P w=.ok r.info w
 bg:∀t r,E.ty t=some r->P.underlying t=some r.bg
 fn:∀f fn,E.fn f=some fn->P.funcs[f]?=some fn/\∀args w,(callFunc f args).run P w=.ok (.enter f args) w
 wide:P.follows .mixedOrders=true
 guard:∀t r,E.ty t=some r->r.flat≠none->P.eqGuardType P.depth t=false
 held:∀t r fs,E.ty t=some r->r.flat≠none->r.bg=.struct fs->P.stoodInHeld t=false
 flat:∀t r,E.ty t=some r->bI E t r=true
theorem qe:∀{ks:List Nat} {l:List AV},fits ks l=true->l.length=ks.length
 | [],[],_=>rfl
 | [],_::_,h=>by simp[fits] at h
 | _::_,[],h=>by simp[fits] at h
 | k::ks,v::l,h=>by
   cases v with
   | lit u=>
     simp only[fits,Bool.and_eq_true] at h;simp[qe h.2]
   | _=>simp[fits] at h
theorem vU:∀{k1 k2:List Nat} {l:List AV},fits (k1++k2) l=true->fits k1 (l.take k1.length)=true/\fits k2 (l.drop k1.length)=true
 | [],k2,l,h=>⟨by simp[fits],by simpa using h⟩
 | k::ks,k2,[],h=>by simp[fits] at h
 | k::ks,k2,v::l,h=>by
   cases v with
   | lit u=>
     simp only[List.cons_append,fits,Bool.and_eq_true] at h;obtain ⟨h1,h2⟩:=vU h.2;simp only[List.length_cons,List.take_succ_cons,List.drop_succ_cons,fits,Bool.and_eq_true];exact ⟨⟨h.1,h1⟩,h2⟩
   | _=>simp[fits] at h
theorem rQ:∀(n:Nat) {a b:List AV} {c:Bool},bn a b=some c->∃c1 c2,bn (a.take n) (b.take n)=some c1/\bn (a.drop n) (b.drop n)=some c2/\c=(c1&&c2)
 | 0,a,b,c,h=>⟨true,c,by simp[bn],by simpa using h,by simp⟩
 | n+1,[],[],c,h=>⟨true,c,by simp[bn],by simpa using h,by simp⟩
 | n+1,[],_::_,c,h=>by simp[bn] at h
 | n+1,x::a,[],c,h=>by cases x<;>simp[bn] at h
 | n+1,x::a,y::b,c,h=>by
   cases x with
   | lit u=>
     cases y with
     | lit v=>
       simp only[bn] at h;cases hs:mb u v with
       | none=>rw[hs] at h;simp at h
       | some s=>
         cases hr:bn a b with
         | none=>rw[hs,hr] at h;simp at h
         | some r=>
           rw[hs,hr] at h;simp only[Option.some.injEq] at h;obtain ⟨c1,c2,h1,h2,rfl⟩:=rQ n hr;refine ⟨s&&c1,c2,?_,by simpa using h2,?_⟩
           ·simp only[List.take_succ_cons,bn,hs,h1]
           ·rw[<-h,Bool.and_assoc]
     | _=>simp[bn] at h
   | _=>simp[bn] at h
def Pk(r:cZ)(xs:List Value)(x:Value):Prop:=
 match bG r.bg with
 | true=>x=.agg xs.toArray
 | false=>xs=[x]
def nQ(d:Nat)(xs ys:Array Value):List (TypeId×Nat)->Sem Bool
 | []=>pure true
 | (t,o)::l=>do
   let a <-part t xs o
   let b <-part t ys o
   let r <-Op.equalIn d t a b
   if (!r)=true then pure false else nQ d xs ys l
theorem qV{d:Nat}{xs ys:Array Value}:∀(fs:List Field),fs.all (fun f=>f.name != "_")=true->Op.eqFields d xs ys fs=nQ d xs ys (fs.map fun f=>(f.type,f.offset))
 | [],_=>rfl
 | f::fs,h=>by
   simp only[List.all_cons,Bool.and_eq_true,bne_iff_ne,ne_eq] at h;simp only[Op.eqFields,List.map_cons,nQ];rw[if_pos h.1,qV fs (by simpa using h.2)]
theorem rM{d:Nat}{e c:Nat}{xs ys:Array Value}:∀(is:List Nat),Op.eqItems d e c xs ys is=nQ d xs ys (is.map fun i=>(e,i * c))
 | []=>rfl
 | i::is=>by simp only[Op.eqItems,List.map_cons,nQ];rw[rM is]
section
variable{P:Program}{E:Env}(hF:IK P E)
include hF
theorem Bp{d:Nat}{t:TypeId}{ks:List Nat}{r:cZ}(hk:lh E d t=some ks)(hr:E.ty t=some r)(cs:List Value)(off:Nat)(hl:off+ks.length<=cs.length)(w:World) :
  ∃x,(part t cs.toArray off).run P w=.ok x w/\Pk r ((cs.drop off).take ks.length) x:=by
 cases d with
 | zero=>simp[lh] at hk
 | succ d=>
   simp only[lh,hr] at hk;have GK:(isAgg t).run P w=.ok (bG r.bg) w:=by
    unfold isAgg;simp only[Sem.run_bind,run_underlying (hF.bg t r hr),Result.andThen_ok];cases r.bg<;>rfl
   have qW:bG r.bg=true->ks.length=r.info.size->∃x,(part t cs.toArray off).run P w=.ok x w/\Pk r ((cs.drop off).take ks.length) x:=fun ha iW=>by
    refine ⟨.agg (cs.toArray.extract off (off+r.info.size)),?_,?_⟩
    ·unfold part;simp only[Sem.run_bind,GK,Result.andThen_ok,ha,if_true,Go.sizeOf,hF.info t r hr w,Sem.run_pure]
    ·unfold Pk;rw[ha];simp only[];congr 1;apply Array.ext';rw[Array.toList_extract,List.extract_eq_take_drop,Nat.add_sub_cancel_left,iW]
   have wi:bG r.bg=false->ks.length=1->∃x,(part t cs.toArray off).run P w=.ok x w/\Pk r ((cs.drop off).take ks.length) x:=fun ha h1=>by
    have ah:off<cs.length:=by omega
    refine ⟨cs[off],?_,?_⟩
    ·unfold part;simp only[Sem.run_bind,GK,Result.andThen_ok,ha,Bool.false_eq_true,if_false];rw[List.getElem?_toArray,List.getElem?_eq_getElem ah];rfl
    ·unfold Pk;rw[ha];simp only[];rw[h1,List.drop_eq_getElem_cons ah];rfl
   have KI:∀{n:Nat} {o:Option (List Nat)},sized n o=some ks->ks.length=n:=fun {n o} h=>by
    unfold sized at h;split at h
    ·split at h
     ·rename_i hb;simp only[Option.some.injEq] at h;subst h;exact Nat.eq_of_beq_eq_true hb
     ·cases h
    ·cases h
   split at hk
   ·rename_i hu;split at hk
    ·exact qW (by rw[hu];rfl) (KI hk)
    ·cases hk
   ·rename_i hu;split at hk
    ·exact qW (by rw[hu];rfl) (KI hk)
    ·cases hk
   all_goals first
    | cases hk;done
    | (rename_i hu;simp only[Option.some.injEq] at hk;subst hk;exact wi (by rw[hu];rfl) rfl)
omit hF in
theorem Lz{d:Nat}{t:TypeId}{ks:List Nat}(h:lh E d t=some ks):∃r,E.ty t=some r:=by
 cases d with
 | zero=>simp[lh] at h
 | succ d=>
   cases hr:E.ty t with
   | none=>simp[lh,hr] at h
   | some r=>exact ⟨r,rfl⟩
theorem xQ{d D:Nat}(ih:∀t ks,lh E d t=some ks->∀r,E.ty t=some r->∀(xs ys:List Value) (b:Bool) (w:World) (x y:Value),Pk r xs x->Pk r ys y->fits ks (xs.map .lit)=true->bn (xs.map .lit) (ys.map .lit)=some b->(Op.equalIn D t x y).run P w=.ok b w)
  (xs ys:List Value) (w:World) (hl:ys.length=xs.length):∀(l:List (TypeId×Nat)) (off:Nat) (ks:List Nat) (b:Bool),off<=xs.length->lW (lh E d) off l=some ks->fits ks ((xs.drop off).map .lit)=true->bn ((xs.drop off).map .lit) ((ys.drop off).map .lit)=some b ->
  (nQ D xs.toArray ys.toArray l).run P w=.ok b w
 | [],off,ks,b,ho,h,hf,he=>by
   simp only[lW,Option.some.injEq] at h;subst h;have h1:=qe hf;simp only[List.length_nil] at h1;have h2:=List.length_eq_zero_iff.1 h1;have h3:(ys.drop off).map AV.lit=[]:=by
    apply List.length_eq_zero_iff.1;have:=congrArg List.length h2;simp at this ⊢;omega
   rw[h2,h3] at he;simp only[bn,Option.some.injEq] at he;subst he;rfl
 | (t,o)::l,off,ks,b,ho,h,hf,he=>by
   simp only[lW] at h;split at h
   ·rename_i k1 hb hk;have hb:=Nat.eq_of_beq_eq_true hb;subst hb;obtain ⟨k2,kV,rfl⟩:=Option.map_eq_some_iff.1 h;obtain ⟨f1,f2⟩:=vU hf;obtain ⟨c1,c2,e1,e2,rfl⟩:=rQ k1.length he;have hlen:=qe hf;simp only[List.length_map,List.length_drop,List.length_append] at hlen;obtain ⟨r,hr⟩:=Lz hk;have Ol:o+k1.length<=xs.length:=by omega
    obtain ⟨x,px,qx⟩:=Bp hF hk hr xs o Ol w;obtain ⟨y,py,qy⟩:=Bp hF hk hr ys o (by omega) w;rw[<-List.map_take] at f1 e1;rw[<-List.map_take] at e1;have heq:=ih t k1 hk r hr _ _ c1 w x y qx qy f1 e1;simp only[nQ,Sem.run_bind,px,py,heq,Result.andThen_ok];cases c1 with
    | false=>rfl
    | true=>
      simp only[Bool.not_true,Bool.false_eq_true,if_false,Bool.true_and];rw[<-List.map_drop,List.drop_drop] at f2 e2;rw[<-List.map_drop,List.drop_drop] at e2;exact xQ ih xs ys w hl l _ k2 c2 Ol kV f2 e2
   ·cases h
omit hF in
theorem Ot{t:TypeId}{i:TypeInfo}{w:World}(h:(typeInfo t).run P w=.ok i w):P.info? t=some i:=by
 unfold typeInfo at h;simp only[Sem.run_bind,run_program,Result.andThen_ok] at h;split at h
 ·rename_i j hj;simp only[Sem.run_pure,Result.ok.injEq,and_true] at h;rw[hj,h]
 ·exact absurd h (by intro h;cases h)
theorem C9:∀(d:Nat) (t:TypeId) (ks:List Nat),lh E d t=some ks->∀r,E.ty t=some r->∀D,d<=D->∀(xs ys:List Value) (b:Bool) (w:World) (x y:Value),Pk r xs x->Pk r ys y->fits ks (xs.map .lit)=true->bn (xs.map .lit) (ys.map .lit)=some b->(Op.equalIn D t x y).run P w=.ok b w
 | 0,t,ks,h,_,_,_,_,_,_,_,_,_,_,_,_,_,_=>by simp[lh] at h
 | d+1,t,ks,h,r,hr,D+1,hD,xs,ys,b,w,x,y,hx,hy,hf,he=>by
   have sk:=hF.bg t r hr;have hlen:ys.length=xs.length:=by simpa using rR he
   have ih:=fun t ks hk r hr=>C9 d t ks hk r hr D (by omega);have hs:∀{n:Nat} {o:Option (List Nat)},sized n o=some ks->o=some ks:=fun {n o} h=>by
    unfold sized at h;split at h
    ·split at h
     ·exact h
     ·cases h
    ·cases h
   simp only[lh,hr] at h;unfold Pk at hx hy;split at h
   ·rename_i fs hu;split at h
    ·rename_i hb;rw[Bool.and_eq_true] at hb;rw[hu] at hx hy sk;simp only[bG] at hx hy;subst hx;subst hy;have QM:P.fieldsOf t=fs:=by simp[Program.fieldsOf,sk]
     have aN:r.flat≠none:=by
      intro e;rw[e] at hb;cases hb.1
     rw[run_equalIn_struct w D t _ _ (by rw[QM];exact sk) (hF.held t r fs hr aN hu),QM,qV _ hb.2];exact xQ hF ih xs ys w hlen _ 0 ks b (Nat.zero_le _) (hs h) (by simpa using hf) (by simpa using he)
    ·cases h
   ·rename_i n e hu;split at h
    ·rename_i er fh;rw[hu] at hx hy sk;simp only[bG] at hx hy;subst hx;subst hy;have hi:=Ot (hF.info e er fh w);rw[run_equalIn_array w D _ _ sk hi,rM,show P.cellsOf e=er.info.size by simp[Program.cellsOf,hi]];exact xQ hF ih xs ys w hlen _ 0 ks b (Nat.zero_le _) (hs h) (by simpa using hf) (by simpa using he)
    ·cases h
   ·rename_i hu;simp only[Option.some.injEq] at h;subst h;rw[hu] at hx hy sk;simp only[bG] at hx hy;subst hx;subst hy;cases x<;>simp[fits] at hf
    cases y<;>simp[bn,mb] at he
    subst he;exact run_equalIn_bool w D t _ _ sk
   ·rename_i k hu;simp only[Option.some.injEq] at h;subst h;rw[hu] at hx hy sk;simp only[bG] at hx hy;subst hx;subst hy;cases x<;>simp[fits] at hf
    cases y<;>simp[bn,mb] at he
    split at he
    ·rename_i hk;rename_i heq;split at heq
     ·rename_i sa;subst sa;simp only[Option.some.injEq] at heq he hk;subst heq;subst hk;rw[run_equalIn_int w D t _ _ _ _ sk,<-he,Bool.and_true]
     ·cases heq
    ·cases he
   ·rename_i hu;simp only[Option.some.injEq] at h;subst h;rw[hu] at hx hy sk;simp only[bG] at hx hy;subst hx;subst hy;cases x<;>simp[fits] at hf
    cases y<;>simp[bn,mb] at he
    subst he;rw[run_equalIn_string w D t _ _ sk,ByteArray.toList_eq,ByteArray.toList_eq];congr 1;rw[Bool.eq_iff_iff];simp
   ·cases h
theorem xj{b:Bool}{n:Nat}{t:TypeId}{r:cZ}(hr:E.ty t=some r)(hk:(wx r.bg).isSome=true)(v:Value)(w:World):(Instr.checkKey b (n+1) t v).run P w=.ok () w:=by
 unfold Instr.checkKey;simp only[Sem.run_bind,run_underlying (hF.bg t r hr),Result.andThen_ok];cases hu:r.bg<;>rw[hu] at hk<;>simp[wx] at hk<;>rfl
theorem y4{b:Bool}{n:Nat}{t e:TypeId}{k:Nat}{r er:cZ}(hr:E.ty t=some r)(hu:r.bg=.array k e)(fh:E.ty e=some er)(hk:(wx er.bg).isSome=true)(iW:er.info.size=1)(xs:List Value)(hl:k<=xs.length)(w:World) :
  (Instr.checkKey b (n+2) t (.agg xs.toArray)).run P w=.ok () w:=by
 rw[Instr.checkKey];simp only[Sem.run_bind,run_underlying (hF.bg t r hr),Result.andThen_ok,hu];simp only[Std.Legacy.Range.forIn_eq_forIn_range',Std.Legacy.Range.size,Nat.sub_zero,Nat.add_one_sub_one,Nat.div_one];have UW:∀w,(sizeOf e).run P w=.ok 1 w:=fun w=>by simp[Go.sizeOf,hF.info e er fh w,iW]
 have key:∀(is:List Nat),(∀i∈is,i<xs.length)->(forIn is PUnit.unit fun i x=>do
   let s <-sizeOf e
   let p <-part e xs.toArray (i * s)
   Instr.checkKey b (n+1) e p
   pure (ForInStep.yield PUnit.unit):Sem PUnit).run P w=.ok PUnit.unit w:=by
  intro is;induction is with
  | nil=>intro _;rfl
  | cons i is ih=>
    intro h;have hi:=h i (by simp);have mQ:(part e xs.toArray (i * 1)).run P w=.ok xs[i] w:=by
     unfold part isAgg;simp only[Sem.run_bind,run_underlying (hF.bg e er fh),Result.andThen_ok];have:xs.toArray[i * 1]?=some xs[i]:=by rw[Nat.mul_one,List.getElem?_toArray,List.getElem?_eq_getElem hi]
     cases hue:er.bg<;>rw[hue] at hk<;>simp[wx] at hk<;>simp[List.getElem?_eq_getElem hi]
    simp only[List.forIn_cons,Sem.run_bind,UW,mQ,Result.andThen_ok,xj hF fh hk,Sem.run_pure];exact ih fun j hj=>h j (by simp[hj])
 have:=key (List.range' 0 k) (fun i hi=>by have:=List.mem_range'_1.1 hi;omega);simp at this ⊢;rw[this];rfl
theorem IK.ok:ch P E where
 info:=hF.info
 bg:=hF.bg
 fn:=hF.fn
 wide:=hF.wide
 guard:=fun t r n hr hf=>hF.guard t r hr (by rw[hf];simp)
 eq:=fun t r n hr hf xs ys b w hx hy r8 he=>by
  have h:=hF.flat t r hr;unfold bI at h;rw[hf] at h;simp only[Bool.and_eq_true] at h;obtain ⟨⟨⟨h1,h2⟩,h3⟩,h4⟩:=h;split at h1
  ·rename_i ks hk;simp only[decide_eq_true_eq] at h1;subst h1;refine C9 hF 8 t _ hk r hr Op.maxDepth (by unfold Op.maxDepth;omega) xs ys b w _ _ ?_ ?_ r8 he;all_goals (unfold Pk;rw[h4])
  ·cases h1
 key:=fun t r n k e hr hf hu xs b w hl=>by
  have h:=hF.flat t r hr;unfold bI at h;rw[hf] at h;simp only[Bool.and_eq_true] at h;obtain ⟨⟨⟨h1,h2⟩,h3⟩,h4⟩:=h;unfold Ov at h3;rw[hu] at h3;simp only[] at h3;split at h3
  ·rename_i er fh;simp only[Bool.and_eq_true] at h3;obtain ⟨⟨h7,h5⟩,h6⟩:=h3;have h2:=Nat.eq_of_beq_eq_true h2;have h5:=Nat.eq_of_beq_eq_true h5;have h6:=Nat.eq_of_beq_eq_true h6;exact y4 hF hr hu fh h7 h5 xs (by omega) w
  ·cases h3
end
def T.FC{α:Type}(p:Nat->α->Prop):Nat->Nat->T α->Prop
 | _,_,.e=>True
 | k,m,.n v l r=>(match v with
   | none=>True
   | some a=>p k a)/\T.FC p (k+m) (2 * m) l/\T.FC p (k+2 * m) (2 * m) r
theorem T.FC.at{α:Type}{p:Nat->α->Prop}:∀{t:T α} {k m i:Nat} {a:α},T.FC p k m t->t.get i=some a->p (k+m * i) a
 | .e,k,m,i,a,_,h=>by simp[T.get] at h
 | .n v l r,k,m,i,a,H,h=>by
   obtain ⟨h1,h2,h3⟩:=H;cases i with
   | zero=>
     simp only[T.get] at h;subst h;simpa using h1
   | succ i=>
     simp only[T.get] at h;split at h
     ·rename_i hb;have hb:=Ed hb;have:=h2.at h;have e:k+m+2 * m * (i / 2)=k+m * (i+1):=by
       have:i=2 * (i / 2):=by omega
       rw[Nat.mul_assoc,Nat.mul_left_comm,<-this,Nat.mul_succ];omega
      rwa [e] at this
     ·rename_i hb;have hb:=Ec hb;have:=h3.at h;have e:k+2 * m+2 * m * (i / 2)=k+m * (i+1):=by
       have h2:i+1=2 * (i / 2)+2:=by omega
       rw[h2,Nat.mul_add,Nat.mul_assoc,Nat.mul_left_comm 2 m,Nat.mul_comm 2 m];omega
      rwa [e] at this
structure Lh(P:Program)(E:Env)(t:Nat)(r:cZ):Prop where
 info:∀w,(typeInfo t).run P w=.ok r.info w
 bg:P.underlying t=some r.bg
 guard:r.flat≠none->P.eqGuardType P.depth t=false
 held:∀fs,r.flat≠none->r.bg=.struct fs->P.stoodInHeld t=false
 flat:bI E t r=true
def Tb(P:Program)(f:Nat)(fn:Func):Prop:=P.funcs[f]?=some fn/\∀args w,(callFunc f args).run P w=.ok (.enter f args) w
theorem aQ{P:Program}{E:Env}{t:Nat}{i:TypeInfo}{d:TypeDesc}(h1:∀w,(typeInfo t).run P w=.ok i w)(h2:P.underlying t=some d):Lh P E t ⟨i,d,none,[]⟩:=
 ⟨h1,h2,fun h=>absurd rfl h,fun _ h=>absurd rfl h,rfl⟩
theorem jC{P:Program}{E:Env}{t:Nat}{i:TypeInfo}{d:TypeDesc}{n:Nat}{ks:List Nat}(h1:∀w,(typeInfo t).run P w=.ok i w)(h2:P.underlying t=some d)(h3:P.eqGuardType P.depth t=false)(h4:P.stoodInHeld t=false)
  (h5:bI E t ⟨i,d,some n,ks⟩=true):Lh P E t ⟨i,d,some n,ks⟩:=
 ⟨h1,h2,fun _=>h3,fun _ _ _=>h4,h5⟩
theorem Sj{P:Program}{E:Env}{t:Nat}{i:TypeInfo}{d:TypeDesc}{n:Nat}{ks:List Nat}{k e:Nat}(hd:d=.array k e)(h1:∀w,(typeInfo t).run P w=.ok i w)(h2:P.underlying t=some d)(h3:P.eqGuardType P.depth t=false)
  (h5:bI E t ⟨i,d,some n,ks⟩=true):Lh P E t ⟨i,d,some n,ks⟩:=
 ⟨h1,h2,fun _=>h3,fun _ _ h=>(by subst hd;cases h),h5⟩
theorem Ly{P:Program}{E:Env}{X5:T cZ}{fns:T Func}(e1:E.ty=X5.get)(e2:E.fn=fns.get)(hw:P.follows .mixedOrders=true)(h1:T.FC (Lh P E) 0 1 X5)(h2:T.FC (Tb P) 0 1 fns):IK P E:=by
 have ht:∀t r,E.ty t=some r->Lh P E t r:=fun t r h=>by
  rw[e1] at h;have:=h1.at h;rwa [Nat.zero_add,Nat.one_mul] at this
 have hf:∀f fn,E.fn f=some fn->Tb P f fn:=fun t r h=>by
  rw[e2] at h;have:=h2.at h;rwa [Nat.zero_add,Nat.one_mul] at this
 exact ⟨fun t r h=>(ht t r h).info,fun t r h=>(ht t r h).bg,fun f fn h=>hf f fn h,hw,fun t r h hn=>(ht t r h).guard hn,fun t r fs h hn hu=>(ht t r h).held fs hn hu,fun t r h=>(ht t r h).flat⟩
end Go.Proofs.YtmbdghclhpboaaaGreat.Ev
namespace Go.Proofs.YtmbdghclhpboaaaGreat.Ev
open Go.RowKit (Below)
def vQ(E:Env)(hv:Cb)(d f:Nat)(args:List AV):Option Value:=
 match vP E hv d f args Sw with
 | some (v,_)=>v.flat
 | none=>none
def qc(E:Env)(d f:Nat)(args:List AV):Option Value:=vQ E OF d f args
theorem yq{P:Program}{E:Env}(hE:ch P E){hv:Cb}(N8:rB P hv){d f:Nat}{args:List AV}{v:Value}(h:vQ E hv d f args=some v){xs:Array Value}(hx:az emp args xs.toList)(w:World) :
  Calls P f xs w (fun e w'=>e=.returned v/\Below w.heap.size w w'):=by
 unfold vQ at h;split at h
 ·rename_i u cd hc;exact (uM hE N8 d f args Sw u cd hc (NF w emp) emp w xs (BE w) hx).2 _ fun aq x w' Zu hR _=>⟨by rw[iZ u v x h Zu],CS hR.frame⟩
 ·cases h
theorem Ak{P:Program}{E:Env}(hE:ch P E){d f:Nat}{args:List AV}{v:Value}(h:qc E d f args=some v){xs:Array Value}(hx:az emp args xs.toList)(w:World) :
  Calls P f xs w (fun e w'=>e=.returned v/\Below w.heap.size w w'):=yq hE (OG P) h hx w
end Go.Proofs.YtmbdghclhpboaaaGreat.Ev

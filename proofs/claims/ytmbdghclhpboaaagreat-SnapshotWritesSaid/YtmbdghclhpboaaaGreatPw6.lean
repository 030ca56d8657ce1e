/- Part of the proof: EvI EvJ. Conditions: as each states. -/
import Derived.Test.YtmbdghclhpboaaaGreatPw5
set_option linter.all false
namespace Go.Proofs.YtmbdghclhpboaaaGreat.Ev
theorem gA{a b:Nat}(h:Nat.blt a b=true):a<b:=Nat.le_of_ble_eq_true h
theorem dh{P:Program}{w w':World}{s:Sem Value}{x:Value}(h:s.run P w=.ok x w'):(do let r <-s;pure (Next.value r):Sem Next).run P w=.ok (.value x) w':=by
 simp only[Sem.run_bind,h,Result.andThen_ok,Sem.run_pure]
section
variable{P:Program}{E:Env}(hE:ch P E){γ:aK}{σ:AS}{w:World}{t:ax}{ρ:Operand->Value}
include hE
omit hE in
theorem xN(bD:o2 γ t ρ){x:Option Operand}{v:Option AV}(h:qq t x=some v):pZ γ v (x.map ρ):=by
 unfold qq at h;split at h
 ·simp only[Option.some.injEq] at h;subst h;trivial
 ·split at h
  ·rename_i hx;simp only[Option.some.injEq] at h;subst h;exact bD _ _ hx
  ·cases h
omit hE in
theorem Bd{f:Value->Value->Sem Value}{l:List AV}{u:AV}{xs:List Value}(h:zC f l=some u)(hl:az γ l xs) :
  ∃x rest y,xs=x::rest/\(rest.foldlM f x).run P w=.ok y w/\an γ u y:=by
 cases l with
 | nil=>simp[zC] at h
 | cons v l=>
   simp only[az] at hl;obtain ⟨x,xs,rfl,hx,hl⟩:=hl;obtain ⟨y,h1,h2⟩:=sx (P:=P) (w:=w) l v u x xs h hx hl;exact ⟨x,xs,y,rfl,h1,h2⟩
theorem oZ(hR:Rel γ σ w)(bD:o2 γ t ρ)(o:Oper){out:Out}{v:AV}(h:bz E t σ o.op=some out)(ho:out=.pure v\/out=.read v) :
  ∃x,(execOp ρ o).run P w=.ok (.value x) w/\an γ v x:=by
 obtain ⟨dst,op,type,pos,after,guard⟩:=o;simp only[] at h;cases op<;>simp only[bz] at h
 case move x=>
  obtain ⟨u,hu,rfl⟩:=Option.map_eq_some_iff.1 h;rcases ho with e|e<;>cases e;exact ⟨ρ x,rfl,bD _ _ hu⟩
 case assign x=>
  obtain ⟨u,hu,rfl⟩:=Option.map_eq_some_iff.1 h;rcases ho with e|e<;>cases e
 case pick c a b=>
  simp only[execOp];split at h
  ·rename_i hc;obtain ⟨u,hu,rfl⟩:=Option.map_eq_some_iff.1 h;rcases ho with e|e<;>cases e;have:=bD _ _ hc;rw[al] at this;refine ⟨ρ a,?_,bD _ _ hu⟩;rw[this];rfl
  ·rename_i hc;obtain ⟨u,hu,rfl⟩:=Option.map_eq_some_iff.1 h;rcases ho with e|e<;>cases e;have:=bD _ _ hc;rw[al] at this;refine ⟨ρ b,?_,bD _ _ hu⟩;rw[this];rfl
  ·cases h
 case alloc elem=>
  split at h
  ·obtain ⟨u,hu,rfl⟩:=Option.map_eq_some_iff.1 h;rcases ho with e|e<;>cases e
  ·cases h
 case box elem x=>
  obtain ⟨u,hu,rfl⟩:=Option.map_eq_some_iff.1 h;rcases ho with e|e<;>cases e
 case build ty parts=>
  simp only[execOp];split at h
  ·rename_i r vs hr U9;have hc:=eY bD U9;split at h
   ·rename_i z hz;rw[List.map_map] at hc;have hb:=fun v h=>Lo (v:=v) hE (w:=w) (is:=[]) (os:=[]) (ρ:=ρ) (parts:=parts) hr hz hc h;obtain ⟨x,hx⟩:∃u,(match r.bg with
      | .struct fs=>match places E fs.toList with
        | some ps=>(nR (ps[·]?) (ofValue z).cells ((parts.toList.map (·.1)).zip vs)).map fun l=>AV.agg l
        | none=>none
      | .array _ elem=>match E.ty elem with
        | some er=>(nR (fun i=>some (i * er.info.size,er.info.size)) (ofValue z).cells ((parts.toList.map (·.1)).zip vs)).map fun l=>AV.agg l
        | none=>none
      | _=>none)=some u/\out=.pure u:=by
     split at h
     ·rename_i hd;split at h
      ·rename_i hp;obtain ⟨l,hl,rfl⟩:=Option.map_eq_some_iff.1 h;exact ⟨.agg l,by simp only[hd,hp,hl,Option.map_some],rfl⟩
      ·cases h
     ·rename_i hd;split at h
      ·rename_i hp;obtain ⟨l,hl,rfl⟩:=Option.map_eq_some_iff.1 h;exact ⟨.agg l,by simp only[hd,hp,hl,Option.map_some],rfl⟩
      ·cases h
     ·cases h
    obtain ⟨hx,rfl⟩:=hx;rcases ho with e|e<;>cases e;obtain ⟨y,h1,h2⟩:=hb _ hx;exact ⟨y,dh h1,h2⟩
   ·cases h
  ·cases h
 case buildSlice ty len parts=>
  split at h
  ·split at h
   ·split at h
    ·split at h
     ·split at h
      ·obtain ⟨u,hu,rfl⟩:=Option.map_eq_some_iff.1 h;rcases ho with e|e<;>cases e
      ·cases h
     ·cases h
    ·cases h
   ·cases h
  ·cases h
 case load ty a=>
  simp only[execOp];split at h
  ·rename_i o off ha;obtain ⟨u,hu,rfl⟩:=Option.map_eq_some_iff.1 h;rcases ho with e|e<;>cases e;have hc:=bD _ _ ha;simp only[an] at hc;obtain ⟨ad,lZ,dj⟩:=hc;obtain ⟨x,h1,h2⟩:=Hg hE hR hu dj;refine ⟨x,dh ?_,h2⟩;rw[lZ];simp only[Instr.loadAt,Instr.sureAddr,Sem.run_bind,Sem.run_pure,Result.andThen_ok,h1]
  ·cases h
 case store ty a x=>
  split at h
  ·obtain ⟨u,hu,rfl⟩:=Option.map_eq_some_iff.1 h;rcases ho with e|e<;>cases e
  ·cases h
 case nilCheck x=>
  simp only[execOp];split at h
  ·rename_i o off hx;simp only[Option.some.injEq] at h;subst h;rcases ho with e|e<;>cases e;have hc:=bD _ _ hx;have xx:=hc;simp only[an] at hc;obtain ⟨ad,lZ,_⟩:=hc;refine ⟨ρ x,?_,xx⟩;rw[lZ];rfl
  ·rename_i f a b hx;simp only[Option.some.injEq] at h;subst h;rcases ho with e|e<;>cases e;have hc:=bD _ _ hx;have xx:=hc;rw[al] at hc;refine ⟨ρ x,?_,xx⟩;rw[hc];rfl
  ·rename_i f a b hx;simp only[Option.some.injEq] at h;subst h;rcases ho with e|e<;>cases e;have hc:=bD _ _ hx;have xx:=hc;simp only[an] at hc;obtain ⟨a',b',lZ,_⟩:=hc;refine ⟨ρ x,?_,xx⟩;rw[lZ];rfl
  ·rename_i ty u hx;simp only[Option.some.injEq] at h;subst h;rcases ho with e|e<;>cases e;have hc:=bD _ _ hx;have xx:=hc;simp only[an] at hc;obtain ⟨y,lZ,_⟩:=hc;refine ⟨ρ x,?_,xx⟩;rw[lZ];rfl
  ·cases h
 case binOp op ty x y yt=>
  simp only[execOp];split at h
  ·rename_i a b ha hb;obtain ⟨u,hu,rfl⟩:=Option.map_eq_some_iff.1 h;rcases ho with e|e<;>cases e;obtain ⟨z,h1,h2⟩:=Ni hE (w:=w) (ox:=x) (oy:=y) hu (bD _ _ ha) (bD _ _ hb);exact ⟨z,dh h1,h2⟩
  ·cases h
 case unOp op ty x=>
  simp only[execOp];split at h
  ·rename_i a ha;obtain ⟨u,hu,rfl⟩:=Option.map_eq_some_iff.1 h;rcases ho with e|e<;>cases e;obtain ⟨z,h1,h2⟩:=Sk (P:=P) (w:=w) hu (bD _ _ ha);exact ⟨z,dh h1,h2⟩
  ·cases h
 case convert src dst x=>
  simp only[execOp];split at h
  ·rename_i a ha;obtain ⟨z,h1,h2⟩:=Nq hE hR (v:=v) (ho.imp (fun e=>e ▸ h) (fun e=>e ▸ h)) (bD _ _ ha);exact ⟨z,dh h1,h2⟩
  ·cases h
 case makeInterface ty x=>
  simp only[execOp];split at h
  ·rename_i r u hr hu;split at h
   ·cases h
   ·rename_i hd;simp only[Option.some.injEq] at h;subst h;rcases ho with e|e<;>cases e;refine ⟨.iface ty (ρ x),dh ?_,by simp only[an];exact ⟨_,rfl,bD _ _ hu⟩⟩;unfold Instr.makeInterface;simp only[Sem.run_bind,ba hE hr w,Result.andThen_ok];rfl
  ·cases h
 case makeFunc fn first captured=>
  simp only[execOp];split at h
  ·rename_i a b ha hb;simp only[Option.some.injEq] at h;subst h;rcases ho with e|e<;>cases e;have h1:=eY bD ha;have h2:=eY bD hb;refine ⟨_,dh rfl,?_⟩;simp only[an];exact ⟨_,_,rfl,by simpa using h1,by simpa using h2⟩
  ·cases h
 case makeMap ty r=>
  cases r with
  | none=>
    simp only[Option.some.injEq] at h;subst h;rcases ho with e|e<;>cases e
  | some _=>cases h
 case makeSlice ty l c=>
  split at h
  ·split at h
   ·split at h
    ·split at h
     ·split at h
      ·simp only[Option.some.injEq] at h;subst h;rcases ho with e|e<;>cases e
      ·cases h
     ·cases h
    ·cases h
   ·cases h
  ·cases h
 case slice ty x lo hi mx=>
  simp only[execOp];split at h
  ·rename_i a Cz j4 mx' ha UJ UF UL;obtain ⟨u,hu,rfl⟩:=Option.map_eq_some_iff.1 h;rcases ho with e|e<;>cases e;obtain ⟨z,h1,h2⟩:=xY hE (w:=w) hu (bD _ _ ha) (xN bD UJ) (xN bD UF) (xN bD UL);exact ⟨z,dh h1,h2⟩
  ·cases h
 case fieldAddr ty x f=>
  simp only[execOp];split at h
  ·rename_i r o off hr hx;split at h
   ·rename_i fs hd;split at h
    ·rename_i fd Ux;split at h
     ·rename_i fr EI;split at h
      ·rename_i hz;simp only[Option.some.injEq] at h;subst h;rcases ho with e|e<;>cases e;have hc:=bD _ _ hx;simp only[an] at hc;obtain ⟨a,lZ,dj⟩:=hc;have hz:=Nat.ne_of_beq_eq_false hz;refine ⟨.pointer (some (a.add fd.offset)),dh ?_,?_⟩
       ·rw[lZ];unfold Instr.fieldAt fieldPlace;simp only[Sem.run_bind,ba hE hr w,Result.andThen_ok,hd,Ux,Instr.sureAddr,Sem.run_pure,bT hE EI w,if_neg hz]
       ·simp only[an];refine ⟨_,rfl,?_⟩;unfold gz at dj ⊢;cases hg:γ o with
        | none=>rw[hg] at dj;exact dj.elim
        | some q=>
          rw[hg] at dj;cases q with
          | none=>trivial
          | some p=>simp only[] at dj ⊢;rw[dj,kG,Nat.add_assoc]
      ·cases h
     ·cases h
    ·cases h
   ·cases h
  ·cases h
 case field ty x f=>
  simp only[execOp];split at h
  ·rename_i r cs hr hx;split at h
   ·rename_i fs hd;split at h
    ·rename_i fd Ux;obtain ⟨u,hu,rfl⟩:=Option.map_eq_some_iff.1 h;rcases ho with e|e<;>cases e;have hc:=bD _ _ hx;simp only[an] at hc;obtain ⟨a,lZ,dj⟩:=hc;obtain ⟨z,h1,h2⟩:=Hx hE (w:=w) hu dj;refine ⟨z,dh ?_,h2⟩;rw[lZ];unfold Instr.field;simp only[Sem.run_bind,ba hE hr w,Result.andThen_ok,hd,Ux,asAgg,Sem.run_pure,h1]
    ·cases h
   ·cases h
  ·cases h
 case indexAddr ty x i=>
  simp only[execOp];have GL:∀{o off s:Nat} {a:Addr} {l:Nat},gz γ o off a->gz γ o (off+l * s) (a.add (l * s)):=by
   intro o off s a l ha;unfold gz at ha ⊢;cases hg:γ o with
   | none=>rw[hg] at ha;exact ha.elim
   | some q=>
     rw[hg] at ha;cases q with
     | none=>trivial
     | some p=>simp only[] at ha ⊢;rw[ha,kG,Nat.add_assoc]
  split at h
  ·rename_i r xv iv hr hx hi;split at h
   ·rename_i len elem o off i' hd hn;split at h
    ·rename_i er fh ah;simp only[Option.some.injEq] at h;subst h;rcases ho with e|e<;>cases e;have ah:=gA ah;obtain ⟨k,hk⟩:=jh hn (bD _ _ hi);have hc:=bD _ _ hx;simp only[an] at hc;obtain ⟨a,lZ,dj⟩:=hc;refine ⟨.pointer (some (a.add (i' * er.info.size))),dh ?_,by simp only[an];exact ⟨_,rfl,GL dj⟩⟩;rw[lZ,hk];unfold Instr.indexAt;have im:(0<=(i':Int)/\(i':Int)<(len:Int)):=⟨by omega,by omega⟩;simp only[asIntOf,Instr.sureAddr,Sem.run_bind,ba hE hr w,Result.andThen_ok,hd,Sem.run_pure,im,and_self,if_true,bT hE fh w,Int.toNat_natCast]
    ·cases h
   ·rename_i elem o off len cap i' hd hn;split at h
    ·rename_i er fh ah;simp only[Option.some.injEq] at h;subst h;rcases ho with e|e<;>cases e;have ah:=gA ah;obtain ⟨k,hk⟩:=jh hn (bD _ _ hi);have hc:=bD _ _ hx;simp only[an] at hc;obtain ⟨a,c,lZ,dj,tL,_⟩:=hc;have dj:=dj.resolve_left (by omega);refine ⟨.pointer (some (a.add (i' * er.info.size))),dh ?_,by simp only[an];exact ⟨_,rfl,GL dj⟩⟩;rw[lZ,hk];unfold Instr.indexAt;have im:(0<=(i':Int)/\(i':Int)<(len:Int)):=⟨by omega,by omega⟩;simp only[asIntOf,Sem.run_bind,ba hE hr w,Result.andThen_ok,hd,Sem.run_pure,im,and_self,if_true,bT hE fh w,Int.toNat_natCast]
    ·cases h
   ·cases h
  ·cases h
 case index ty x i=>
  simp only[execOp];split at h
  ·rename_i r xv iv hr hx hi;split at h
   ·rename_i len elem cs i' hd hn;split at h
    ·rename_i er fh ah;obtain ⟨u,hu,rfl⟩:=Option.map_eq_some_iff.1 h;rcases ho with e|e<;>cases e;have ah:=gA ah;obtain ⟨k,hk⟩:=jh hn (bD _ _ hi);have hc:=bD _ _ hx;simp only[an] at hc;obtain ⟨a,lZ,dj⟩:=hc;obtain ⟨z,h1,h2⟩:=Hx hE (w:=w) hu dj;refine ⟨z,dh ?_,h2⟩;rw[lZ,hk];unfold Instr.index;have im:(0<=(i':Int)/\(i':Int)<(len:Int)):=⟨by omega,by omega⟩;simp only[asIntOf,Sem.run_bind,ba hE hr w,Result.andThen_ok,hd,Sem.run_pure,im,and_self,if_true,bT hE fh w,Int.toNat_natCast,h1]
    ·cases h
   ·rename_i s i' hd hn;split at h
    ·rename_i b hb;simp only[Option.some.injEq] at h;subst h;rcases ho with e|e<;>cases e;obtain ⟨k,hk⟩:=jh hn (bD _ _ hi);have hc:=bD _ _ hx;rw[al] at hc;refine ⟨.int .u8 b.toNat,dh ?_,aM γ _⟩;rw[hc,hk];unfold Instr.index;have o5:s[i']?=some b:=by
      have ah:i'<s.data.toList.length:=(List.getElem?_eq_some_iff.1 hb).1;have hlt':i'<s.size:=by simpa using ah
      have:s.data.toList[i']=b:=(List.getElem?_eq_some_iff.1 hb).2;rw[getElem?_pos s i' hlt'];rw[<-this];rfl
     have im:(0<=(i':Int)):=by omega
     simp only[asIntOf,Sem.run_bind,ba hE hr w,Result.andThen_ok,hd,Sem.run_pure,im,if_true,Int.toNat_natCast,o5]
    ·cases h
   ·cases h
  ·cases h
 case lookup ty x k ok=>
  simp only[execOp];split at h
  ·rename_i a b ha hb;obtain ⟨u,hu,rfl⟩:=Option.map_eq_some_iff.1 h;rcases ho with e|e<;>cases e;obtain ⟨z,h1,h2⟩:=Jy hE hR hu (bD _ _ ha) (bD _ _ hb);exact ⟨z,dh h1,h2⟩
  ·cases h
 case mapUpdate ty m k x=>
  split at h
  ·obtain ⟨u,hu,rfl⟩:=Option.map_eq_some_iff.1 h;rcases ho with e|e<;>cases e
  ·cases h
 case insert ty m k x=>
  split at h
  ·obtain ⟨u,hu,rfl⟩:=Option.map_eq_some_iff.1 h;rcases ho with e|e<;>cases e
  ·cases h
 case range ty x=>
  split at h
  ·split at h
   ·split at h
    ·simp only[Option.some.injEq] at h;subst h;rcases ho with e|e<;>cases e
    ·cases h
   ·cases h
  ·cases h
 case next it isString=>
  split at h
  ·obtain ⟨u,hu,rfl⟩:=Option.map_eq_some_iff.1 h;rcases ho with e|e<;>cases e
  ·cases h
 case entry it=>
  simp only[execOp];split at h
  ·rename_i a ha;obtain ⟨u,hu,rfl⟩:=Option.map_eq_some_iff.1 h;rcases ho with e|e<;>cases e;obtain ⟨z,h1,h2⟩:=Lw (P:=P) hR hu (bD _ _ ha);exact ⟨z,dh h1,h2⟩
  ·cases h
 case typeAssert x xt asserted ok=>
  simp only[execOp];split at h
  ·rename_i r ty u hr hx;split at h
   ·cases h
   ·rename_i j7 hd;simp only[Option.some.injEq] at h;subst h;rcases ho with e|e<;>cases e;have hc:=bD _ _ hx;simp only[an] at hc;obtain ⟨y,lZ,hy⟩:=hc;have j7:=Nat.eq_of_beq_eq_true j7;subst j7;have cW:(Instr.typeAssert (ρ x) xt ty ok).run P w=.ok (if ok then .tuple #[y,.bool true] else y) w:=by
     rw[lZ];unfold Instr.typeAssert;simp only[Sem.run_bind,ba hE hr w,Result.andThen_ok];simp
    refine ⟨_,dh cW,?_⟩;cases ok with
    | true=>
      simp only[an,if_true];exact ⟨_,rfl,by simp only[az];exact ⟨y,[.bool true],rfl,hy,.bool true,[],rfl,aM γ _,rfl⟩⟩
    | false=>exact hy
   ·cases h
  ·cases h
 case extract x i=>
  simp only[execOp];split at h
  ·rename_i vs hx;obtain ⟨u,hu,rfl⟩:=Option.map_eq_some_iff.1 h;rcases ho with e|e<;>cases e;have hc:=bD _ _ hx;simp only[an] at hc;obtain ⟨a,lZ,dj⟩:=hc;obtain ⟨y,hy,Jd⟩:=dq dj i v hu;refine ⟨y,dh ?_,Jd⟩;rw[lZ];have:a[i]?=some y:=by simpa using hy
   simp only[Instr.extract,this,Sem.run_pure]
  ·rename_i vs hx;obtain ⟨u,hu,rfl⟩:=Option.map_eq_some_iff.1 h;rcases ho with e|e<;>cases e;have hc:=bD _ _ hx;rw[al] at hc;refine ⟨u,dh ?_,aM γ u⟩;rw[hc];simp only[Instr.extract,hu,Sem.run_pure]
  ·cases h
 case call c=>
  split at h
  ·cases h
  ·rename_i args gR;have hc:=eY bD gR;have Ze:∀f,oP f args=some out->False:=by
    intro f hf;unfold oP at hf;split at hf
    ·simp only[Option.some.injEq] at hf;subst hf;rcases ho with e|e<;>cases e
    ·simp only[Option.some.injEq] at hf;subst hf;rcases ho with e|e<;>cases e
    ·cases hf
   split at h
   ·split at h
    ·exact (Ze _ h).elim
    ·cases h
   ·rename_i b qX;simp only[execOp,resolve,qX,invoke,builtin];unfold gp at h;split at h
    ·rename_i ty _ x _;obtain ⟨u,hu,rfl⟩:=Option.map_eq_some_iff.1 h;rcases ho with e|e<;>cases e;rename_i mR;simp only[az] at hc;obtain ⟨y,ys,rm,hy,_⟩:=hc;obtain ⟨z,h1,h2⟩:=Re hE hR hu hy (ts:=c.argTypes) (ty:=type) (ys:=c.args.map ρ) (by rw[<-Array.getElem?_toList,mR];rfl) (by rw[<-Array.getElem?_toList,Array.toList_map,rm];rfl);refine ⟨z,?_,h2⟩;simp only[Sem.run_bind,Sem.run_pure,Result.andThen_ok,builtin];simp only[h1,Result.andThen_ok]
    ·split at h
     ·split at h
      ·split at h
       ·cases h
       ·obtain ⟨u,hu,rfl⟩:=Option.map_eq_some_iff.1 h;rcases ho with e|e<;>cases e
      ·cases h
     ·cases h
    ·obtain ⟨u,hu,rfl⟩:=Option.map_eq_some_iff.1 h;rcases ho with e|e<;>cases e
    ·obtain ⟨u,hu,rfl⟩:=Option.map_eq_some_iff.1 h;rcases ho with e|e<;>cases e
    ·obtain ⟨u,hu,rfl⟩:=Option.map_eq_some_iff.1 h;rcases ho with e|e<;>cases e;obtain ⟨x,rest,z,gw,h1,h2⟩:=Bd (P:=P) (w:=w) hu hc;refine ⟨z,?_,h2⟩;simp only[Sem.run_bind,Sem.run_pure,Result.andThen_ok,builtin,Builtin.min_,Array.toList_map,gw];simp only[h1,Result.andThen_ok]
    ·obtain ⟨u,hu,rfl⟩:=Option.map_eq_some_iff.1 h;rcases ho with e|e<;>cases e;obtain ⟨x,rest,z,gw,h1,h2⟩:=Bd (P:=P) (w:=w) hu hc;refine ⟨z,?_,h2⟩;simp only[Sem.run_bind,Sem.run_pure,Result.andThen_ok,builtin,Builtin.max_,Array.toList_map,gw];simp only[h1,Result.andThen_ok]
    ·cases h
   ·split at h
    ·split at h
     ·split at h
      ·split at h
       ·simp only[Option.some.injEq] at h;subst h;rcases ho with e|e<;>cases e
       ·cases h
      ·cases h
     ·cases h
    ·cases h
 all_goals cases h
end
def fJ(γ:aK)(id:Nat)(q:Option Place):aK:=fun o=>if o=id then some q else γ o
theorem bu(γ:aK)(id:Nat)(q:Option Place):fJ γ id q id=some q:=by simp[fJ]
theorem bU(γ:aK){id o:Nat}(q:Option Place)(h:o≠id):fJ γ id q o=γ o:=by simp[fJ,h]
theorem iY{γ:aK}{id:Nat}(q:Option Place)(h:γ id=none):Ext γ (fJ γ id q):=fun o p hp=>by
 have:o≠id:=fun e=>by rw[e,h] at hp;cases hp
 rw[bU γ q this];exact .inl hp
theorem xp{γ:aK}(id:Nat):Ext γ (fJ γ id none):=fun o p hp=>by
 by_cases e:o=id
 ·subst e;exact .inr (bu γ o none)
 ·rw[bU γ none e];exact .inl hp
theorem dI.mono{γ aq:aK}(hx:Ext γ aq){ob:af}{p:Place}{w w':World}(hw:w'.heap[p.block]?=w.heap[p.block]?)(h:dI γ ob p w):dI aq ob p w':=by
 cases ob with
 | cells l elem=>
   obtain ⟨c,hb,hs,hl,hc⟩:=h;exact ⟨c,hw.trans hb,hs,hl,fun i v hv=>let ⟨x,h1,h2⟩:=hc i v hv;⟨x,h1,h2.mono hx _ _⟩⟩
 | row xs elem=>
   obtain ⟨c,hb,hs,hl,hc⟩:=h;exact ⟨c,hw.trans hb,hs,hl,hc⟩
 | res R=>exact h.elim
 | br es=>
   obtain ⟨es',clock,hb,hs⟩:=h;exact ⟨es',clock,hw.trans hb,hs⟩
 | map es clock=>
   obtain ⟨es',hb,he⟩:=h;exact ⟨es',hw.trans hb,vO hx he⟩
 | iter m since seen mI=>
   obtain ⟨h0,r,hb,hr⟩:=h;exact ⟨h0,r,hw.trans hb,hr.mono hx⟩
 | dead=>trivial
theorem dI.lt{γ:aK}{ob:af}{p:Place}{w:World}(h:dI γ ob p w)(hd:ob≠.dead):p.block<w.heap.size:=by
 cases ob with
 | cells l elem=>obtain ⟨c,hb,_⟩:=h;exact (Array.getElem?_eq_some_iff.1 hb).1
 | row xs elem=>obtain ⟨c,hb,_⟩:=h;exact (Array.getElem?_eq_some_iff.1 hb).1
 | res R=>exact h.elim
 | br es=>obtain ⟨es',clock,hb,_⟩:=h;exact (Array.getElem?_eq_some_iff.1 hb).1
 | map es clock=>obtain ⟨es',hb,_⟩:=h;exact (Array.getElem?_eq_some_iff.1 hb).1
 | iter m since seen mI=>obtain ⟨_,r,hb,_⟩:=h;exact (Array.getElem?_eq_some_iff.1 hb).1
 | dead=>exact absurd rfl hd
structure di where
 w:World
 fz:Nat->Prop
structure Frame(F:di)(γ:aK)(w:World):Prop where
 os:w.os=F.w.os
 tape:w.tape=F.w.tape
 output:w.output=F.w.output
 size:F.w.heap.size<=w.heap.size
 fV:∀b,F.fz b->b<F.w.heap.size
 block:∀b,F.fz b->w.heap[b]?=F.w.heap[b]?
 own:∀o p,γ o=some (some p)->¬F.fz p.block
structure CM(b:Nat)(w w':World):Prop where
 os:w'.os=w.os
 tape:w'.tape=w.tape
 output:w'.output=w.output
 size:w.heap.size<=w'.heap.size
 block:∀c,c≠b->w'.heap[c]?=w.heap[c]?
theorem ya(w:World)(b:Nat)(o:Obj):CM b w { w with heap:=w.heap.setIfInBounds b o }:=
 ⟨rfl,rfl,rfl,by simp,fun c h=>Array.getElem?_setIfInBounds_ne (Ne.symm h)⟩
theorem Frame.turn{F:di}{γ:aK}{w w':World}(h:Frame F γ w){b:Nat}(hb:¬F.fz b)(ht:CM b w w'):Frame F γ w':=
 ⟨ht.os.trans h.os,ht.tape.trans h.tape,ht.output.trans h.output,Nat.le_trans h.size ht.size,h.fV,fun c hc=>(ht.block c fun e=>hb (e ▸ hc)).trans (h.block c hc),h.own⟩
theorem Frame.less{F:di}{γ aq:aK}{w:World}(h:Frame F γ w)(hg:∀o p,aq o=some (some p)->∃o' p',γ o'=some (some p')/\p'.block=p.block):Frame F aq w:=
 ⟨h.os,h.tape,h.output,h.size,h.fV,h.block,fun o p hp=>let ⟨o',p',h1,h2⟩:=hg o p hp;h2 ▸ h.own o' p' h1⟩
theorem Frame.push{F:di}{γ aq:aK}{w:World}(h:Frame F γ w)(ob:Obj)(hg:∀o p,aq o=some (some p)->γ o=some (some p)\/p.block=w.heap.size):Frame F aq { w with heap:=w.heap.push ob }:=
 ⟨h.os,h.tape,h.output,by have:=h.size;simp;omega,h.fV,fun c hc=>by
  have h1:=h.fV c hc;have h2:=h.size;show (w.heap.push ob)[c]?=_
  rw[Array.getElem?_push,if_neg (by omega)];exact h.block c hc,fun o p hp=>by
  rcases hg o p hp with h1|h1
  ·exact h.own o p h1
  ·intro hc;have h2:=h.fV _ hc;have h3:=h.size;omega⟩
structure aL(F:di)(γ:aK)(σ:AS)(w:World):Prop extends Rel γ σ w where
 live:∀o p,γ o=some (some p)->σ.heap.get o≠some .dead
 frame:Frame F γ w
theorem Rel.heap{γ:aK}{σ:AS}{w w':World}(h:Rel γ σ w)(hw:w'.heap=w.heap):Rel γ σ w':=
 ⟨h.jv,fun o p hp=>let ⟨ob,h1,h2⟩:=h.obj o p hp;⟨ob,h1,h2.mono (.refl γ) (by rw[hw])⟩,h.gone,h.inj,h.aU⟩
theorem aL.heap{F:di}{γ:aK}{σ:AS}{w w':World}(h:aL F γ σ w)(hw:w'.heap=w.heap)(h1:w'.os=w.os:=by rfl)(h2:w'.tape=w.tape:=by rfl)(h3:w'.output=w.output:=by rfl):aL F γ σ w':=
 ⟨h.toRel.heap hw,h.live,⟨h1.trans h.frame.os,h2.trans h.frame.tape,h3.trans h.frame.output,by rw[hw];exact h.frame.size,h.frame.fV,fun b hb=>by rw[hw];exact h.frame.block b hb,h.frame.own⟩⟩
theorem aL.lt{F:di}{γ:aK}{σ:AS}{w:World}(h:aL F γ σ w){o:Nat}{p:Place}(hp:γ o=some (some p)):p.block<w.heap.size:=by
 obtain ⟨ob,h1,h2⟩:=h.obj o p hp;exact h2.lt fun e=>h.live o p hp (by rw[h1,e])
theorem aL.iF{F:di}{γ:aK}{σ:AS}{w:World}(h:aL F γ σ w){o:Nat}(hp:γ o≠none):o<σ.next:=by
 rcases Nat.lt_or_ge o σ.next with h'|h'
 ·exact h'
 ·exact absurd (h.jv o h') hp
theorem aL.more{F:di}{γ:aK}{σ:AS}{w:World}(h:aL F γ σ w)(hl:σ.next<aU)(ob:af):aL F γ { heap:=σ.heap.put σ.next ob,next:=σ.next+1 } w:=by
 have aN:∀o,γ o≠none->o≠σ.next:=fun o ho e=>ho (h.jv o (by omega))
 refine ⟨⟨fun o ho=>h.jv o (by simp only[] at ho;omega),fun o p hp=>?_,fun o ho=>?_,h.inj,by simp only[];omega⟩,fun o p hp=>?_,h.frame⟩
 ·obtain ⟨cT,h1,h2⟩:=h.obj o p hp;refine ⟨cT,?_,h2⟩;simp only[];rw[T.bH _ _ _ _ (Nat.le_of_lt hl),if_neg (aN o (by rw[hp];simp))];exact h1
 ·simp only[];rw[T.bH _ _ _ _ (Nat.le_of_lt hl),if_neg (aN o (by rw[ho];simp))];exact h.gone o ho
 ·simp only[];rw[T.bH _ _ _ _ (Nat.le_of_lt hl),if_neg (aN o (by rw[hp];simp))];exact h.live o p hp
theorem Step.more{F:di}{γ:aK}{σ:AS}{w:World}(h:aL F γ σ w)(hl:σ.next<aU)(ob:af):Step γ σ γ { heap:=σ.heap.put σ.next ob,next:=σ.next+1 }:=
 ⟨.refl γ,fun _ _ h=>h,Nat.le_succ _,fun o ho _=>by simp only[];rw[T.bH _ _ _ _ (Nat.le_of_lt hl),if_neg (by omega)]⟩
theorem aL.place{F:di}{γ:aK}{σ:AS}{w:World}(h:aL F γ σ w){id:Nat}{ob:af}(hid:id<σ.next)(hg:γ id=none)(sh:σ.heap.get id=some ob)(hd:ob≠.dead)(uI:Obj)(base top:Nat)
  (hrel:dI (fJ γ id (some ⟨w.heap.size,base,top⟩)) ob ⟨w.heap.size,base,top⟩ { w with heap:=w.heap.push uI }) :
  aL F (fJ γ id (some ⟨w.heap.size,base,top⟩)) σ { w with heap:=w.heap.push uI }:=by
 have hx:=iY (some ⟨w.heap.size,base,top⟩) hg;refine ⟨⟨fun o ho=>?_,fun o p hp=>?_,fun o ho=>?_,fun o o' p p' hp bN e=>?_,h.aU⟩,fun o p hp=>?_,h.frame.push uI fun o p hp=>?_⟩
 ·rw[bU _ _ (by omega)];exact h.jv o ho
 ·by_cases e:o=id
  ·subst e;rw[bu] at hp;cases hp
   exact ⟨ob,sh,hrel⟩
  ·rw[bU _ _ e] at hp;obtain ⟨cT,h1,h2⟩:=h.obj o p hp;refine ⟨cT,h1,h2.mono hx ?_⟩;simp only[];rw[Array.getElem?_push,if_neg (by have:=h.lt hp;omega)]
 ·by_cases e:o=id
  ·subst e;rw[bu] at ho;cases ho
  ·rw[bU _ _ e] at ho;exact h.gone o ho
 ·by_cases e1:o=id<;>by_cases e2:o'=id
  ·rw[e1,e2]
  ·subst e1;rw[bu] at hp;cases hp;rw[bU _ _ e2] at bN;have:=h.lt bN;simp only[] at e;omega
  ·subst e2;rw[bu] at bN;cases bN;rw[bU _ _ e1] at hp;have:=h.lt hp;simp only[] at e;omega
  ·rw[bU _ _ e1] at hp;rw[bU _ _ e2] at bN;exact h.inj o o' p p' hp bN e
 ·by_cases e:o=id
  ·subst e;rw[sh];intro hh;exact hd (Option.some.inj hh)
  ·rw[bU _ _ e] at hp;exact h.live o p hp
 ·by_cases e:o=id
  ·subst e;rw[bu] at hp;cases hp;exact .inr rfl
  ·rw[bU _ _ e] at hp;exact .inl hp
theorem aL.set{F:di}{γ:aK}{σ:AS}{w w':World}(h:aL F γ σ w){o:Nat}{p:Place}{ob:af}(hp:γ o=some (some p))(hd:ob≠.dead)
  (hrel:dI γ ob p w') (hw:CM p.block w w'):aL F γ { σ with heap:=σ.heap.put o ob } w':=by
 have ho:o<=aU:=Nat.le_trans (Nat.le_of_lt (h.iF (by rw[hp];simp))) h.aU;refine ⟨⟨h.jv,fun q r hq=>?_,fun q hq=>?_,h.inj,h.aU⟩,fun q r hq=>?_,h.frame.turn (h.frame.own o p hp) hw⟩
 ·simp only[];rw[T.bH _ _ _ _ ho];by_cases e:q=o
  ·subst e;rw[hp] at hq;cases hq;exact ⟨ob,by simp,hrel⟩
  ·rw[if_neg e];obtain ⟨cT,h1,h2⟩:=h.obj q r hq;exact ⟨cT,h1,h2.mono (.refl γ) (hw.block _ fun e'=>e (h.inj q o r p hq hp e'))⟩
 ·simp only[];rw[T.bH _ _ _ _ ho,if_neg (fun e=>by rw[e,hp] at hq;cases hq)];exact h.gone q hq
 ·simp only[];rw[T.bH _ _ _ _ ho];by_cases e:q=o
  ·rw[if_pos e];intro hh;exact hd (Option.some.inj hh)
  ·rw[if_neg e];exact h.live q r hq
theorem Step.set{F:di}{γ:aK}{σ:AS}{w:World}(h:aL F γ σ w){o:Nat}{p:Place}(ob:af)(hp:γ o=some (some p)):Step γ σ γ { σ with heap:=σ.heap.put o ob }:=by
 have ho:o<=aU:=Nat.le_trans (Nat.le_of_lt (h.iF (by rw[hp];simp))) h.aU;exact ⟨.refl γ,fun _ _ h=>h,Nat.le_refl _,fun q _ hq=>by simp only[];rw[T.bH _ _ _ _ ho,if_neg (fun e=>by rw[e,hp] at hq;cases hq)]⟩
theorem aL.kill{F:di}{γ:aK}{σ:AS}{w:World}(h:aL F γ σ w){o:Nat}(hp:γ o≠none):aL F (fJ γ o none) { σ with heap:=σ.heap.put o .dead } w:=by
 have N7:=h.iF hp;have ho:o<=aU:=Nat.le_trans (Nat.le_of_lt N7) h.aU;refine ⟨⟨fun q hq=>?_,fun q r hq=>?_,fun q hq=>?_,fun q q' r r' hq eN e=>?_,h.aU⟩,fun q r hq=>?_,h.frame.less fun q r hq=>⟨q,r,by rwa [bU _ _ (fun e=>by rw[e,bu] at hq;cases hq)] at hq,rfl⟩⟩
 ·rw[bU _ _ (by simp only[] at hq;omega)];exact h.jv q hq
 ·have e:q≠o:=fun e=>by rw[e,bu] at hq;cases hq
  rw[bU _ _ e] at hq;simp only[];rw[T.bH _ _ _ _ ho,if_neg e];obtain ⟨cT,h1,h2⟩:=h.obj q r hq;exact ⟨cT,h1,h2.mono (xp o) rfl⟩
 ·simp only[];rw[T.bH _ _ _ _ ho];by_cases e:q=o
  ·rw[if_pos e]
  ·rw[if_neg e];rw[bU _ _ e] at hq;exact h.gone q hq
 ·have e1:q≠o:=fun e=>by rw[e,bu] at hq;cases hq
  have e2:q'≠o:=fun e=>by rw[e,bu] at eN;cases eN
  rw[bU _ _ e1] at hq;rw[bU _ _ e2] at eN;exact h.inj q q' r r' hq eN e
 ·have e:q≠o:=fun e=>by rw[e,bu] at hq;cases hq
  rw[bU _ _ e] at hq;simp only[];rw[T.bH _ _ _ _ ho,if_neg e];exact h.live q r hq
theorem Step.place{γ:aK}{σ:AS}{id:Nat}(q:Option Place)(hg:γ id=none):∀σ0,σ0.next<=id->Step γ σ0 γ σ->Step γ σ0 (fJ γ id q) σ:=fun σ0 hid h=>
 ⟨iY q hg,fun o ho EJ=>by rw[bU _ _ (by omega)];exact h.new o ho EJ,h.le,h.same⟩
theorem qp{γ aq:aK}(hx:Ext γ aq){l:List AV}{cs:Array Value}{elem:TypeId}(h:az γ l cs.toList){b:Nat}{w:World}(hw:w.heap[b]?=some (.cells cs elem (0,0))):dI aq (.cells l elem) ⟨b,0,cs.size⟩ w:=
 ⟨cs,hw,⟨rfl,fun _=>⟨rfl,by have:=bp h;simp at this;simp;omega⟩⟩,by have:=bp h;simp at this;simp;omega,fun i v hv=>by
  obtain ⟨x,h1,h2⟩:=dq h i v hv;exact ⟨x,by simpa using h1,h2.mono hx _ _⟩⟩
section
variable{P:Program}{E:Env}(hE:ch P E){γ:aK}{σ:AS}{w:World}{t:ax}{ρ:Operand->Value}
include hE
theorem E1(bD:o2 γ t ρ)(o:Oper){ob:af}{k:qS}(h:bz E t σ o.op=some (.new ob k)) :
  ob≠.dead/\∃uI x top,(execOp ρ o).run P w=.ok (.value x) { w with heap:=w.heap.push uI }/\∀aq id w',Ext γ aq->aq id=some (some ⟨w.heap.size,0,top⟩)->w'.heap[w.heap.size]?=some uI ->
   dI aq ob ⟨w.heap.size,0,top⟩ w'/\an aq (k.val id) x:=by
 obtain ⟨dst,op,type,pos,after,guard⟩:=o;simp only[] at h;have SQ:∀(aq:aK) (id top:Nat),aq id=some (some ⟨w.heap.size,0,top⟩)->an aq (qS.val id .ptr) (.pointer (some ⟨w.heap.size,0,none⟩)):=by
  intro aq id top hg;simp only[qS.val,an];exact ⟨_,rfl,by unfold gz;rw[hg]⟩
 have EP:∀(aq:aK) (id top l c:Nat),l<=c->aq id=some (some ⟨w.heap.size,0,top⟩)->an aq (qS.val id (.slice l c)) (.slice (some ⟨w.heap.size,0,none⟩) l c):=by
  intro aq id top l c tL hg;simp only[qS.val,an];exact ⟨_,_,rfl,.inr (by unfold gz;rw[hg]),tL,rfl⟩
 cases op<;>simp only[bz] at h
 case alloc elem=>
  split at h
  ·rename_i r hr;obtain ⟨z,hz,e⟩:=Option.map_eq_some_iff.1 h;cases e
   refine ⟨by simp,.cells z.cells elem,.pointer (some ⟨w.heap.size,0,none⟩),z.cells.size,?_,fun aq id w' hx hg hw=>⟨qp hx (eX (cN γ z)) hw,SQ aq id _ hg⟩⟩;simp only[execOp];exact dh (by simp only[Instr.alloc,Sem.run_bind,ma hE hr w hz,Result.andThen_ok,newVar,newRow,run_newObj,Sem.run_pure])
  ·cases h
 case box elem x=>
  obtain ⟨v,hv,e⟩:=Option.map_eq_some_iff.1 h;cases e
  refine ⟨by simp,.cells (ρ x).cells elem,.pointer (some ⟨w.heap.size,0,none⟩),(ρ x).cells.size,?_,fun aq id w' hx hg hw=>⟨qp hx (eX (bD _ _ hv)) hw,SQ aq id _ hg⟩⟩;simp only[execOp];exact dh (by simp only[Instr.box,Sem.run_bind,Result.andThen_ok,newVar,newRow,run_newObj,Sem.run_pure])
 case makeMap ty r=>
  cases r with
  | some _=>cases h
  | none=>
    cases h
    refine ⟨by simp,.map #[] 0,.map (some w.heap.size),0,?_,fun aq id w' hx hg hw=>⟨⟨#[],hw,rfl⟩,?_⟩⟩
    ·simp only[execOp,Option.map_none];exact dh (by simp only[Instr.makeMap,Sem.run_bind,Result.andThen_ok,run_newObj,Sem.run_pure])
    ·simp only[qS.val,an];exact ⟨_,rfl,by unfold lQ;rw[hg]⟩
 case buildSlice ty len parts=>
  split at h
  ·rename_i r vs hr U9;split at h
   ·rename_i elem hd;split at h
    ·rename_i er fh;split at h
     ·rename_i z hz;split at h
      ·rename_i hb;obtain ⟨l,hl,e⟩:=Option.map_eq_some_iff.1 h;cases e
       rw[Bool.and_eq_true] at hb;have iN:=Nat.le_of_ble_eq_true hb.1;have lK:=Nat.eq_of_beq_eq_true hb.2;have hp:=eY bD U9;have hlen:vs.length=parts.toList.length:=by have:=bp hp;simpa using this.symm
       have zB:∀(i:Nat) (p:Nat×AV),((parts.toList.map (·.1)).zip vs)[i]?=some p->∃x,((parts.map fun (i,x)=>(i,ρ x)).toList)[i]?=some (p.1,x)/\an γ p.2 x:=by
        intro i p hi;rw[List.getElem?_zip_eq_some] at hi;obtain ⟨h1,h2⟩:=hi;obtain ⟨x,hx,hc⟩:=dq hp i p.2 h2;refine ⟨x,?_,hc⟩;simp only[List.getElem?_map,Option.map_eq_some_iff,Array.toList_map] at h1 hx ⊢;obtain ⟨q,hq,e⟩:=h1;obtain ⟨q',⟨q'',SR,YF⟩,e'⟩:=hx;rw[hq] at SR;cases SR
        exact ⟨q,hq,by rw[<-e,<-e',<-YF]⟩
       have gd:(parts.map fun (i,x)=>(i,ρ x)).toList.length=((parts.toList.map (·.1)).zip vs).length:=by simp[hlen]
       have tN:az γ (ofValue z).cells z.cells.toList:=eX (cN γ z);have rp:z.cells.size=er.info.size:=by have:=bp tN;rw[lK] at this;simpa using this
       have Og:=KY z.cells er.info.size rp len;obtain ⟨yI,ho,hc⟩:=vT (fun i=>some (i * er.info.size,er.info.size)) _ _ _ ((Array.range (len * er.info.size)).map (z.cells[· % z.cells.size]!)) _ gd zB (by rw[Og];exact uJ tN len) hl;refine ⟨by simp,.cells yI elem,.slice (some ⟨w.heap.size,0,none⟩) len len,yI.size,?_,fun aq id w' hx hg hw=>⟨qp hx hc hw,EP aq id _ _ _ (Nat.le_refl _) hg⟩⟩;simp only[execOp];refine dh ?_;unfold Instr.buildSlice;have gf:¬len * er.info.size>2 ^ 24:=by omega
       simp only[Sem.run_bind,ba hE hr w,hd,Result.andThen_ok,bT hE fh w,if_neg gf];by_cases h0:len * er.info.size=0
       ·have:(Array.range (len * er.info.size)).map (fun x=>(#[]:Array Value)[x % (#[]:Array Value).size]!)=(Array.range (len * er.info.size)).map (z.cells[· % z.cells.size]!):=by
         rw[h0];simp
        rw[if_pos h0];simp only[Sem.run_pure,Result.andThen_ok,this,ho,Sem.run_bind,newRow,run_newObj]
       ·rw[if_neg h0];simp only[Sem.run_bind,ma hE fh w hz,Sem.run_pure,Result.andThen_ok,ho,newRow,run_newObj]
      ·cases h
     ·cases h
    ·cases h
   ·cases h
  ·cases h
 case makeSlice ty l c=>
  split at h
  ·rename_i r lv cv hr Zb YZ;split at h
   ·rename_i elem ln cn hd fD EF;split at h
    ·rename_i er fh;split at h
     ·rename_i z hz;split at h
      ·rename_i hb;cases h
       simp only[Bool.and_eq_true] at hb;obtain ⟨⟨⟨iN,lK⟩,ll⟩,AE⟩:=hb;have iN:=Nat.le_of_ble_eq_true iN;have lK:=Nat.le_of_ble_eq_true lK;have ll:=Nat.le_of_ble_eq_true ll;have AE:=Nat.eq_of_beq_eq_true AE;obtain ⟨k1,eZ⟩:=jh fD (bD _ _ Zb);obtain ⟨k2,kV⟩:=jh EF (bD _ _ YZ);have tN:az γ (ofValue z).cells z.cells.toList:=eX (cN γ z);have rp:z.cells.size=er.info.size:=by have:=bp tN;rw[AE] at this;simpa using this
       have Og:=KY z.cells er.info.size rp cn;refine ⟨by simp,.cells ((Array.range (cn * er.info.size)).map (z.cells[· % z.cells.size]!)) elem,.slice (some ⟨w.heap.size,0,none⟩) ln cn,_,?_,
        fun aq id w' hx hg hw=>⟨qp hx (by rw[Og];exact uJ tN cn) hw,EP aq id _ _ _ iN hg⟩⟩
       simp only[execOp];refine dh ?_;rw[eZ,kV];unfold Instr.makeSlice;have w1:IntKind.i64.wrap (ln:Int)=ln:=by
        unfold IntKind.wrap IntKind.bits IntKind.signed;simp;omega
       have w2:IntKind.i64.wrap (cn:Int)=cn:=by
        unfold IntKind.wrap IntKind.bits IntKind.signed;simp;omega
       have v3:¬((er.info.bytes:Int) * (cn:Int)>2 ^ 48):=by
        have:=Nat.mul_le_mul ll lK;have h2:((er.info.bytes * cn:Nat):Int)<=((65536 * 65536:Nat):Int):=Int.ofNat_le.2 this;rw[Int.natCast_mul] at h2;omega
       have Y4:((decide ((cn:Int)<0) || decide ((er.info.bytes:Int) * (cn:Int)>2 ^ 48)) || decide ((ln:Int)<0) || decide ((ln:Int)>(cn:Int)))=false:=by
        simp only[Bool.or_eq_false_iff,decide_eq_false_iff_not];exact ⟨⟨⟨by omega,v3⟩,by omega⟩,by omega⟩
       simp only[Sem.run_bind,ba hE hr w,hd,Result.andThen_ok,asInt,asIntOf,Sem.run_pure,l9 hE fh w,w1,w2,Y4,Bool.false_eq_true,if_false,run_askRoom,Int.toNat_natCast,bT hE fh w];by_cases h0:cn * er.info.size=0
       ·have:(Array.range (cn * er.info.size)).map (fun x=>(#[]:Array Value)[x % (#[]:Array Value).size]!)=(Array.range (cn * er.info.size)).map (z.cells[· % z.cells.size]!):=by
         rw[h0];simp
        rw[if_pos h0];simp only[Sem.run_pure,Result.andThen_ok,this,Sem.run_bind,newRow,run_newObj]
       ·rw[if_neg h0];simp only[Sem.run_bind,ma hE fh w hz,Sem.run_pure,Result.andThen_ok,newRow,run_newObj]
      ·cases h
     ·cases h
    ·cases h
   ·cases h
  ·cases h
 case call c=>
  split at h
  ·cases h
  ·split at h
   ·split at h
    ·unfold oP at h;split at h<;>cases h
    ·cases h
   ·unfold gp at h;(repeat' split at h)<;>first|cases h|(obtain ⟨_,_,e⟩:=Option.map_eq_some_iff.1 h;cases e)
   ·(repeat' split at h)<;>cases h
 case convert src dst x=>
  split at h
  ·unfold mN at h;(repeat' split at h)<;>first|cases h|(obtain ⟨_,_,e⟩:=Option.map_eq_some_iff.1 h;cases e)
  ·cases h
 all_goals
  (repeat' split at h)<;>first|cases h|(obtain ⟨_,_,e⟩:=Option.map_eq_some_iff.1 h;cases e)
end
open Go.RowKit (Below) in
theorem aL.grown{F:di}{γ:aK}{σ:AS}{w w':World}(h:aL F γ σ w)(hb:Below w.heap.size w w'):aL F γ σ w':=by
 refine ⟨⟨h.jv,fun o p hp=>?_,h.gone,h.inj,h.aU⟩,h.live,⟨hb.os.trans h.frame.os,hb.tape.trans h.frame.tape,hb.output.trans h.frame.output,Nat.le_trans h.frame.size hb.size,h.frame.fV,fun b hf=>?_,h.frame.own⟩⟩
 ·obtain ⟨ob,h1,h2⟩:=h.obj o p hp;exact ⟨ob,h1,h2.mono (.refl γ) (hb.block _ (h.lt hp))⟩
 ·exact (hb.block b (Nat.lt_of_lt_of_le (h.frame.fV b hf) h.frame.size)).trans (h.frame.block b hf)
def NF(w:World)(γ:aK):di:=⟨w,fun b=>b<w.heap.size/\∀o p,γ o=some (some p)->p.block≠b⟩
theorem Ex(w:World)(γ:aK):Frame (NF w γ) γ w:=
 ⟨rfl,rfl,rfl,Nat.le_refl _,fun _ h=>h.1,fun _ _=>rfl,fun o p hp h=>h.2 o p hp rfl⟩
def emp:aK:=fun _=>none
def Sw:AS:=⟨.e,0⟩
theorem BE(w:World):aL (NF w emp) emp Sw w:=
 ⟨⟨fun _ _=>rfl,fun o p h=>by simp[emp] at h,fun o h=>by simp[emp] at h,fun o o' p p' h=>by simp[emp] at h,Nat.zero_le _⟩,fun o p h=>by simp[emp] at h,Ex w emp⟩
open Go.RowKit (Below) in
theorem CS{w w':World}{γ:aK}(h:Frame (NF w emp) γ w'):Below w.heap.size w w':=
 ⟨h.os,h.tape,h.output,h.size,fun b hb=>h.block b ⟨hb,fun o p hp=>by simp[emp] at hp⟩⟩
end Go.Proofs.YtmbdghclhpboaaaGreat.Ev

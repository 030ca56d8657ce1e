/- Part of the proof: EvI EvJ. Conditions: as each states. -/
import Derived.Test.YtmbdghclhpboaaaGreatPq5
set_option linter.all false
namespace Go.Proofs.YtmbdghclhpboaaaGreat.Ev
theorem gZ{a b:Nat}(h:Nat.blt a b=true):a<b:=nB1 h
theorem dE{P:Program}{w w':World}{s:Sem Value}{x:Value}(h:s.run P w=.ok x w'):(do let r <-s;pure (Next.value r):Sem Next).run P w=.ok (.value x) w':=by
 simp only[Sem.run_bind,h,Result.andThen_ok,Sem.run_pure]
section
variable{P:Program}{E:Env}(hE:cL P E){γ:aT}{σ:AS}{w:World}{t:aE}{ρ:Operand->Value}
include hE
omit hE in
theorem yM(bJ:pM γ t ρ){x:Option Operand}{v:Option AV}(h:rk t x=some v):qN γ v (x.map ρ):=by
 unfold rk at h;split at h
 ·simp only[Option.some.injEq] at h;subst h;trivial
 ·split at h
  ·rename_i hx;simp only[Option.some.injEq] at h;subst h;exact bJ _ _ hx
  ·cases h
omit hE in
theorem Cf{f:Value->Value->Sem Value}{l:List AV}{u:AV}{xs:List Value}(h:AA f l=some u)(hl:aG γ l xs) :
  ∃x rest y,xs=x::rest/\(rest.foldlM f x).run P w=.ok y w/\aw γ u y:=by
 cases l with
 | nil=>simp[AA] at h
 | cons v l=>
   simp only[aG] at hl;obtain ⟨x,xs,rfl,hx,hl⟩:=hl;obtain ⟨y,h1,h2⟩:=tF (P:=P) (w:=w) l v u x xs h hx hl;exact ⟨x,xs,y,rfl,h1,h2⟩
theorem pJ(hR:Rel γ σ w)(bJ:pM γ t ρ)(o:Oper){out:Out}{v:AV}(h:bK E t σ o.op=some out)(ho:out=.pure v\/out=.read v) :
  ∃x,(execOp ρ o).run P w=.ok (.value x) w/\aw γ v x:=by
 obtain ⟨dst,op,type,pos,after,guard⟩:=o;simp only[] at h;cases op<;>simp only[bK] at h
 case move x=>
  obtain ⟨u,hu,rfl⟩:=oM1.1 h;rcases ho with e|e<;>cases e;exact ⟨ρ x,rfl,bJ _ _ hu⟩
 case assign x=>
  obtain ⟨u,hu,rfl⟩:=oM1.1 h;rcases ho with e|e<;>cases e
 case pick c a b=>
  simp only[execOp];split at h
  ·rename_i hc;obtain ⟨u,hu,rfl⟩:=oM1.1 h;rcases ho with e|e<;>cases e;have:=bJ _ _ hc;rw[au] at this;refine ⟨ρ a,?_,bJ _ _ hu⟩;rw[this];rfl
  ·rename_i hc;obtain ⟨u,hu,rfl⟩:=oM1.1 h;rcases ho with e|e<;>cases e;have:=bJ _ _ hc;rw[au] at this;refine ⟨ρ b,?_,bJ _ _ hu⟩;rw[this];rfl
  ·cases h
 case alloc elem=>
  split at h
  ·obtain ⟨u,hu,rfl⟩:=oM1.1 h;rcases ho with e|e<;>cases e
  ·cases h
 case box elem x=>
  obtain ⟨u,hu,rfl⟩:=oM1.1 h;rcases ho with e|e<;>cases e
 case build ty parts=>
  simp only[execOp];split at h
  ·rename_i r vs hr B6;have hc:=fI bJ B6;split at h
   ·rename_i z hz;rw[List.map_map] at hc;have hb:=fun v h=>Nm (v:=v) hE (w:=w) (is:=[]) (os:=[]) (ρ:=ρ) (parts:=parts) hr hz hc h;obtain ⟨x,hx⟩:∃u,(match r.bp with
      | .struct fs=>match places E fs.toList with
        | some ps=>(oQ (ps[·]?) (ofValue z).cells ((parts.toList.map (·.1)).zip vs)).map fun l=>AV.agg l
        | none=>none
      | .array _ elem=>match E.ty elem with
        | some er=>(oQ (fun i=>some (i * er.info.size,er.info.size)) (ofValue z).cells ((parts.toList.map (·.1)).zip vs)).map fun l=>AV.agg l
        | none=>none
      | _=>none)=some u/\out=.pure u:=by
     split at h
     ·rename_i hd;split at h
      ·rename_i hp;obtain ⟨l,hl,rfl⟩:=oM1.1 h;exact ⟨.agg l,by simp only[hd,hp,hl,Option.map_some],rfl⟩
      ·cases h
     ·rename_i hd;split at h
      ·rename_i hp;obtain ⟨l,hl,rfl⟩:=oM1.1 h;exact ⟨.agg l,by simp only[hd,hp,hl,Option.map_some],rfl⟩
      ·cases h
     ·cases h
    obtain ⟨hx,rfl⟩:=hx;rcases ho with e|e<;>cases e;obtain ⟨y,h1,h2⟩:=hb _ hx;exact ⟨y,dE h1,h2⟩
   ·cases h
  ·cases h
 case buildSlice ty len parts=>
  split at h
  ·split at h
   ·split at h
    ·split at h
     ·split at h
      ·obtain ⟨u,hu,rfl⟩:=oM1.1 h;rcases ho with e|e<;>cases e
      ·cases h
     ·cases h
    ·cases h
   ·cases h
  ·cases h
 case load ty a=>
  simp only[execOp];split at h
  ·rename_i o off ha;obtain ⟨u,hu,rfl⟩:=oM1.1 h;rcases ho with e|e<;>cases e;have hc:=bJ _ _ ha;simp only[aw] at hc;obtain ⟨ad,mM,dO⟩:=hc;obtain ⟨x,h1,h2⟩:=IV hE hR hu dO;refine ⟨x,dE ?_,h2⟩;rw[mM];simp only[Instr.loadAt,Instr.sureAddr,Sem.run_bind,Sem.run_pure,Result.andThen_ok,h1]
  ·cases h
 case store ty a x=>
  split at h
  ·obtain ⟨u,hu,rfl⟩:=oM1.1 h;rcases ho with e|e<;>cases e
  ·cases h
 case nilCheck x=>
  simp only[execOp];split at h
  ·rename_i o off hx;simp only[Option.some.injEq] at h;subst h;rcases ho with e|e<;>cases e;have hc:=bJ _ _ hx;have yp:=hc;simp only[aw] at hc;obtain ⟨ad,mM,_⟩:=hc;refine ⟨ρ x,?_,yp⟩;rw[mM];rfl
  ·rename_i f a b hx;simp only[Option.some.injEq] at h;subst h;rcases ho with e|e<;>cases e;have hc:=bJ _ _ hx;have yp:=hc;rw[au] at hc;refine ⟨ρ x,?_,yp⟩;rw[hc];rfl
  ·rename_i f a b hx;simp only[Option.some.injEq] at h;subst h;rcases ho with e|e<;>cases e;have hc:=bJ _ _ hx;have yp:=hc;simp only[aw] at hc;obtain ⟨a',b',mM,_⟩:=hc;refine ⟨ρ x,?_,yp⟩;rw[mM];rfl
  ·rename_i ty u hx;simp only[Option.some.injEq] at h;subst h;rcases ho with e|e<;>cases e;have hc:=bJ _ _ hx;have yp:=hc;simp only[aw] at hc;obtain ⟨y,mM,_⟩:=hc;refine ⟨ρ x,?_,yp⟩;rw[mM];rfl
  ·cases h
 case binOp op ty x y yt=>
  simp only[execOp];split at h
  ·rename_i a b ha hb;obtain ⟨u,hu,rfl⟩:=oM1.1 h;rcases ho with e|e<;>cases e;obtain ⟨z,h1,h2⟩:=Pd hE (w:=w) (ox:=x) (oy:=y) hu (bJ _ _ ha) (bJ _ _ hb);exact ⟨z,dE h1,h2⟩
  ·cases h
 case unOp op ty x=>
  simp only[execOp];split at h
  ·rename_i a ha;obtain ⟨u,hu,rfl⟩:=oM1.1 h;rcases ho with e|e<;>cases e;obtain ⟨z,h1,h2⟩:=Vb (P:=P) (w:=w) hu (bJ _ _ ha);exact ⟨z,dE h1,h2⟩
  ·cases h
 case convert src dst x=>
  simp only[execOp];split at h
  ·rename_i a ha;obtain ⟨z,h1,h2⟩:=Po hE hR (v:=v) (ho.imp (fun e=>e ▸ h) (fun e=>e ▸ h)) (bJ _ _ ha);exact ⟨z,dE h1,h2⟩
  ·cases h
 case makeInterface ty x=>
  simp only[execOp];split at h
  ·rename_i r u hr hu;split at h
   ·cases h
   ·rename_i hd;simp only[Option.some.injEq] at h;subst h;rcases ho with e|e<;>cases e;refine ⟨.iface ty (ρ x),dE ?_,by simp only[aw];exact ⟨_,rfl,bJ _ _ hu⟩⟩;unfold Instr.makeInterface;simp only[Sem.run_bind,bn hE hr w,Result.andThen_ok];rfl
  ·cases h
 case makeFunc fn first captured=>
  simp only[execOp];split at h
  ·rename_i a b ha hb;simp only[Option.some.injEq] at h;subst h;rcases ho with e|e<;>cases e;have h1:=fI bJ ha;have h2:=fI bJ hb;refine ⟨_,dE rfl,?_⟩;simp only[aw];exact ⟨_,_,rfl,by simpa using h1,by simpa using h2⟩
  ·cases h
 case makeMap ty r=>
  cases r with
  | none=>
    simp only[Option.some.injEq] at h;subst h;rcases ho with e|e<;>cases e
  | some _=>cases h
 case makeSlice ty l c=>
  split at h
  ·split at h
   ·split at h
    ·split at h
     ·split at h
      ·simp only[Option.some.injEq] at h;subst h;rcases ho with e|e<;>cases e
      ·cases h
     ·cases h
    ·cases h
   ·cases h
  ·cases h
 case slice ty x lo hi mx=>
  simp only[execOp];split at h
  ·rename_i a DH kU mx' ha Xp Xl Xr;obtain ⟨u,hu,rfl⟩:=oM1.1 h;rcases ho with e|e<;>cases e;obtain ⟨z,h1,h2⟩:=y4 hE (w:=w) hu (bJ _ _ ha) (yM bJ Xp) (yM bJ Xl) (yM bJ Xr);exact ⟨z,dE h1,h2⟩
  ·cases h
 case fieldAddr ty x f=>
  simp only[execOp];split at h
  ·rename_i r o off hr hx;split at h
   ·rename_i fs hd;split at h
    ·rename_i fd Xf;split at h
     ·rename_i fr FR;split at h
      ·rename_i hz;simp only[Option.some.injEq] at h;subst h;rcases ho with e|e<;>cases e;have hc:=bJ _ _ hx;simp only[aw] at hc;obtain ⟨a,mM,dO⟩:=hc;have hz:=Nat.ne_of_beq_eq_false hz;refine ⟨.pointer (some (a.add fd.offset)),dE ?_,?_⟩
       ·rw[mM];unfold Instr.fieldAt fieldPlace;simp only[Sem.run_bind,bn hE hr w,Result.andThen_ok,hd,Xf,Instr.sureAddr,Sem.run_pure,bY hE FR w,if_neg hz]
       ·simp only[aw];refine ⟨_,rfl,?_⟩;unfold gY at dO ⊢;cases hg:γ o with
        | none=>rw[hg] at dO;exact dO.elim
        | some q=>
          rw[hg] at dO;cases q with
          | none=>trivial
          | some p=>simp only[] at dO ⊢;rw[dO,lu,Nat.add_assoc]
      ·cases h
     ·cases h
    ·cases h
   ·cases h
  ·cases h
 case field ty x f=>
  simp only[execOp];split at h
  ·rename_i r cs hr hx;split at h
   ·rename_i fs hd;split at h
    ·rename_i fd Xf;obtain ⟨u,hu,rfl⟩:=oM1.1 h;rcases ho with e|e<;>cases e;have hc:=bJ _ _ hx;simp only[aw] at hc;obtain ⟨a,mM,dO⟩:=hc;obtain ⟨z,h1,h2⟩:=Jd hE (w:=w) hu dO;refine ⟨z,dE ?_,h2⟩;rw[mM];unfold Instr.field;simp only[Sem.run_bind,bn hE hr w,Result.andThen_ok,hd,Xf,asAgg,Sem.run_pure,h1]
    ·cases h
   ·cases h
  ·cases h
 case indexAddr ty x i=>
  simp only[execOp];have Ix:∀{o off s:Nat} {a:Addr} {l:Nat},gY γ o off a->gY γ o (off+l * s) (a.add (l * s)):=by
   intro o off s a l ha;unfold gY at ha ⊢;cases hg:γ o with
   | none=>rw[hg] at ha;exact ha.elim
   | some q=>
     rw[hg] at ha;cases q with
     | none=>trivial
     | some p=>simp only[] at ha ⊢;rw[ha,lu,Nat.add_assoc]
  split at h
  ·rename_i r xv iv hr hx hi;split at h
   ·rename_i len elem o off i' hd hn;split at h
    ·rename_i er fN an;simp only[Option.some.injEq] at h;subst h;rcases ho with e|e<;>cases e;have an:=gZ an;obtain ⟨k,hk⟩:=jR hn (bJ _ _ hi);have hc:=bJ _ _ hx;simp only[aw] at hc;obtain ⟨a,mM,dO⟩:=hc;refine ⟨.pointer (some (a.add (i' * er.info.size))),dE ?_,by simp only[aw];exact ⟨_,rfl,Ix dO⟩⟩;rw[mM,hk];unfold Instr.indexAt;have iX:(0<=(i':Int)/\(i':Int)<(len:Int)):=⟨by omega,by omega⟩;simp only[asIntOf,Instr.sureAddr,Sem.run_bind,bn hE hr w,Result.andThen_ok,hd,Sem.run_pure,iX,and_self,if_true,bY hE fN w,Int.toNat_natCast]
    ·cases h
   ·rename_i elem o off len cap i' hd hn;split at h
    ·rename_i er fN an;simp only[Option.some.injEq] at h;subst h;rcases ho with e|e<;>cases e;have an:=gZ an;obtain ⟨k,hk⟩:=jR hn (bJ _ _ hi);have hc:=bJ _ _ hx;simp only[aw] at hc;obtain ⟨a,c,mM,dO,uR,_⟩:=hc;have dO:=dO.resolve_left (by omega);refine ⟨.pointer (some (a.add (i' * er.info.size))),dE ?_,by simp only[aw];exact ⟨_,rfl,Ix dO⟩⟩;rw[mM,hk];unfold Instr.indexAt;have iX:(0<=(i':Int)/\(i':Int)<(len:Int)):=⟨by omega,by omega⟩;simp only[asIntOf,Sem.run_bind,bn hE hr w,Result.andThen_ok,hd,Sem.run_pure,iX,and_self,if_true,bY hE fN w,Int.toNat_natCast]
    ·cases h
   ·cases h
  ·cases h
 case index ty x i=>
  simp only[execOp];split at h
  ·rename_i r xv iv hr hx hi;split at h
   ·rename_i len elem cs i' hd hn;split at h
    ·rename_i er fN an;obtain ⟨u,hu,rfl⟩:=oM1.1 h;rcases ho with e|e<;>cases e;have an:=gZ an;obtain ⟨k,hk⟩:=jR hn (bJ _ _ hi);have hc:=bJ _ _ hx;simp only[aw] at hc;obtain ⟨a,mM,dO⟩:=hc;obtain ⟨z,h1,h2⟩:=Jd hE (w:=w) hu dO;refine ⟨z,dE ?_,h2⟩;rw[mM,hk];unfold Instr.index;have iX:(0<=(i':Int)/\(i':Int)<(len:Int)):=⟨by omega,by omega⟩;simp only[asIntOf,Sem.run_bind,bn hE hr w,Result.andThen_ok,hd,Sem.run_pure,iX,and_self,if_true,bY hE fN w,Int.toNat_natCast,h1]
    ·cases h
   ·rename_i s i' hd hn;split at h
    ·rename_i b hb;simp only[Option.some.injEq] at h;subst h;rcases ho with e|e<;>cases e;obtain ⟨k,hk⟩:=jR hn (bJ _ _ hi);have hc:=bJ _ _ hx;rw[au] at hc;refine ⟨.int .u8 b.toNat,dE ?_,aS γ _⟩;rw[hc,hk];unfold Instr.index;have pQ:s[i']?=some b:=by
      have an:i'<s.data.toList.length:=(lE1.1 hb).1;have hlt':i'<s.size:=by simpa using an
      have:s.data.toList[i']=b:=(lE1.1 hb).2;rw[getElem?_pos s i' hlt'];rw[<-this];rfl
     have iX:(0<=(i':Int)):=by omega
     simp only[asIntOf,Sem.run_bind,bn hE hr w,Result.andThen_ok,hd,Sem.run_pure,iX,if_true,Int.toNat_natCast,pQ]
    ·cases h
   ·cases h
  ·cases h
 case lookup ty x k ok=>
  simp only[execOp];split at h
  ·rename_i a b ha hb;obtain ⟨u,hu,rfl⟩:=oM1.1 h;rcases ho with e|e<;>cases e;obtain ⟨z,h1,h2⟩:=KZ hE hR hu (bJ _ _ ha) (bJ _ _ hb);exact ⟨z,dE h1,h2⟩
  ·cases h
 case mapUpdate ty m k x=>
  split at h
  ·obtain ⟨u,hu,rfl⟩:=oM1.1 h;rcases ho with e|e<;>cases e
  ·cases h
 case insert ty m k x=>
  split at h
  ·obtain ⟨u,hu,rfl⟩:=oM1.1 h;rcases ho with e|e<;>cases e
  ·cases h
 case range ty x=>
  split at h
  ·split at h
   ·split at h
    ·simp only[Option.some.injEq] at h;subst h;rcases ho with e|e<;>cases e
    ·cases h
   ·cases h
  ·cases h
 case next it isString=>
  split at h
  ·obtain ⟨u,hu,rfl⟩:=oM1.1 h;rcases ho with e|e<;>cases e
  ·cases h
 case entry it=>
  simp only[execOp];split at h
  ·rename_i a ha;obtain ⟨u,hu,rfl⟩:=oM1.1 h;rcases ho with e|e<;>cases e;obtain ⟨z,h1,h2⟩:=Nw (P:=P) hR hu (bJ _ _ ha);exact ⟨z,dE h1,h2⟩
  ·cases h
 case typeAssert x xt asserted ok=>
  simp only[execOp];split at h
  ·rename_i r ty u hr hx;split at h
   ·cases h
   ·rename_i kW hd;simp only[Option.some.injEq] at h;subst h;rcases ho with e|e<;>cases e;have hc:=bJ _ _ hx;simp only[aw] at hc;obtain ⟨y,mM,hy⟩:=hc;have kW:=nQ1 kW;subst kW;have dB:(Instr.typeAssert (ρ x) xt ty ok).run P w=.ok (if ok then .tuple #[y,.bool true] else y) w:=by
     rw[mM];unfold Instr.typeAssert;simp only[Sem.run_bind,bn hE hr w,Result.andThen_ok];simp
    refine ⟨_,dE dB,?_⟩;cases ok with
    | true=>
      simp only[aw,if_true];exact ⟨_,rfl,by simp only[aG];exact ⟨y,[.bool true],rfl,hy,.bool true,[],rfl,aS γ _,rfl⟩⟩
    | false=>exact hy
   ·cases h
  ·cases h
 case extract x i=>
  simp only[execOp];split at h
  ·rename_i vs hx;obtain ⟨u,hu,rfl⟩:=oM1.1 h;rcases ho with e|e<;>cases e;have hc:=bJ _ _ hx;simp only[aw] at hc;obtain ⟨a,mM,dO⟩:=hc;obtain ⟨y,hy,KA⟩:=dQ dO i v hu;refine ⟨y,dE ?_,KA⟩;rw[mM];have:a[i]?=some y:=by simpa using hy
   simp only[Instr.extract,this,Sem.run_pure]
  ·rename_i vs hx;obtain ⟨u,hu,rfl⟩:=oM1.1 h;rcases ho with e|e<;>cases e;have hc:=bJ _ _ hx;rw[au] at hc;refine ⟨u,dE ?_,aS γ u⟩;rw[hc];simp only[Instr.extract,hu,Sem.run_pure]
  ·cases h
 case call c=>
  split at h
  ·cases h
  ·rename_i args iD;have hc:=fI bJ iD;have hnc:∀f,pC f args=some out->False:=by
    intro f hf;unfold pC at hf;split at hf
    ·simp only[Option.some.injEq] at hf;subst hf;rcases ho with e|e<;>cases e
    ·simp only[Option.some.injEq] at hf;subst hf;rcases ho with e|e<;>cases e
    ·cases hf
   split at h
   ·split at h
    ·exact (hnc _ h).elim
    ·cases h
   ·rename_i b rX;simp only[execOp,resolve,rX,invoke,builtin];unfold gP at h;split at h
    ·rename_i ty _ x _;obtain ⟨u,hu,rfl⟩:=oM1.1 h;rcases ho with e|e<;>cases e;rename_i nP;simp only[aG] at hc;obtain ⟨y,ys,qp,hy,_⟩:=hc;obtain ⟨z,h1,h2⟩:=TJ hE hR hu hy (ts:=c.argTypes) (ty:=type) (ys:=c.args.map ρ) (by rw[<-Array.getElem?_toList,nP];rfl) (by rw[<-Array.getElem?_toList,Array.toList_map,qp];rfl);refine ⟨z,?_,h2⟩;simp only[Sem.run_bind,Sem.run_pure,Result.andThen_ok,builtin];simp only[h1,Result.andThen_ok]
    ·split at h
     ·split at h
      ·split at h
       ·cases h
       ·obtain ⟨u,hu,rfl⟩:=oM1.1 h;rcases ho with e|e<;>cases e
      ·cases h
     ·cases h
    ·obtain ⟨u,hu,rfl⟩:=oM1.1 h;rcases ho with e|e<;>cases e
    ·obtain ⟨u,hu,rfl⟩:=oM1.1 h;rcases ho with e|e<;>cases e
    ·obtain ⟨u,hu,rfl⟩:=oM1.1 h;rcases ho with e|e<;>cases e;obtain ⟨x,rest,z,gV,h1,h2⟩:=Cf (P:=P) (w:=w) hu hc;refine ⟨z,?_,h2⟩;simp only[Sem.run_bind,Sem.run_pure,Result.andThen_ok,builtin,Builtin.min_,Array.toList_map,gV];simp only[h1,Result.andThen_ok]
    ·obtain ⟨u,hu,rfl⟩:=oM1.1 h;rcases ho with e|e<;>cases e;obtain ⟨x,rest,z,gV,h1,h2⟩:=Cf (P:=P) (w:=w) hu hc;refine ⟨z,?_,h2⟩;simp only[Sem.run_bind,Sem.run_pure,Result.andThen_ok,builtin,Builtin.max_,Array.toList_map,gV];simp only[h1,Result.andThen_ok]
    ·cases h
   ·split at h
    ·split at h
     ·split at h
      ·split at h
       ·simp only[Option.some.injEq] at h;subst h;rcases ho with e|e<;>cases e
       ·cases h
      ·cases h
     ·cases h
    ·cases h
 all_goals cases h
end
def gh(γ:aT)(id:Nat)(q:Option Place):aT:=fun o=>if o=id then some q else γ o
theorem bI(γ:aT)(id:Nat)(q:Option Place):gh γ id q id=some q:=by simp[gh]
theorem ck(γ:aT){id o:Nat}(q:Option Place)(h:o≠id):gh γ id q o=γ o:=by simp[gh,h]
theorem jH{γ:aT}{id:Nat}(q:Option Place)(h:γ id=none):Ext γ (gh γ id q):=fun o p hp=>by
 have:o≠id:=fun e=>by rw[e,h] at hp;cases hp
 rw[ck γ q this];exact .inl hp
theorem yl{γ:aT}(id:Nat):Ext γ (gh γ id none):=fun o p hp=>by
 by_cases e:o=id
 ·subst e;exact .inr (bI γ o none)
 ·rw[ck γ none e];exact .inl hp
theorem eo.mono{γ ay:aT}(hx:Ext γ ay){ob:ai}{p:Place}{w w':World}(hw:w'.heap[p.block]?=w.heap[p.block]?)(h:eo γ ob p w):eo ay ob p w':=by
 cases ob with
 | cells l elem=>
   obtain ⟨c,hb,hs,hl,hc⟩:=h;exact ⟨c,hw.trans hb,hs,hl,fun i v hv=>let ⟨x,h1,h2⟩:=hc i v hv;⟨x,h1,h2.mono hx _ _⟩⟩
 | row xs elem=>
   obtain ⟨c,hb,hs,hl,hc⟩:=h;exact ⟨c,hw.trans hb,hs,hl,hc⟩
 | res R=>exact h.elim
 | bE es=>
   obtain ⟨es',clock,hb,hs⟩:=h;exact ⟨es',clock,hw.trans hb,hs⟩
 | map es clock=>
   obtain ⟨es',hb,he⟩:=h;exact ⟨es',hw.trans hb,wO hx he⟩
 | iter m since seen nH=>
   obtain ⟨h0,r,hb,hr⟩:=h;exact ⟨h0,r,hw.trans hb,hr.mono hx⟩
 | dead=>trivial
theorem eo.lt{γ:aT}{ob:ai}{p:Place}{w:World}(h:eo γ ob p w)(hd:ob≠.dead):p.block<w.heap.size:=by
 cases ob with
 | cells l elem=>obtain ⟨c,hb,_⟩:=h;exact (Array.getElem?_eq_some_iff.1 hb).1
 | row xs elem=>obtain ⟨c,hb,_⟩:=h;exact (Array.getElem?_eq_some_iff.1 hb).1
 | res R=>exact h.elim
 | bE es=>obtain ⟨es',clock,hb,_⟩:=h;exact (Array.getElem?_eq_some_iff.1 hb).1
 | map es clock=>obtain ⟨es',hb,_⟩:=h;exact (Array.getElem?_eq_some_iff.1 hb).1
 | iter m since seen nH=>obtain ⟨_,r,hb,_⟩:=h;exact (Array.getElem?_eq_some_iff.1 hb).1
 | dead=>exact absurd rfl hd
structure dN where
 w:World
 fz:Nat->Prop
structure Frame(F:dN)(γ:aT)(w:World):Prop where
 os:w.os=F.w.os
 tape:w.tape=F.w.tape
 output:w.output=F.w.output
 size:F.w.heap.size<=w.heap.size
 gE:∀b,F.fz b->b<F.w.heap.size
 block:∀b,F.fz b->w.heap[b]?=F.w.heap[b]?
 own:∀o p,γ o=some (some p)->¬F.fz p.block
structure DS(b:Nat)(w w':World):Prop where
 os:w'.os=w.os
 tape:w'.tape=w.tape
 output:w'.output=w.output
 size:w.heap.size<=w'.heap.size
 block:∀c,c≠b->w'.heap[c]?=w.heap[c]?
theorem y9(w:World)(b:Nat)(o:Obj):DS b w { w with heap:=w.heap.setIfInBounds b o }:=
 ⟨rfl,rfl,rfl,by simp,fun c h=>Array.getElem?_setIfInBounds_ne (Ne.symm h)⟩
theorem Frame.turn{F:dN}{γ:aT}{w w':World}(h:Frame F γ w){b:Nat}(hb:¬F.fz b)(ht:DS b w w'):Frame F γ w':=
 ⟨ht.os.trans h.os,ht.tape.trans h.tape,ht.output.trans h.output,Nat.le_trans h.size ht.size,h.gE,fun c hc=>(ht.block c fun e=>hb (e ▸ hc)).trans (h.block c hc),h.own⟩
theorem Frame.less{F:dN}{γ ay:aT}{w:World}(h:Frame F γ w)(hg:∀o p,ay o=some (some p)->∃o' p',γ o'=some (some p')/\p'.block=p.block):Frame F ay w:=
 ⟨h.os,h.tape,h.output,h.size,h.gE,h.block,fun o p hp=>let ⟨o',p',h1,h2⟩:=hg o p hp;h2 ▸ h.own o' p' h1⟩
theorem Frame.push{F:dN}{γ ay:aT}{w:World}(h:Frame F γ w)(ob:Obj)(hg:∀o p,ay o=some (some p)->γ o=some (some p)\/p.block=w.heap.size):Frame F ay { w with heap:=w.heap.push ob }:=
 ⟨h.os,h.tape,h.output,by have:=h.size;simp;omega,h.gE,fun c hc=>by
  have h1:=h.gE c hc;have h2:=h.size;show (w.heap.push ob)[c]?=_
  rw[Array.getElem?_push,if_neg (by omega)];exact h.block c hc,fun o p hp=>by
  rcases hg o p hp with h1|h1
  ·exact h.own o p h1
  ·intro hc;have h2:=h.gE _ hc;have h3:=h.size;omega⟩
structure aU(F:dN)(γ:aT)(σ:AS)(w:World):Prop extends Rel γ σ w where
 live:∀o p,γ o=some (some p)->σ.heap.get o≠some .dead
 frame:Frame F γ w
theorem Rel.heap{γ:aT}{σ:AS}{w w':World}(h:Rel γ σ w)(hw:w'.heap=w.heap):Rel γ σ w':=
 ⟨h.j6,fun o p hp=>let ⟨ob,h1,h2⟩:=h.obj o p hp;⟨ob,h1,h2.mono (.refl γ) (by rw[hw])⟩,h.gone,h.inj,h.aY⟩
theorem aU.heap{F:dN}{γ:aT}{σ:AS}{w w':World}(h:aU F γ σ w)(hw:w'.heap=w.heap)(h1:w'.os=w.os:=by rfl)(h2:w'.tape=w.tape:=by rfl)(h3:w'.output=w.output:=by rfl):aU F γ σ w':=
 ⟨h.toRel.heap hw,h.live,⟨h1.trans h.frame.os,h2.trans h.frame.tape,h3.trans h.frame.output,by rw[hw];exact h.frame.size,h.frame.gE,fun b hb=>by rw[hw];exact h.frame.block b hb,h.frame.own⟩⟩
theorem aU.lt{F:dN}{γ:aT}{σ:AS}{w:World}(h:aU F γ σ w){o:Nat}{p:Place}(hp:γ o=some (some p)):p.block<w.heap.size:=by
 obtain ⟨ob,h1,h2⟩:=h.obj o p hp;exact h2.lt fun e=>h.live o p hp (by rw[h1,e])
theorem aU.ji{F:dN}{γ:aT}{σ:AS}{w:World}(h:aU F γ σ w){o:Nat}(hp:γ o≠none):o<σ.next:=by
 rcases Nat.lt_or_ge o σ.next with h'|h'
 ·exact h'
 ·exact absurd (h.j6 o h') hp
theorem aU.more{F:dN}{γ:aT}{σ:AS}{w:World}(h:aU F γ σ w)(hl:σ.next<aY)(ob:ai):aU F γ { heap:=σ.heap.put σ.next ob,next:=σ.next+1 } w:=by
 have aP:∀o,γ o≠none->o≠σ.next:=fun o ho e=>ho (h.j6 o (by omega))
 refine ⟨⟨fun o ho=>h.j6 o (by simp only[] at ho;omega),fun o p hp=>?_,fun o ho=>?_,h.inj,by simp only[];omega⟩,fun o p hp=>?_,h.frame⟩
 ·obtain ⟨dq,h1,h2⟩:=h.obj o p hp;refine ⟨dq,?_,h2⟩;simp only[];rw[T.bN _ _ _ _ (Nat.le_of_lt hl),if_neg (aP o (by rw[hp];simp))];exact h1
 ·simp only[];rw[T.bN _ _ _ _ (Nat.le_of_lt hl),if_neg (aP o (by rw[ho];simp))];exact h.gone o ho
 ·simp only[];rw[T.bN _ _ _ _ (Nat.le_of_lt hl),if_neg (aP o (by rw[hp];simp))];exact h.live o p hp
theorem Step.more{F:dN}{γ:aT}{σ:AS}{w:World}(h:aU F γ σ w)(hl:σ.next<aY)(ob:ai):Step γ σ γ { heap:=σ.heap.put σ.next ob,next:=σ.next+1 }:=
 ⟨.refl γ,fun _ _ h=>h,Nat.le_succ _,fun o ho _=>by simp only[];rw[T.bN _ _ _ _ (Nat.le_of_lt hl),if_neg (by omega)]⟩
theorem aU.place{F:dN}{γ:aT}{σ:AS}{w:World}(h:aU F γ σ w){id:Nat}{ob:ai}(hid:id<σ.next)(hg:γ id=none)(tu:σ.heap.get id=some ob)(hd:ob≠.dead)(vi:Obj)(base top:Nat)
  (hrel:eo (gh γ id (some ⟨w.heap.size,base,top⟩)) ob ⟨w.heap.size,base,top⟩ { w with heap:=w.heap.push vi }) :
  aU F (gh γ id (some ⟨w.heap.size,base,top⟩)) σ { w with heap:=w.heap.push vi }:=by
 have hx:=jH (some ⟨w.heap.size,base,top⟩) hg;refine ⟨⟨fun o ho=>?_,fun o p hp=>?_,fun o ho=>?_,fun o o' p p' hp bX e=>?_,h.aY⟩,fun o p hp=>?_,h.frame.push vi fun o p hp=>?_⟩
 ·rw[ck _ _ (by omega)];exact h.j6 o ho
 ·by_cases e:o=id
  ·subst e;rw[bI] at hp;cases hp
   exact ⟨ob,tu,hrel⟩
  ·rw[ck _ _ e] at hp;obtain ⟨dq,h1,h2⟩:=h.obj o p hp;refine ⟨dq,h1,h2.mono hx ?_⟩;simp only[];rw[Array.getElem?_push,if_neg (by have:=h.lt hp;omega)]
 ·by_cases e:o=id
  ·subst e;rw[bI] at ho;cases ho
  ·rw[ck _ _ e] at ho;exact h.gone o ho
 ·by_cases e1:o=id<;>by_cases e2:o'=id
  ·rw[e1,e2]
  ·subst e1;rw[bI] at hp;cases hp;rw[ck _ _ e2] at bX;have:=h.lt bX;simp only[] at e;omega
  ·subst e2;rw[bI] at bX;cases bX;rw[ck _ _ e1] at hp;have:=h.lt hp;simp only[] at e;omega
  ·rw[ck _ _ e1] at hp;rw[ck _ _ e2] at bX;exact h.inj o o' p p' hp bX e
 ·by_cases e:o=id
  ·subst e;rw[tu];intro hh;exact hd (Option.some.inj hh)
  ·rw[ck _ _ e] at hp;exact h.live o p hp
 ·by_cases e:o=id
  ·subst e;rw[bI] at hp;cases hp;exact .inr rfl
  ·rw[ck _ _ e] at hp;exact .inl hp
theorem aU.set{F:dN}{γ:aT}{σ:AS}{w w':World}(h:aU F γ σ w){o:Nat}{p:Place}{ob:ai}(hp:γ o=some (some p))(hd:ob≠.dead)
  (hrel:eo γ ob p w') (hw:DS p.block w w'):aU F γ { σ with heap:=σ.heap.put o ob } w':=by
 have ho:o<=aY:=Nat.le_trans (Nat.le_of_lt (h.ji (by rw[hp];simp))) h.aY;refine ⟨⟨h.j6,fun q r hq=>?_,fun q hq=>?_,h.inj,h.aY⟩,fun q r hq=>?_,h.frame.turn (h.frame.own o p hp) hw⟩
 ·simp only[];rw[T.bN _ _ _ _ ho];by_cases e:q=o
  ·subst e;rw[hp] at hq;cases hq;exact ⟨ob,by simp,hrel⟩
  ·rw[if_neg e];obtain ⟨dq,h1,h2⟩:=h.obj q r hq;exact ⟨dq,h1,h2.mono (.refl γ) (hw.block _ fun e'=>e (h.inj q o r p hq hp e'))⟩
 ·simp only[];rw[T.bN _ _ _ _ ho,if_neg (fun e=>by rw[e,hp] at hq;cases hq)];exact h.gone q hq
 ·simp only[];rw[T.bN _ _ _ _ ho];by_cases e:q=o
  ·rw[if_pos e];intro hh;exact hd (Option.some.inj hh)
  ·rw[if_neg e];exact h.live q r hq
theorem Step.set{F:dN}{γ:aT}{σ:AS}{w:World}(h:aU F γ σ w){o:Nat}{p:Place}(ob:ai)(hp:γ o=some (some p)):Step γ σ γ { σ with heap:=σ.heap.put o ob }:=by
 have ho:o<=aY:=Nat.le_trans (Nat.le_of_lt (h.ji (by rw[hp];simp))) h.aY;exact ⟨.refl γ,fun _ _ h=>h,Nat.le_refl _,fun q _ hq=>by simp only[];rw[T.bN _ _ _ _ ho,if_neg (fun e=>by rw[e,hp] at hq;cases hq)]⟩
theorem aU.kill{F:dN}{γ:aT}{σ:AS}{w:World}(h:aU F γ σ w){o:Nat}(hp:γ o≠none):aU F (gh γ o none) { σ with heap:=σ.heap.put o .dead } w:=by
 have Qe:=h.ji hp;have ho:o<=aY:=Nat.le_trans (Nat.le_of_lt Qe) h.aY;refine ⟨⟨fun q hq=>?_,fun q r hq=>?_,fun q hq=>?_,fun q q' r r' hq fu e=>?_,h.aY⟩,fun q r hq=>?_,h.frame.less fun q r hq=>⟨q,r,by rwa [ck _ _ (fun e=>by rw[e,bI] at hq;cases hq)] at hq,rfl⟩⟩
 ·rw[ck _ _ (by simp only[] at hq;omega)];exact h.j6 q hq
 ·have e:q≠o:=fun e=>by rw[e,bI] at hq;cases hq
  rw[ck _ _ e] at hq;simp only[];rw[T.bN _ _ _ _ ho,if_neg e];obtain ⟨dq,h1,h2⟩:=h.obj q r hq;exact ⟨dq,h1,h2.mono (yl o) rfl⟩
 ·simp only[];rw[T.bN _ _ _ _ ho];by_cases e:q=o
  ·rw[if_pos e]
  ·rw[if_neg e];rw[ck _ _ e] at hq;exact h.gone q hq
 ·have e1:q≠o:=fun e=>by rw[e,bI] at hq;cases hq
  have e2:q'≠o:=fun e=>by rw[e,bI] at fu;cases fu
  rw[ck _ _ e1] at hq;rw[ck _ _ e2] at fu;exact h.inj q q' r r' hq fu e
 ·have e:q≠o:=fun e=>by rw[e,bI] at hq;cases hq
  rw[ck _ _ e] at hq;simp only[];rw[T.bN _ _ _ _ ho,if_neg e];exact h.live q r hq
theorem Step.place{γ:aT}{σ:AS}{id:Nat}(q:Option Place)(hg:γ id=none):∀σ0,σ0.next<=id->Step γ σ0 γ σ->Step γ σ0 (gh γ id q) σ:=fun σ0 hid h=>
 ⟨jH q hg,fun o ho kg=>by rw[ck _ _ (by omega)];exact h.new o ho kg,h.le,h.same⟩
theorem rj{γ ay:aT}(hx:Ext γ ay){l:List AV}{cs:Array Value}{elem:TypeId}(h:aG γ l cs.toList){b:Nat}{w:World}(hw:w.heap[b]?=some (.cells cs elem (0,0))):eo ay (.cells l elem) ⟨b,0,cs.size⟩ w:=
 ⟨cs,hw,⟨rfl,fun _=>⟨rfl,by have:=bB h;simp at this;simp;omega⟩⟩,by have:=bB h;simp at this;simp;omega,fun i v hv=>by
  obtain ⟨x,h1,h2⟩:=dQ h i v hv;exact ⟨x,by simpa using h1,h2.mono hx _ _⟩⟩
section
variable{P:Program}{E:Env}(hE:cL P E){γ:aT}{σ:AS}{w:World}{t:aE}{ρ:Operand->Value}
include hE
theorem Gi(bJ:pM γ t ρ)(o:Oper){ob:ai}{k:rS}(h:bK E t σ o.op=some (.new ob k)) :
  ob≠.dead/\∃vi x top,(execOp ρ o).run P w=.ok (.value x) { w with heap:=w.heap.push vi }/\∀ay id w',Ext γ ay->ay id=some (some ⟨w.heap.size,0,top⟩)->w'.heap[w.heap.size]?=some vi ->
   eo ay ob ⟨w.heap.size,0,top⟩ w'/\aw ay (k.val id) x:=by
 obtain ⟨dst,op,type,pos,after,guard⟩:=o;simp only[] at h;have Vz:∀(ay:aT) (id top:Nat),ay id=some (some ⟨w.heap.size,0,top⟩)->aw ay (rS.val id .ptr) (.pointer (some ⟨w.heap.size,0,none⟩)):=by
  intro ay id top hg;simp only[rS.val,aw];exact ⟨_,rfl,by unfold gY;rw[hg]⟩
 have F4:∀(ay:aT) (id top l c:Nat),l<=c->ay id=some (some ⟨w.heap.size,0,top⟩)->aw ay (rS.val id (.slice l c)) (.slice (some ⟨w.heap.size,0,none⟩) l c):=by
  intro ay id top l c uR hg;simp only[rS.val,aw];exact ⟨_,_,rfl,.inr (by unfold gY;rw[hg]),uR,rfl⟩
 cases op<;>simp only[bK] at h
 case alloc elem=>
  split at h
  ·rename_i r hr;obtain ⟨z,hz,e⟩:=oM1.1 h;cases e
   refine ⟨by simp,.cells z.cells elem,.pointer (some ⟨w.heap.size,0,none⟩),z.cells.size,?_,fun ay id w' hx hg hw=>⟨rj hx (fH (dg γ z)) hw,Vz ay id _ hg⟩⟩;simp only[execOp];exact dE (by simp only[Instr.alloc,Sem.run_bind,mU hE hr w hz,Result.andThen_ok,newVar,newRow,run_newObj,Sem.run_pure])
  ·cases h
 case box elem x=>
  obtain ⟨v,hv,e⟩:=oM1.1 h;cases e
  refine ⟨by simp,.cells (ρ x).cells elem,.pointer (some ⟨w.heap.size,0,none⟩),(ρ x).cells.size,?_,fun ay id w' hx hg hw=>⟨rj hx (fH (bJ _ _ hv)) hw,Vz ay id _ hg⟩⟩;simp only[execOp];exact dE (by simp only[Instr.box,Sem.run_bind,Result.andThen_ok,newVar,newRow,run_newObj,Sem.run_pure])
 case makeMap ty r=>
  cases r with
  | some _=>cases h
  | none=>
    cases h
    refine ⟨by simp,.map #[] 0,.map (some w.heap.size),0,?_,fun ay id w' hx hg hw=>⟨⟨#[],hw,rfl⟩,?_⟩⟩
    ·simp only[execOp,Option.map_none];exact dE (by simp only[Instr.makeMap,Sem.run_bind,Result.andThen_ok,run_newObj,Sem.run_pure])
    ·simp only[rS.val,aw];exact ⟨_,rfl,by unfold mw;rw[hg]⟩
 case buildSlice ty len parts=>
  split at h
  ·rename_i r vs hr B6;split at h
   ·rename_i elem hd;split at h
    ·rename_i er fN;split at h
     ·rename_i z hz;split at h
      ·rename_i hb;obtain ⟨l,hl,e⟩:=oM1.1 h;cases e
       rw[Bool.and_eq_true] at hb;have iW:=nB1 hb.1;have lJ:=nQ1 hb.2;have hp:=fI bJ B6;have hlen:vs.length=parts.toList.length:=by have:=bB hp;simpa using this.symm
       have Az:∀(i:Nat) (p:Nat×AV),((parts.toList.map (·.1)).zip vs)[i]?=some p->∃x,((parts.map fun (i,x)=>(i,ρ x)).toList)[i]?=some (p.1,x)/\aw γ p.2 x:=by
        intro i p hi;rw[List.getElem?_zip_eq_some] at hi;obtain ⟨h1,h2⟩:=hi;obtain ⟨x,hx,hc⟩:=dQ hp i p.2 h2;refine ⟨x,?_,hc⟩;simp only[List.getElem?_map,Option.map_eq_some_iff,Array.toList_map] at h1 hx ⊢;obtain ⟨q,hq,e⟩:=h1;obtain ⟨q',⟨q'',VA,e''⟩,e'⟩:=hx;rw[hq] at VA;cases VA
        exact ⟨q,hq,by rw[<-e,<-e',<-e'']⟩
       have hJ:(parts.map fun (i,x)=>(i,ρ x)).toList.length=((parts.toList.map (·.1)).zip vs).length:=by simp[hlen]
       have uS:aG γ (ofValue z).cells z.cells.toList:=fH (dg γ z);have sk:z.cells.size=er.info.size:=by have:=bB uS;rw[lJ] at this;simpa using this
       have Qn:=MG z.cells er.info.size sk len;obtain ⟨zH,ho,hc⟩:=wU (fun i=>some (i * er.info.size,er.info.size)) _ _ _ ((Array.range (len * er.info.size)).map (z.cells[· % z.cells.size]!)) _ hJ Az (by rw[Qn];exact vj uS len) hl;refine ⟨by simp,.cells zH elem,.slice (some ⟨w.heap.size,0,none⟩) len len,zH.size,?_,fun ay id w' hx hg hw=>⟨rj hx hc hw,F4 ay id _ _ _ (Nat.le_refl _) hg⟩⟩;simp only[execOp];refine dE ?_;unfold Instr.buildSlice;have gK:¬len * er.info.size>2 ^ 24:=by omega
       simp only[Sem.run_bind,bn hE hr w,hd,Result.andThen_ok,bY hE fN w,if_neg gK];by_cases h0:len * er.info.size=0
       ·have:(Array.range (len * er.info.size)).map (fun x=>(#[]:Array Value)[x % (#[]:Array Value).size]!)=(Array.range (len * er.info.size)).map (z.cells[· % z.cells.size]!):=by
         rw[h0];simp
        rw[if_pos h0];simp only[Sem.run_pure,Result.andThen_ok,this,ho,Sem.run_bind,newRow,run_newObj]
       ·rw[if_neg h0];simp only[Sem.run_bind,mU hE fN w hz,Sem.run_pure,Result.andThen_ok,ho,newRow,run_newObj]
      ·cases h
     ·cases h
    ·cases h
   ·cases h
  ·cases h
 case makeSlice ty l c=>
  split at h
  ·rename_i r lv cv hr hlv hcv;split at h
   ·rename_i elem ln cn hd jg FM;split at h
    ·rename_i er fN;split at h
     ·rename_i z hz;split at h
      ·rename_i hb;cases h
       simp only[Bool.and_eq_true] at hb;obtain ⟨⟨⟨iW,lJ⟩,lU⟩,BM⟩:=hb;have iW:=nB1 iW;have lJ:=nB1 lJ;have lU:=nB1 lU;have BM:=nQ1 BM;obtain ⟨k1,eQ⟩:=jR jg (bJ _ _ hlv);obtain ⟨k2,dS⟩:=jR FM (bJ _ _ hcv);have uS:aG γ (ofValue z).cells z.cells.toList:=fH (dg γ z);have sk:z.cells.size=er.info.size:=by have:=bB uS;rw[BM] at this;simpa using this
       have Qn:=MG z.cells er.info.size sk cn;refine ⟨by simp,.cells ((Array.range (cn * er.info.size)).map (z.cells[· % z.cells.size]!)) elem,.slice (some ⟨w.heap.size,0,none⟩) ln cn,_,?_,
        fun ay id w' hx hg hw=>⟨rj hx (by rw[Qn];exact vj uS cn) hw,F4 ay id _ _ _ iW hg⟩⟩
       simp only[execOp];refine dE ?_;rw[eQ,dS];unfold Instr.makeSlice;have w1:IntKind.i64.wrap (ln:Int)=ln:=by
        unfold IntKind.wrap IntKind.bits IntKind.signed;simp;omega
       have w2:IntKind.i64.wrap (cn:Int)=cn:=by
        unfold IntKind.wrap IntKind.bits IntKind.signed;simp;omega
       have wZ:¬((er.info.bytes:Int) * (cn:Int)>2 ^ 48):=by
        have:=Nat.mul_le_mul lU lJ;have h2:((er.info.bytes * cn:Nat):Int)<=((65536 * 65536:Nat):Int):=Int.ofNat_le.2 this;rw[Int.natCast_mul] at h2;omega
       have hif:((decide ((cn:Int)<0) || decide ((er.info.bytes:Int) * (cn:Int)>2 ^ 48)) || decide ((ln:Int)<0) || decide ((ln:Int)>(cn:Int)))=false:=by
        simp only[Bool.or_eq_false_iff,decide_eq_false_iff_not];exact ⟨⟨⟨by omega,wZ⟩,by omega⟩,by omega⟩
       simp only[Sem.run_bind,bn hE hr w,hd,Result.andThen_ok,asInt,asIntOf,Sem.run_pure,mT hE fN w,w1,w2,hif,Bool.false_eq_true,if_false,run_askRoom,Int.toNat_natCast,bY hE fN w];by_cases h0:cn * er.info.size=0
       ·have:(Array.range (cn * er.info.size)).map (fun x=>(#[]:Array Value)[x % (#[]:Array Value).size]!)=(Array.range (cn * er.info.size)).map (z.cells[· % z.cells.size]!):=by
         rw[h0];simp
        rw[if_pos h0];simp only[Sem.run_pure,Result.andThen_ok,this,Sem.run_bind,newRow,run_newObj]
       ·rw[if_neg h0];simp only[Sem.run_bind,mU hE fN w hz,Sem.run_pure,Result.andThen_ok,newRow,run_newObj]
      ·cases h
     ·cases h
    ·cases h
   ·cases h
  ·cases h
 case call c=>
  split at h
  ·cases h
  ·split at h
   ·split at h
    ·unfold pC at h;split at h<;>cases h
    ·cases h
   ·unfold gP at h;(repeat' split at h)<;>first|cases h|(obtain ⟨_,_,e⟩:=oM1.1 h;cases e)
   ·(repeat' split at h)<;>cases h
 case convert src dst x=>
  split at h
  ·unfold nL at h;(repeat' split at h)<;>first|cases h|(obtain ⟨_,_,e⟩:=oM1.1 h;cases e)
  ·cases h
 all_goals
  (repeat' split at h)<;>first|cases h|(obtain ⟨_,_,e⟩:=oM1.1 h;cases e)
end
open Go.RowKit (Below) in
theorem aU.grown{F:dN}{γ:aT}{σ:AS}{w w':World}(h:aU F γ σ w)(hb:Below w.heap.size w w'):aU F γ σ w':=by
 refine ⟨⟨h.j6,fun o p hp=>?_,h.gone,h.inj,h.aY⟩,h.live,⟨hb.os.trans h.frame.os,hb.tape.trans h.frame.tape,hb.output.trans h.frame.output,Nat.le_trans h.frame.size hb.size,h.frame.gE,fun b hf=>?_,h.frame.own⟩⟩
 ·obtain ⟨ob,h1,h2⟩:=h.obj o p hp;exact ⟨ob,h1,h2.mono (.refl γ) (hb.block _ (h.lt hp))⟩
 ·exact (hb.block b (Nat.lt_of_lt_of_le (h.frame.gE b hf) h.frame.size)).trans (h.frame.block b hf)
def PG(w:World)(γ:aT):dN:=⟨w,fun b=>b<w.heap.size/\∀o p,γ o=some (some p)->p.block≠b⟩
theorem FF(w:World)(γ:aT):Frame (PG w γ) γ w:=
 ⟨rfl,rfl,rfl,Nat.le_refl _,fun _ h=>h.1,fun _ _=>rfl,fun o p hp h=>h.2 o p hp rfl⟩
def emp:aT:=fun _=>none
def Vk:AS:=⟨.e,0⟩
theorem CH(w:World):aU (PG w emp) emp Vk w:=
 ⟨⟨fun _ _=>rfl,fun o p h=>by simp[emp] at h,fun o h=>by simp[emp] at h,fun o o' p p' h=>by simp[emp] at h,Nat.zero_le _⟩,fun o p h=>by simp[emp] at h,FF w emp⟩
open Go.RowKit (Below) in
theorem DW{w w':World}{γ:aT}(h:Frame (PG w emp) γ w'):Below w.heap.size w w':=
 ⟨h.os,h.tape,h.output,h.size,fun b hb=>h.block b ⟨hb,fun o p hp=>by simp[emp] at hp⟩⟩

/- Part of the proof: EvF. Conditions: as each states. -/
import Derived.Test.YtmbdghclhpboaaaGreatPw3
import Derived.Laws.BytesString
set_option linter.all false
namespace Go.Proofs.YtmbdghclhpboaaaGreat.Ev
theorem nz{s:Sem Value}{v:AV}(h:tD s=some v):∃x,s=.pure x/\v=.lit x:=by
 unfold tD at h;split at h
 ·simp only[Option.some.injEq] at h;exact ⟨_,rfl,h.symm⟩
 ·simp at h
theorem jh{γ:aK}{v:AV}{n:Nat}{x:Value}(h:lz v=some n)(hc:an γ v x):∃k,x=.int k n:=by
 unfold lz at h;split at h
 ·rename_i k m;simp only[Option.some.injEq] at h;subst h;rw[al] at hc;exact ⟨k,hc⟩
 ·simp at h
section
variable{P:Program}{E:Env}(hE:ch P E){γ:aK}{σ:AS}{w:World}
include hE
omit hE in
theorem nh:∀{l m:List AV} {b:Bool},bn l m=some b->(∃xs:List Value,l=xs.map .lit)/\∃ys:List Value,m=ys.map .lit
 | [],[],_,_=>⟨⟨[],rfl⟩,⟨[],rfl⟩⟩
 | [],_::_,_,h=>by simp[bn] at h
 | .lit a::l,[],_,h=>by simp[bn] at h
 | .lit a::l,.lit b::m,c,h=>by
   simp only[bn] at h;split at h
   ·rename_i x y hx hy;obtain ⟨⟨xs,e1⟩,ys,e2⟩:=nh hy;exact ⟨⟨a::xs,by simp[e1]⟩,⟨b::ys,by simp[e2]⟩⟩
   ·cases h
 | .lit a::l,.ptr ..::m,_,h=>by simp[bn] at h
 | .lit a::l,.slice ..::m,_,h=>by simp[bn] at h
 | .lit a::l,.map ..::m,_,h=>by simp[bn] at h
 | .lit a::l,.func ..::m,_,h=>by simp[bn] at h
 | .lit a::l,.iface ..::m,_,h=>by simp[bn] at h
 | .lit a::l,.agg ..::m,_,h=>by simp[bn] at h
 | .lit a::l,.tuple ..::m,_,h=>by simp[bn] at h
 | .ptr ..::l,_,_,h=>by simp[bn] at h
 | .slice ..::l,_,_,h=>by simp[bn] at h
 | .map ..::l,_,_,h=>by simp[bn] at h
 | .func ..::l,_,_,h=>by simp[bn] at h
 | .iface ..::l,_,_,h=>by simp[bn] at h
 | .agg ..::l,_,_,h=>by simp[bn] at h
 | .tuple ..::l,_,_,h=>by simp[bn] at h
omit hE in
theorem fR{γ:aK}:∀{xs ys:List Value},az γ (xs.map .lit) ys->ys=xs
 | [],_,h=>by simpa [az] using h
 | x::xs,_,h=>by
   simp only[List.map_cons,az] at h;obtain ⟨y,ys,rfl,h1,h2⟩:=h;rw[al] at h1;rw[h1,fR h2]
theorem Gt{t:TypeId}{r:cZ}{n:Nat}(hr:E.ty t=some r)(hf:r.flat=some n){a b:List AV}{c:Bool}(ha:a.length=n)(hb:b.length=n)(hk:fits r.kinds a=true)
  (h:bn a b=some c) {x y:Array Value} (hx:az γ a x.toList) (hy:az γ b y.toList) :
  (Op.equalIn Op.maxDepth t (.agg x) (.agg y)).run P w=.ok c w:=by
 obtain ⟨⟨xs,rfl⟩,ys,rfl⟩:=nh h;have e1:=fR hx;have e2:=fR hy;have:=hE.eq t r n hr hf xs ys c w (by simpa using ha) (by simpa using hb) hk h;rw[<-e1,<-e2] at this;simpa using this
theorem Nw{t:TypeId}{a b:AV}{c:Bool}(h:yp E t a b=some c){x y:Value}(hx:an γ a x)(hy:an γ b y) :
  (Op.equal t x y).run P w=.ok c w:=by
 unfold yp at h;cases hr:E.ty t with
 | none=>rw[hr] at h;cases h
 | some r=>
   rw[hr] at h;simp only[] at h;unfold Op.equal;have Uz:∀n,r.flat=some n->∀{a b:List AV} {c:Bool},a.length=n->b.length=n->fits r.kinds a=true->bn a b=some c->∀{x y:Array Value},az γ a x.toList->az γ b y.toList ->
     (Op.equalIn Op.maxDepth t (.agg x) (.agg y)).run P w=.ok c w:=fun n hf _ _ _ ha hb hk h _ _ hx hy=>Gt hE hr hf ha hb hk h hx hy
   have we:Op.maxDepth=9999+1:=rfl;rw[we] at Uz ⊢;generalize 9999=d at Uz ⊢;split at h;case h_16=>cases h
   case h_15=>
    simp only[an] at hx hy;obtain ⟨x,rfl,hx⟩:=hx;obtain ⟨y,rfl,hy⟩:=hy;split at h
    ·rename_i n hf;split at h
     ·rename_i hn;rw[Bool.and_eq_true,Bool.and_eq_true] at hn;exact Uz n hf (Nat.eq_of_beq_eq_true hn.1.1) (Nat.eq_of_beq_eq_true hn.1.2) hn.2 h hx hy
     ·cases h
    ·cases h
   all_goals
    rename_i hd
    simp only[Option.some.injEq] at h
    subst h
    simp only[an] at hx hy
    first|subst hx|obtain ⟨_,rfl,_⟩:=hx|obtain ⟨_,_,rfl,_⟩:=hx
    first|subst hy|obtain ⟨_,rfl,_⟩:=hy|obtain ⟨_,_,rfl,_⟩:=hy
    simp only[Op.equalIn,Sem.run_bind,ba hE hr w,Result.andThen_ok,hd]
    rfl
theorem Db{op:BinOp}{t:TypeId}{ox oy:Operand}{a b:AV}{c:Bool}(h:yp E t a b=some c){x y:Value}(hx:an γ a x)(hy:an γ b y) :
  (eqGuard op t ox oy x y).run P w=.ok () w:=by
 unfold yp at h;cases hr:E.ty t with
 | none=>rw[hr] at h;cases h
 | some r=>
   rw[hr] at h;simp only[] at h;unfold eqGuard;split at h;case h_16=>cases h
   case h_15=>
    simp only[an] at hx hy;obtain ⟨x,rfl,hx⟩:=hx;obtain ⟨y,rfl,hy⟩:=hy;split at h
    ·rename_i n hf;have hg:=hE.guard t r n hr hf;split<;>simp[hg]
    ·cases h
   all_goals
    simp only[an] at hx hy
    first|subst hx|obtain ⟨_,rfl,_⟩:=hx|obtain ⟨_,_,rfl,_⟩:=hx
    first|subst hy|obtain ⟨_,rfl,_⟩:=hy|obtain ⟨_,_,rfl,_⟩:=hy
    split<;>rfl
theorem binOp_eql{t:TypeId}{a b:AV}{c:Bool}(h:yp E t a b=some c){x y:Value}(hx:an γ a x)(hy:an γ b y) :
  (binOp .eql t x y).run P w=.ok (.bool c) w/\(binOp .neq t x y).run P w=.ok (.bool (!c)) w:=by
 have he:=Nw hE (w:=w) h hx hy;unfold yp at h;cases hr:E.ty t with
 | none=>rw[hr] at h;cases h
 | some r=>
   rw[hr] at h;simp only[] at h;split at h;case h_16=>cases h
   all_goals
    simp only[an] at hx hy
    first|subst hx|obtain ⟨_,rfl,_⟩:=hx|obtain ⟨_,_,rfl,_⟩:=hx
    first|subst hy|obtain ⟨_,rfl,_⟩:=hy|obtain ⟨_,_,rfl,_⟩:=hy
    simp only[binOp,Sem.run_bind,he,Result.andThen_ok,Sem.run_pure,and_self]
theorem Ni{op:BinOp}{t:TypeId}{ox oy:Operand}{a b v:AV}(h:zX E op t a b=some v){x y:Value}(hx:an γ a x)(hy:an γ b y) :
  ∃u,(do eqGuard op t ox oy x y;binOp op t x y:Sem Value).run P w=.ok u w/\an γ v u:=by
 unfold zX at h;split at h
 ·rename_i k1 n1 k2 n2;rw[al] at hx hy;subst hx hy;obtain ⟨u,hu,rfl⟩:=nz h;refine ⟨u,?_,aM γ u⟩;have:(eqGuard op t ox oy (.int k1 n1) (.int k2 n2))=pure ():=by unfold eqGuard;split<;>rfl
  rw[this,hu];rfl
 ·rename_i s1 s2;rw[al] at hx hy;subst hx hy;obtain ⟨u,hu,rfl⟩:=nz h;refine ⟨u,?_,aM γ u⟩;have:(eqGuard op t ox oy (.string s1) (.string s2))=pure ():=by unfold eqGuard;split<;>rfl
  rw[this,hu];rfl
 ·split at h
  ·obtain ⟨c,hc,rfl⟩:=Option.map_eq_some_iff.1 h;refine ⟨_,?_,aM γ _⟩;simp only[Sem.run_bind,Db hE hc hx hy,Result.andThen_ok,(binOp_eql hE hc hx hy).1]
  ·obtain ⟨c,hc,rfl⟩:=Option.map_eq_some_iff.1 h;refine ⟨_,?_,aM γ _⟩;simp only[Sem.run_bind,Db hE hc hx hy,Result.andThen_ok,(binOp_eql hE hc hx hy).2]
  ·cases h
omit hE in
theorem Sk{op:UnOp}{a v:AV}(h:VN op a=some v){x:Value}(hx:an γ a x):∃u,(Op.unary op x).run P w=.ok u w/\an γ v u:=by
 unfold VN at h;split at h
 ·rw[al] at hx;subst hx;obtain ⟨u,hu,rfl⟩:=nz h;exact ⟨u,by rw[hu];rfl,aM γ u⟩
 ·cases h
def pZ(γ:aK):Option AV->Option Value->Prop
 | none,none=>True
 | some v,some x=>an γ v x
 | _,_=>False
omit hE in
theorem Lm{v:AV}{x:Value}{n y:Nat}{code:BoundsCode}(hn:lz v=some n)(hx:an γ v x)(hle:n<=y):(Instr.sliceBound x y code).run P w=.ok n w:=by
 obtain ⟨k,rfl⟩:=jh hn hx;unfold Instr.sliceBound;have:(0<=(n:Int)/\(n:Int)<=(y:Int)):=⟨by omega,by omega⟩;simp[asIntOf,this]
omit hE in
theorem tu{v:AV}{x:Value}{n top y:Nat}{code:BoundsCode}(hn:xM v top=some n)(hx:an γ v x)(hle:top<=y):(Instr.sliceBound x y code).run P w=.ok n w/\n<=top:=by
 unfold xM at hn;split at hn
 ·rename_i k hk;split at hn
  ·rename_i hb;simp only[Option.some.injEq] at hn;subst hn;have hb:=Nat.le_of_ble_eq_true hb;exact ⟨Lm hk hx (Nat.le_trans hb hle),hb⟩
  ·cases hn
 ·cases hn
omit hE in
theorem p8{isSlice:Bool}{len c:Nat}{cap:Option Nat}{lo hi mx:Option AV}{l h:Nat}{m:Option Nat}(hb:nN len cap lo hi mx=some (l,h,m))
  (hc:cap=some c\/(cap=none/\len<=c)) (hle:len<=c) {Cz j4 mx':Option Value} (h1:pZ γ lo Cz) (h2:pZ γ hi j4) (h3:pZ γ mx mx') :
  ∃mm,(Instr.sliceBounds isSlice len c Cz j4 mx').run P w=.ok (l,h,mm) w/\l<=h/\((∃k,m=some k/\mm=k)\/(m=none/\cap=none/\mm=c))/\h<=mm/\mm<=c:=by
 unfold nN at hb;have tL:B6 len cap<=c:=by
  rcases hc with rfl|⟨rfl,hle⟩
  ·exact Nat.le_refl _
  ·exact hle
 cases hm':Gl len cap mx with
 | none=>rw[hm'] at hb;cases hb
 | some m'=>
   rw[hm'] at hb;simp only[] at hb;have UL:∃mm,((match mx' with
     | some v=>Instr.sliceBound v c (if isSlice then .slice3Acap else .slice3Alen)
     | none=>pure c:Sem Nat).run P w=.ok mm w)/\mm<=c/\((∃k,m'=some k/\mm=k)\/(m'=none/\cap=none/\mm=c))/\(mx=none->mm=c):=by
    cases mx with
    | none=>
      cases mx' with
      | some _=>exact h3.elim
      | none=>
        simp only[Gl,Option.some.injEq] at hm';subst hm';refine ⟨c,rfl,Nat.le_refl _,?_,fun _=>rfl⟩;rcases hc with e|⟨e,_⟩
        ·exact .inl ⟨c,e,rfl⟩
        ·exact .inr ⟨e,e,rfl⟩
    | some v=>
      cases mx' with
      | none=>exact h3.elim
      | some x=>
        simp only[Gl] at hm';split at hm'
        ·rename_i k hk;simp only[Option.some.injEq] at hm';subst hm';have:=tu (P:=P) (w:=w) (code:=if isSlice then .slice3Acap else .slice3Alen) hk h3 tL;exact ⟨k,this.1,Nat.le_trans this.2 tL,.inl ⟨k,rfl,rfl⟩,fun e=>by cases e⟩
        ·cases hm'
   obtain ⟨mm,AN,N4,QS,Zd⟩:=UL;have wu:B6 len m'<=mm:=by
    rcases QS with ⟨k,rfl,rfl⟩|⟨rfl,hn,rfl⟩
    ·exact Nat.le_refl _
    ·rw[hn] at tL;exact tL
   cases hh':xy len m' hi mx with
   | none=>rw[hh'] at hb;cases hb
   | some h'=>
     rw[hh'] at hb;simp only[] at hb;have Y3:((match j4,mx' with
       | some v,some _=>Instr.sliceBound v mm .slice3B
       | some v,none=>Instr.sliceBound v mm (if isSlice then .sliceAcap else .sliceAlen)
       | none,none=>pure len
       | none,some _=>stuck "Slice: max without high":Sem Nat).run P w=.ok h' w)/\h'<=mm:=by
      cases hi with
      | some v=>
        cases j4 with
        | none=>exact h2.elim
        | some x=>
          simp only[xy] at hh';cases mx' with
          | none=>
            have:=tu (P:=P) (w:=w) (code:=if isSlice then .sliceAcap else .sliceAlen) hh' h2 wu;exact ⟨this.1,Nat.le_trans this.2 wu⟩
          | some _=>
            have:=tu (P:=P) (w:=w) (code:=.slice3B) hh' h2 wu;exact ⟨this.1,Nat.le_trans this.2 wu⟩
      | none=>
        cases j4 with
        | some _=>exact h2.elim
        | none=>
          cases mx with
          | some _=>simp[xy] at hh'
          | none=>
            cases mx' with
            | some _=>exact h3.elim
            | none=>
              simp only[xy,Option.some.injEq] at hh';subst hh';exact ⟨rfl,by rw[Zd rfl];exact hle⟩
     obtain ⟨NY,LL⟩:=Y3;cases hl':Hh h' lo with
     | none=>rw[hl'] at hb;cases hb
     | some l'=>
       rw[hl'] at hb;simp only[Option.some.injEq,Prod.mk.injEq] at hb;obtain ⟨rfl,rfl,rfl⟩:=hb;have LP:((match Cz with
         | some v=>Instr.sliceBound v h' (if mx'.isSome then .slice3C else .sliceB)
         | none=>pure 0:Sem Nat).run P w=.ok l' w)/\l'<=h':=by
        cases lo with
        | some v=>
          cases Cz with
          | none=>exact h1.elim
          | some x=>
            simp only[Hh] at hl';exact tu hl' h1 (Nat.le_refl _)
        | none=>
          cases Cz with
          | some _=>exact h1.elim
          | none=>
            simp only[Hh,Option.some.injEq] at hl';subst hl';exact ⟨rfl,Nat.zero_le _⟩
       refine ⟨mm,?_,LP.2,QS,LL,N4⟩;unfold Instr.sliceBounds;clear hh' hm' hl';cases mx'<;>cases j4<;>cases Cz<;>simp only[Sem.run_pure,Result.ok.injEq,and_true] at AN NY LP <;>
        first
         | (simp only[Sem.run_bind,AN,NY,LP.1,Result.andThen_ok,Sem.run_pure];done)
         | (subst AN;simp only[Sem.run_bind,NY,LP.1,Result.andThen_ok,Sem.run_pure];done)
         | (subst AN NY;simp only[Sem.run_bind,LP.1,Result.andThen_ok,Sem.run_pure];done)
         | (simp only[Sem.run_bind,AN,NY,LP.1,Result.andThen_ok,Sem.run_pure];rfl)
         | trace_state
end
end Go.Proofs.YtmbdghclhpboaaaGreat.Ev
namespace Go.Proofs.YtmbdghclhpboaaaGreat.Ev
theorem sK{P:Program}{w:World}{α β:Type}(f:α->Sem β)(g:α->β):∀(l:List α),(∀a∈l,(f a).run P w=.ok (g a) w)->(l.mapM f).run P w=.ok (l.map g) w
 | [],_=>by simp
 | a::l,h=>by
   simp only[List.mapM_cons,Sem.run_bind,h a (by simp),Result.andThen_ok,sK f g l (fun b hb=>h b (by simp[hb])),Sem.run_pure,List.map_cons]
theorem zj{P:Program}{w:World}{α β:Type}(f:α->Sem β)(g:α->β)(l:Array α)(h:∀a∈l,(f a).run P w=.ok (g a) w):(l.mapM f).run P w=.ok (l.map g) w:=by
 rw[Array.mapM_eq_mapM_toList,Sem.run_map,sK f g l.toList (fun a ha=>h a (by simpa using ha)),Result.andThen_ok];congr 1;apply Array.ext';simp
theorem jB{α:Type}(l vs:List α)(off i:Nat)(h:off+vs.length<=l.length):(setFrom l off vs)[i]?=if off<=i/\i<off+vs.length then vs[i - off]? else l[i]?:=by
 unfold setFrom;by_cases h1:i<off
 ·rw[if_neg (by omega),List.append_assoc,List.getElem?_append_left (by simp;omega),List.getElem?_take,if_pos h1]
 ·by_cases h2:i<off+vs.length
  ·rw[if_pos ⟨by omega,h2⟩,List.getElem?_append_left (by simp;omega),List.getElem?_append_right (by simp;omega)];simp only[List.length_take];rw[Nat.min_eq_left (by omega)]
  ·rw[if_neg (by omega),List.getElem?_append_right (by simp;omega)];simp only[List.length_append,List.length_take];rw[Nat.min_eq_left (by omega),List.getElem?_drop];congr 1;omega
theorem gu{α:Type}(l vs:List α)(off:Nat)(h:off+vs.length<=l.length):(setFrom l off vs).length=l.length:=by
 unfold setFrom;simp;omega
theorem Ax{α:Type}:∀(vs:List α) (k:Nat) (off:Nat) (cells:Array α),off+k+vs.length<=cells.size ->
  ((vs.zipIdx k).foldl (fun cs (c,j)=>cs.setIfInBounds (off+j) c) cells).toList=setFrom cells.toList (off+k) vs
 | [],k,off,cells,_=>by simp[setFrom]
 | v::vs,k,off,cells,h=>by
   simp only[List.zipIdx_cons,List.foldl_cons];have h':off+k+(vs.length+1)<=cells.size:=by simpa using h
   rw[Ax vs (k+1) off _ (by simp;omega)];simp only[Array.toList_setIfInBounds];have iW:cells.toList.length=cells.size:=by simp
   apply List.ext_getElem?;intro i;rw[jB _ _ _ _ (by rw[List.length_set,iW];omega),jB _ _ _ _ (by rw[iW,List.length_cons];omega)];rw[List.length_cons];by_cases h1:off+(k+1)<=i/\i<off+(k+1)+vs.length
   ·rw[if_pos h1,if_pos (by omega),show i - (off+k)=(i - (off+(k+1)))+1 by omega,List.getElem?_cons_succ]
   ·rw[if_neg h1];by_cases h2:i=off+k
    ·subst h2;rw[if_pos (by omega),List.getElem?_set_self (by rw[iW];omega),Nat.sub_self];rfl
    ·rw[if_neg (by omega),List.getElem?_set_ne (by omega)]
theorem vT{γ:aK}(place:Nat->Option (Nat×Nat)):∀(parts:List (Nat×AV)) (qv:List (Nat×Value)) (cells:List AV) (oM:Array Value) (out:List AV),
  qv.length=parts.length->(∀(i:Nat) (p:Nat×AV),parts[i]?=some p->∃x,qv[i]?=some (p.1,x)/\an γ p.2 x)->az γ cells oM.toList->nR place cells parts=some out ->
  ∃yI,Instr.fill place oM qv=some yI/\az γ out yI.toList
 | [],qv,cells,oM,out,hl,_,hc,h=>by
   have:qv=[]:=List.eq_nil_of_length_eq_zero (by simpa using hl);subst this;simp only[nR,Option.some.injEq] at h;subst h;exact ⟨oM,rfl,hc⟩
 | (i,v)::rest,qv,cells,oM,out,hl,hp,hc,h=>by
   obtain ⟨x,hx,kA⟩:=hp 0 (i,v) rfl;cases qv with
   | nil=>simp at hl
   | cons q rest'=>
     simp only[List.getElem?_cons_zero,Option.some.injEq] at hx;subst hx;unfold nR at h;unfold Instr.fill;cases cx:place i with
     | none=>rw[cx] at h;cases h
     | some os=>
       obtain ⟨off,size⟩:=os;rw[cx] at h;simp only[] at h ⊢;have ET:=eX kA;have Zr:x.cells.size=v.cells.length:=by simpa using bp ET
       have uT:oM.size=cells.length:=by simpa using bp hc
       split at h
       ·rename_i hb;rw[Bool.and_eq_true] at hb;have h1:=Nat.eq_of_beq_eq_true hb.1;have h2:=Nat.le_of_ble_eq_true hb.2;have aN:¬((decide (x.cells.size≠size) || decide (off+x.cells.size>oM.size))=true):=by simp;omega
        rw[if_neg aN];refine vT place rest rest' _ _ out (by simpa using hl) (fun j p hj=>by simpa using hp (j+1) p (by simpa using hj)) ?_ h;have hf:=Ax x.cells.toList 0 off oM (by simp;omega);rw[<-Array.foldl_toList,Array.toList_zipIdx];rw[hf];exact Af hc ET off
       ·cases h
theorem KY{α:Type}[Inhabited α](z:Array α)(s:Nat)(hz:z.size=s):∀n,((Array.range (n * s)).map (z[· % z.size]!)).toList=rep n z.toList:=by
 intro n;have key:∀n,∀i,(rep n z.toList)[i]?=if i<n * s then z[i % s]? else none:=by
  intro n;induction n with
  | zero=>intro i;simp[rep]
  | succ n ih=>
    intro i;simp only[rep];by_cases h1:i<s
    ·rw[List.getElem?_append_left (by simp;omega),if_pos (by rw[Nat.succ_mul];omega),Nat.mod_eq_of_lt h1];simp
    ·rw[List.getElem?_append_right (by simp;omega),ih];have e:z.toList.length=s:=by simpa using hz
     rw[e,Nat.succ_mul];by_cases h2:i - s<n * s
     ·rw[if_pos h2,if_pos (by omega)];rw[Nat.mod_eq_sub_mod (by omega:i>=s)]
     ·rw[if_neg h2,if_neg (by omega)]
 apply List.ext_getElem?;intro i;rw[key];simp only[Array.toList_map,Array.toList_range,List.getElem?_map];by_cases h:i<n * s
 ·rw[if_pos h,List.getElem?_range h];have hs:0<s:=by
   rcases Nat.eq_zero_or_pos s with e|e
   ·subst e;simp at h
   ·exact e
  have hm:i % s<z.size:=by rw[hz];exact Nat.mod_lt _ hs
  simp only[Option.map_some,hz];rw[getElem!_pos z (i % s) hm,Array.getElem?_eq_getElem hm]
 ·rw[if_neg h];simp[List.getElem?_eq_none (by simpa using h:(List.range (n * s)).length<=i)]
theorem uJ{γ:aK}{l:List AV}{xs:List Value}(h:az γ l xs):∀n,az γ (rep n l) (rep n xs)
 | 0=>by simp[rep,az]
 | n+1=>eQ h (uJ h n)
theorem nP{γ:aK}:∀{es:List (AV×AV×Nat)} {es':List MapEntry},aX γ es es'->es'.length=es.length
 | [],_,h=>by simp only[aX] at h;simp[h]
 | (k,v,b)::es,_,h=>by
   simp only[aX] at h;obtain ⟨k',v',rest,rfl,_,_,h⟩:=h;simp[nP h]
theorem yo{γ:aK}:∀{es:List (AV×AV×Nat)} {es':List MapEntry},aX γ es es'->∀(i:Nat) (e:AV×AV×Nat),es[i]?=some e->∃k v,es'[i]?=some ⟨k,v,e.2.2⟩/\an γ e.1 k/\an γ e.2.1 v
 | [],_,_,i,e,he=>by simp at he
 | (k,v,b)::es,_,h,i,e,he=>by
   simp only[aX] at h;obtain ⟨k',v',rest,rfl,h1,h2,h⟩:=h;cases i with
   | zero=>simp only[List.getElem?_cons_zero,Option.some.injEq] at he;subst he;exact ⟨k',v',rfl,h1,h2⟩
   | succ i=>simpa using yo h i e (by simpa using he)
theorem vO{γ aq:aK}(hx:Ext γ aq):∀{es:List (AV×AV×Nat)} {es':List MapEntry},aX γ es es'->aX aq es es'
 | [],_,h=>by simpa only[aX] using h
 | (k,v,b)::es,_,h=>by
   simp only[aX] at h ⊢;obtain ⟨k',v',rest,rfl,h1,h2,h⟩:=h;exact ⟨k',v',rest,rfl,h1.mono hx _ _,h2.mono hx _ _,vO hx h⟩
theorem rK{γ:aK}:∀{es fs:List (AV×AV×Nat)} {es' rT:List MapEntry},aX γ es es'->aX γ fs rT->aX γ (es++fs) (es'++rT)
 | [],_,_,_,h,h'=>by simp only[aX] at h;subst h;simpa using h'
 | (k,v,b)::es,_,_,_,h,h'=>by
   simp only[aX] at h;obtain ⟨k',v',rest,rfl,h1,h2,h⟩:=h;simp only[List.cons_append,aX];exact ⟨k',v',_,rfl,h1,h2,rK h h'⟩
section
variable{P:Program}{E:Env}(hE:ch P E){γ:aK}{σ:AS}{w:World}
include hE
theorem Lo{ty:TypeId}{is:List Nat}{os:List Operand}{vs:List AV}{ρ:Operand->Value}{parts:Array (Nat×Operand)}{v:AV}{r:cZ}{z:Value}
  (hr:E.ty ty=some r) (hz:r.info.zero=some z) (hp:az γ vs (parts.toList.map (fun p=>ρ p.2)))
  (h:(match r.bg with
    | .struct fs=>match places E fs.toList with
      | some ps=>(nR (ps[·]?) (ofValue z).cells ((parts.toList.map (·.1)).zip vs)).map fun l=>AV.agg l
      | none=>none
    | .array _ elem=>match E.ty elem with
      | some er=>(nR (fun i=>some (i * er.info.size,er.info.size)) (ofValue z).cells ((parts.toList.map (·.1)).zip vs)).map fun l=>AV.agg l
      | none=>none
    | _=>none)=some v) :
  ∃x,(Instr.build ty (parts.map fun (i,x)=>(i,ρ x))).run P w=.ok x w/\an γ v x:=by
 have hlen:vs.length=parts.toList.length:=by have:=bp hp;simpa using this.symm
 have zB:∀(i:Nat) (p:Nat×AV),((parts.toList.map (·.1)).zip vs)[i]?=some p->∃x,((parts.map fun (i,x)=>(i,ρ x)).toList)[i]?=some (p.1,x)/\an γ p.2 x:=by
  intro i p hi;rw[List.getElem?_zip_eq_some] at hi;obtain ⟨h1,h2⟩:=hi;obtain ⟨x,hx,hc⟩:=dq hp i p.2 h2;refine ⟨x,?_,hc⟩;simp only[List.getElem?_map,Option.map_eq_some_iff,Array.toList_map] at h1 hx ⊢;obtain ⟨q,hq,e⟩:=h1;obtain ⟨q',eN,e'⟩:=hx;rw[hq] at eN;cases eN
  exact ⟨q,hq,by rw[<-e,<-e']⟩
 have gd:(parts.map fun (i,x)=>(i,ρ x)).toList.length=((parts.toList.map (·.1)).zip vs).length:=by simp[hlen]
 have tN:az γ (ofValue z).cells z.cells.toList:=eX (cN γ z);unfold Instr.build;simp only[Sem.run_bind,ma hE hr w hz,Result.andThen_ok,ba hE hr w];split at h
 ·rename_i fs hd;split at h
  ·rename_i ps si;obtain ⟨l,hf,rfl⟩:=Option.map_eq_some_iff.1 h;have cx:∀(fl:List Field) (ps:List (Nat×Nat)),places E fl=some ps->(∀f∈fl,∀w,(do pure (f.offset,<-Go.sizeOf f.type):Sem (Nat×Nat)).run P w=.ok (f.offset,((E.ty f.type).map (·.info.size)).getD 0) w)/\ps=fl.map fun f=>(f.offset,((E.ty f.type).map (·.info.size)).getD 0):=by
    intro fl;induction fl with
    | nil=>intro ps h;simp only[places,List.map_nil,dY,Option.some.injEq] at h;subst h;simp
    | cons f fl ih=>
      intro ps h;simp only[places,List.map_cons] at h;cases hf:E.ty f.type with
      | none=>rw[hf] at h;simp[dY] at h
      | some fr=>
        rw[hf] at h;simp only[Option.map_some,dY] at h;split at h
        ·rename_i Zy Xr;simp only[Option.some.injEq] at h;subst h;obtain ⟨i1,i2⟩:=ih Zy Xr;refine ⟨?_,by simp[hf,i2]⟩;intro g hg w;rcases List.mem_cons.1 hg with rfl|hg
         ·simp[bT hE hf,hf]
         ·exact i1 g hg w
        ·cases h
   obtain ⟨p1,p2⟩:=cx fs.toList ps si;obtain ⟨yI,ho,hc⟩:=vT (fun i:Nat=>ps[i]?) _ _ _ _ _ gd zB tN hf;have hm:=zj (P:=P) (w:=w) (fun f:Field=>(do pure (f.offset,<-Go.sizeOf f.type):Sem (Nat×Nat))) (fun f=>(f.offset,((E.ty f.type).map (·.info.size)).getD 0)) fs (fun f hf=>p1 f (by simpa using hf) w);have AM:(fun (i:Nat)=>(fs.map fun f=>(f.offset,((E.ty f.type).map (·.info.size)).getD 0))[i]?)=fun (i:Nat)=>ps[i]?:=by
    funext i;rw[p2];simp
   rw[hd];refine ⟨.agg yI,?_,by simp only[an];exact ⟨_,rfl,hc⟩⟩;simp only[];rw[Sem.run_bind,hm,Result.andThen_ok,AM,ho];rfl
  ·cases h
 ·rename_i n elem hd;split at h
  ·rename_i er fh;obtain ⟨l,hf,rfl⟩:=Option.map_eq_some_iff.1 h;obtain ⟨yI,ho,hc⟩:=vT _ _ _ _ _ _ gd zB tN hf;rw[hd];simp only[Sem.run_bind,bT hE fh w,Result.andThen_ok,ho,Sem.run_pure];exact ⟨_,rfl,by simp only[an];exact ⟨_,rfl,hc⟩⟩
  ·cases h
 ·cases h
end
end Go.Proofs.YtmbdghclhpboaaaGreat.Ev

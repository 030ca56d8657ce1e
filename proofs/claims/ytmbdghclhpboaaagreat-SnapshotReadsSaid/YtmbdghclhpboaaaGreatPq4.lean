/- Part of the proof: EvF. Conditions: as each states. -/
import Derived.Test.YtmbdghclhpboaaaGreatPq3
import Derived.Laws.BytesString
set_option linter.all false
namespace Go.Proofs.YtmbdghclhpboaaaGreat.Ev
theorem oz{s:Sem Value}{v:AV}(h:uG s=some v):∃x,s=.pure x/\v=.lit x:=by
 unfold uG at h;split at h
 ·simp only[Option.some.injEq] at h;exact ⟨_,rfl,h.symm⟩
 ·simp at h
theorem jR{γ:aT}{v:AV}{n:Nat}{x:Value}(h:l5 v=some n)(hc:aw γ v x):∃k,x=.int k n:=by
 unfold l5 at h;split at h
 ·rename_i k m;simp only[Option.some.injEq] at h;subst h;rw[au] at hc;exact ⟨k,hc⟩
 ·simp at h
section
variable{P:Program}{E:Env}(hE:cL P E){γ:aT}{σ:AS}{w:World}
include hE
omit hE in
theorem oc:∀{l m:List AV} {b:Bool},bz l m=some b->(∃xs:List Value,l=xs.map .lit)/\∃ys:List Value,m=ys.map .lit
 | [],[],_,_=>⟨⟨[],rfl⟩,⟨[],rfl⟩⟩
 | [],_::_,_,h=>by simp[bz] at h
 | .lit a::l,[],_,h=>by simp[bz] at h
 | .lit a::l,.lit b::m,c,h=>by
   simp only[bz] at h;split at h
   ·rename_i x y hx hy;obtain ⟨⟨xs,e1⟩,ys,e2⟩:=oc hy;exact ⟨⟨a::xs,by simp[e1]⟩,⟨b::ys,by simp[e2]⟩⟩
   ·cases h
 | .lit a::l,.ptr ..::m,_,h=>by simp[bz] at h
 | .lit a::l,.slice ..::m,_,h=>by simp[bz] at h
 | .lit a::l,.map ..::m,_,h=>by simp[bz] at h
 | .lit a::l,.func ..::m,_,h=>by simp[bz] at h
 | .lit a::l,.iface ..::m,_,h=>by simp[bz] at h
 | .lit a::l,.agg ..::m,_,h=>by simp[bz] at h
 | .lit a::l,.tuple ..::m,_,h=>by simp[bz] at h
 | .ptr ..::l,_,_,h=>by simp[bz] at h
 | .slice ..::l,_,_,h=>by simp[bz] at h
 | .map ..::l,_,_,h=>by simp[bz] at h
 | .func ..::l,_,_,h=>by simp[bz] at h
 | .iface ..::l,_,_,h=>by simp[bz] at h
 | .agg ..::l,_,_,h=>by simp[bz] at h
 | .tuple ..::l,_,_,h=>by simp[bz] at h
omit hE in
theorem gx{γ:aT}:∀{xs ys:List Value},aG γ (xs.map .lit) ys->ys=xs
 | [],_,h=>by simpa [aG] using h
 | x::xs,_,h=>by
   simp only[List.map_cons,aG] at h;obtain ⟨y,ys,rfl,h1,h2⟩:=h;rw[au] at h1;rw[h1,gx h2]
theorem Ii{t:TypeId}{r:dd}{n:Nat}(hr:E.ty t=some r)(hf:r.flat=some n){a b:List AV}{c:Bool}(ha:a.length=n)(hb:b.length=n)(hk:fits r.kinds a=true)
  (h:bz a b=some c) {x y:Array Value} (hx:aG γ a x.toList) (hy:aG γ b y.toList) :
  (Op.equalIn Op.maxDepth t (.agg x) (.agg y)).run P w=.ok c w:=by
 obtain ⟨⟨xs,rfl⟩,ys,rfl⟩:=oc h;have e1:=gx hx;have e2:=gx hy;have:=hE.eq t r n hr hf xs ys c w (by simpa using ha) (by simpa using hb) hk h;rw[<-e1,<-e2] at this;simpa using this
theorem Pw{t:TypeId}{a b:AV}{c:Bool}(h:zn E t a b=some c){x y:Value}(hx:aw γ a x)(hy:aw γ b y) :
  (Op.equal t x y).run P w=.ok c w:=by
 unfold zn at h;cases hr:E.ty t with
 | none=>rw[hr] at h;cases h
 | some r=>
   rw[hr] at h;simp only[] at h;unfold Op.equal;have Xh:∀n,r.flat=some n->∀{a b:List AV} {c:Bool},a.length=n->b.length=n->fits r.kinds a=true->bz a b=some c->∀{x y:Array Value},aG γ a x.toList->aG γ b y.toList ->
     (Op.equalIn Op.maxDepth t (.agg x) (.agg y)).run P w=.ok c w:=fun n hf _ _ _ ha hb hk h _ _ hx hy=>Ii hE hr hf ha hb hk h hx hy
   have w8:Op.maxDepth=9999+1:=rfl;rw[w8] at Xh ⊢;generalize 9999=d at Xh ⊢;split at h;case h_16=>cases h
   case h_15=>
    simp only[aw] at hx hy;obtain ⟨x,rfl,hx⟩:=hx;obtain ⟨y,rfl,hy⟩:=hy;split at h
    ·rename_i n hf;split at h
     ·rename_i hn;rw[Bool.and_eq_true,Bool.and_eq_true] at hn;exact Xh n hf (nQ1 hn.1.1) (nQ1 hn.1.2) hn.2 h hx hy
     ·cases h
    ·cases h
   all_goals
    rename_i hd
    simp only[Option.some.injEq] at h
    subst h
    simp only[aw] at hx hy
    first|subst hx|obtain ⟨_,rfl,_⟩:=hx|obtain ⟨_,_,rfl,_⟩:=hx
    first|subst hy|obtain ⟨_,rfl,_⟩:=hy|obtain ⟨_,_,rfl,_⟩:=hy
    simp only[Op.equalIn,Sem.run_bind,bn hE hr w,Result.andThen_ok,hd]
    rfl
theorem Ee{op:BinOp}{t:TypeId}{ox oy:Operand}{a b:AV}{c:Bool}(h:zn E t a b=some c){x y:Value}(hx:aw γ a x)(hy:aw γ b y) :
  (eqGuard op t ox oy x y).run P w=.ok () w:=by
 unfold zn at h;cases hr:E.ty t with
 | none=>rw[hr] at h;cases h
 | some r=>
   rw[hr] at h;simp only[] at h;unfold eqGuard;split at h;case h_16=>cases h
   case h_15=>
    simp only[aw] at hx hy;obtain ⟨x,rfl,hx⟩:=hx;obtain ⟨y,rfl,hy⟩:=hy;split at h
    ·rename_i n hf;have hg:=hE.guard t r n hr hf;split<;>simp[hg]
    ·cases h
   all_goals
    simp only[aw] at hx hy
    first|subst hx|obtain ⟨_,rfl,_⟩:=hx|obtain ⟨_,_,rfl,_⟩:=hx
    first|subst hy|obtain ⟨_,rfl,_⟩:=hy|obtain ⟨_,_,rfl,_⟩:=hy
    split<;>rfl
theorem binOp_eql{t:TypeId}{a b:AV}{c:Bool}(h:zn E t a b=some c){x y:Value}(hx:aw γ a x)(hy:aw γ b y) :
  (binOp .eql t x y).run P w=.ok (.bool c) w/\(binOp .neq t x y).run P w=.ok (.bool (!c)) w:=by
 have he:=Pw hE (w:=w) h hx hy;unfold zn at h;cases hr:E.ty t with
 | none=>rw[hr] at h;cases h
 | some r=>
   rw[hr] at h;simp only[] at h;split at h;case h_16=>cases h
   all_goals
    simp only[aw] at hx hy
    first|subst hx|obtain ⟨_,rfl,_⟩:=hx|obtain ⟨_,_,rfl,_⟩:=hx
    first|subst hy|obtain ⟨_,rfl,_⟩:=hy|obtain ⟨_,_,rfl,_⟩:=hy
    simp only[binOp,Sem.run_bind,he,Result.andThen_ok,Sem.run_pure,and_self]
theorem Pd{op:BinOp}{t:TypeId}{ox oy:Operand}{a b v:AV}(h:Bc E op t a b=some v){x y:Value}(hx:aw γ a x)(hy:aw γ b y) :
  ∃u,(do eqGuard op t ox oy x y;binOp op t x y:Sem Value).run P w=.ok u w/\aw γ v u:=by
 unfold Bc at h;split at h
 ·rename_i k1 n1 k2 n2;rw[au] at hx hy;subst hx hy;obtain ⟨u,hu,rfl⟩:=oz h;refine ⟨u,?_,aS γ u⟩;have:(eqGuard op t ox oy (.int k1 n1) (.int k2 n2))=pure ():=by unfold eqGuard;split<;>rfl
  rw[this,hu];rfl
 ·rename_i s1 s2;rw[au] at hx hy;subst hx hy;obtain ⟨u,hu,rfl⟩:=oz h;refine ⟨u,?_,aS γ u⟩;have:(eqGuard op t ox oy (.string s1) (.string s2))=pure ():=by unfold eqGuard;split<;>rfl
  rw[this,hu];rfl
 ·split at h
  ·obtain ⟨c,hc,rfl⟩:=oM1.1 h;refine ⟨_,?_,aS γ _⟩;simp only[Sem.run_bind,Ee hE hc hx hy,Result.andThen_ok,(binOp_eql hE hc hx hy).1]
  ·obtain ⟨c,hc,rfl⟩:=oM1.1 h;refine ⟨_,?_,aS γ _⟩;simp only[Sem.run_bind,Ee hE hc hx hy,Result.andThen_ok,(binOp_eql hE hc hx hy).2]
  ·cases h
omit hE in
theorem Vb{op:UnOp}{a v:AV}(h:Yu op a=some v){x:Value}(hx:aw γ a x):∃u,(Op.unary op x).run P w=.ok u w/\aw γ v u:=by
 unfold Yu at h;split at h
 ·rw[au] at hx;subst hx;obtain ⟨u,hu,rfl⟩:=oz h;exact ⟨u,by rw[hu];rfl,aS γ u⟩
 ·cases h
def qN(γ:aT):Option AV->Option Value->Prop
 | none,none=>True
 | some v,some x=>aw γ v x
 | _,_=>False
omit hE in
theorem Nk{v:AV}{x:Value}{n y:Nat}{code:BoundsCode}(hn:l5 v=some n)(hx:aw γ v x)(hle:n<=y):(Instr.sliceBound x y code).run P w=.ok n w:=by
 obtain ⟨k,rfl⟩:=jR hn hx;unfold Instr.sliceBound;have:(0<=(n:Int)/\(n:Int)<=(y:Int)):=⟨by omega,by omega⟩;simp[asIntOf,this]
omit hE in
theorem uz{v:AV}{x:Value}{n top y:Nat}{code:BoundsCode}(hn:yL v top=some n)(hx:aw γ v x)(hle:top<=y):(Instr.sliceBound x y code).run P w=.ok n w/\n<=top:=by
 unfold yL at hn;split at hn
 ·rename_i k hk;split at hn
  ·rename_i hb;simp only[Option.some.injEq] at hn;subst hn;have hb:=nB1 hb;exact ⟨Nk hk hx (Nat.le_trans hb hle),hb⟩
  ·cases hn
 ·cases hn
omit hE in
theorem qQ{isSlice:Bool}{len c:Nat}{cap:Option Nat}{lo hi mx:Option AV}{l h:Nat}{m:Option Nat}(hb:oL len cap lo hi mx=some (l,h,m))
  (hc:cap=some c\/(cap=none/\len<=c)) (hle:len<=c) {DH kU mx':Option Value} (h1:qN γ lo DH) (h2:qN γ hi kU) (h3:qN γ mx mx') :
  ∃mm,(Instr.sliceBounds isSlice len c DH kU mx').run P w=.ok (l,h,mm) w/\l<=h/\((∃k,m=some k/\mm=k)\/(m=none/\cap=none/\mm=c))/\h<=mm/\mm<=c:=by
 unfold oL at hb;have uR:De len cap<=c:=by
  rcases hc with rfl|⟨rfl,hle⟩
  ·exact Nat.le_refl _
  ·exact hle
 cases hm':HZ len cap mx with
 | none=>rw[hm'] at hb;cases hb
 | some m'=>
   rw[hm'] at hb;simp only[] at hb;have Xr:∃mm,((match mx' with
     | some v=>Instr.sliceBound v c (if isSlice then .slice3Acap else .slice3Alen)
     | none=>pure c:Sem Nat).run P w=.ok mm w)/\mm<=c/\((∃k,m'=some k/\mm=k)\/(m'=none/\cap=none/\mm=c))/\(mx=none->mm=c):=by
    cases mx with
    | none=>
      cases mx' with
      | some _=>exact h3.elim
      | none=>
        simp only[HZ,Option.some.injEq] at hm';subst hm';refine ⟨c,rfl,Nat.le_refl _,?_,fun _=>rfl⟩;rcases hc with e|⟨e,_⟩
        ·exact .inl ⟨c,e,rfl⟩
        ·exact .inr ⟨e,e,rfl⟩
    | some v=>
      cases mx' with
      | none=>exact h3.elim
      | some x=>
        simp only[HZ] at hm';split at hm'
        ·rename_i k hk;simp only[Option.some.injEq] at hm';subst hm';have:=uz (P:=P) (w:=w) (code:=if isSlice then .slice3Acap else .slice3Alen) hk h3 uR;exact ⟨k,this.1,Nat.le_trans this.2 uR,.inl ⟨k,rfl,rfl⟩,fun e=>by cases e⟩
        ·cases hm'
   obtain ⟨mm,BU,Qa,Ts,hmn⟩:=Xr;have xf:De len m'<=mm:=by
    rcases Ts with ⟨k,rfl,rfl⟩|⟨rfl,hn,rfl⟩
    ·exact Nat.le_refl _
    ·rw[hn] at uR;exact uR
   cases hh':yr len m' hi mx with
   | none=>rw[hh'] at hb;cases hb
   | some h'=>
     rw[hh'] at hb;simp only[] at hb;have hhx:((match kU,mx' with
       | some v,some _=>Instr.sliceBound v mm .slice3B
       | some v,none=>Instr.sliceBound v mm (if isSlice then .sliceAcap else .sliceAlen)
       | none,none=>pure len
       | none,some _=>stuck "Slice: max without high":Sem Nat).run P w=.ok h' w)/\h'<=mm:=by
      cases hi with
      | some v=>
        cases kU with
        | none=>exact h2.elim
        | some x=>
          simp only[yr] at hh';cases mx' with
          | none=>
            have:=uz (P:=P) (w:=w) (code:=if isSlice then .sliceAcap else .sliceAlen) hh' h2 xf;exact ⟨this.1,Nat.le_trans this.2 xf⟩
          | some _=>
            have:=uz (P:=P) (w:=w) (code:=.slice3B) hh' h2 xf;exact ⟨this.1,Nat.le_trans this.2 xf⟩
      | none=>
        cases kU with
        | some _=>exact h2.elim
        | none=>
          cases mx with
          | some _=>simp[yr] at hh'
          | none=>
            cases mx' with
            | some _=>exact h3.elim
            | none=>
              simp only[yr,Option.some.injEq] at hh';subst hh';exact ⟨rfl,by rw[hmn rfl];exact hle⟩
     obtain ⟨P4,NM⟩:=hhx;cases hl':IW h' lo with
     | none=>rw[hl'] at hb;cases hb
     | some l'=>
       rw[hl'] at hb;simp only[Option.some.injEq,Prod.mk.injEq] at hb;obtain ⟨rfl,rfl,rfl⟩:=hb;have NP:((match DH with
         | some v=>Instr.sliceBound v h' (if mx'.isSome then .slice3C else .sliceB)
         | none=>pure 0:Sem Nat).run P w=.ok l' w)/\l'<=h':=by
        cases lo with
        | some v=>
          cases DH with
          | none=>exact h1.elim
          | some x=>
            simp only[IW] at hl';exact uz hl' h1 (Nat.le_refl _)
        | none=>
          cases DH with
          | some _=>exact h1.elim
          | none=>
            simp only[IW,Option.some.injEq] at hl';subst hl';exact ⟨rfl,Nat.zero_le _⟩
       refine ⟨mm,?_,NP.2,Ts,NM,Qa⟩;unfold Instr.sliceBounds;clear hh' hm' hl';cases mx'<;>cases kU<;>cases DH<;>simp only[Sem.run_pure,Result.ok.injEq,and_true] at BU P4 NP <;>
        first
         | (simp only[Sem.run_bind,BU,P4,NP.1,Result.andThen_ok,Sem.run_pure];done)
         | (subst BU;simp only[Sem.run_bind,P4,NP.1,Result.andThen_ok,Sem.run_pure];done)
         | (subst BU P4;simp only[Sem.run_bind,NP.1,Result.andThen_ok,Sem.run_pure];done)
         | (simp only[Sem.run_bind,BU,P4,NP.1,Result.andThen_ok,Sem.run_pure];rfl)
         | trace_state
end
end Go.Proofs.YtmbdghclhpboaaaGreat.Ev
namespace Go.Proofs.YtmbdghclhpboaaaGreat.Ev
theorem tR{P:Program}{w:World}{α β:Type}(f:α->Sem β)(g:α->β):∀(l:List α),(∀a∈l,(f a).run P w=.ok (g a) w)->(l.mapM f).run P w=.ok (l.map g) w
 | [],_=>by simp
 | a::l,h=>by
   simp only[List.mapM_cons,Sem.run_bind,h a (by simp),Result.andThen_ok,tR f g l (fun b hb=>h b (by simp[hb])),Sem.run_pure,List.map_cons]
theorem Ag{P:Program}{w:World}{α β:Type}(f:α->Sem β)(g:α->β)(l:Array α)(h:∀a∈l,(f a).run P w=.ok (g a) w):(l.mapM f).run P w=.ok (l.map g) w:=by
 rw[Array.mapM_eq_mapM_toList,Sem.run_map,tR f g l.toList (fun a ha=>h a (by simpa using ha)),Result.andThen_ok];congr 1;apply Array.ext';simp
theorem ki{α:Type}(l vs:List α)(off i:Nat)(h:off+vs.length<=l.length):(setFrom l off vs)[i]?=if off<=i/\i<off+vs.length then vs[i - off]? else l[i]?:=by
 unfold setFrom;by_cases h1:i<off
 ·rw[if_neg (by omega),List.append_assoc,List.getElem?_append_left (by simp;omega),List.getElem?_take,if_pos h1]
 ·by_cases h2:i<off+vs.length
  ·rw[if_pos ⟨by omega,h2⟩,List.getElem?_append_left (by simp;omega),List.getElem?_append_right (by simp;omega)];simp only[List.length_take];rw[Nat.min_eq_left (by omega)]
  ·rw[if_neg (by omega),List.getElem?_append_right (by simp;omega)];simp only[List.length_append,List.length_take];rw[Nat.min_eq_left (by omega),List.getElem?_drop];congr 1;omega
theorem gR{α:Type}(l vs:List α)(off:Nat)(h:off+vs.length<=l.length):(setFrom l off vs).length=l.length:=by
 unfold setFrom;simp;omega
theorem BG{α:Type}:∀(vs:List α) (k:Nat) (off:Nat) (cells:Array α),off+k+vs.length<=cells.size ->
  ((vs.zipIdx k).foldl (fun cs (c,j)=>cs.setIfInBounds (off+j) c) cells).toList=setFrom cells.toList (off+k) vs
 | [],k,off,cells,_=>by simp[setFrom]
 | v::vs,k,off,cells,h=>by
   simp only[List.zipIdx_cons,List.foldl_cons];have h':off+k+(vs.length+1)<=cells.size:=by simpa using h
   rw[BG vs (k+1) off _ (by simp;omega)];simp only[Array.toList_setIfInBounds];have jD:cells.toList.length=cells.size:=by simp
   apply List.ext_getElem?;intro i;rw[ki _ _ _ _ (by rw[List.length_set,jD];omega),ki _ _ _ _ (by rw[jD,List.length_cons];omega)];rw[List.length_cons];by_cases h1:off+(k+1)<=i/\i<off+(k+1)+vs.length
   ·rw[if_pos h1,if_pos (by omega),show i - (off+k)=(i - (off+(k+1)))+1 by omega,List.getElem?_cons_succ]
   ·rw[if_neg h1];by_cases h2:i=off+k
    ·subst h2;rw[if_pos (by omega),List.getElem?_set_self (by rw[jD];omega),Nat.sub_self];rfl
    ·rw[if_neg (by omega),List.getElem?_set_ne (by omega)]
theorem wU{γ:aT}(place:Nat->Option (Nat×Nat)):∀(parts:List (Nat×AV)) (rq:List (Nat×Value)) (cells:List AV) (pz:Array Value) (out:List AV),
  rq.length=parts.length->(∀(i:Nat) (p:Nat×AV),parts[i]?=some p->∃x,rq[i]?=some (p.1,x)/\aw γ p.2 x)->aG γ cells pz.toList->oQ place cells parts=some out ->
  ∃zH,Instr.fill place pz rq=some zH/\aG γ out zH.toList
 | [],rq,cells,pz,out,hl,_,hc,h=>by
   have:rq=[]:=List.eq_nil_of_length_eq_zero (by simpa using hl);subst this;simp only[oQ,Option.some.injEq] at h;subst h;exact ⟨pz,rfl,hc⟩
 | (i,v)::rest,rq,cells,pz,out,hl,hp,hc,h=>by
   obtain ⟨x,hx,ll⟩:=hp 0 (i,v) rfl;cases rq with
   | nil=>simp at hl
   | cons q rest'=>
     simp only[List.getElem?_cons_zero,Option.some.injEq] at hx;subst hx;unfold oQ at h;unfold Instr.fill;cases cE:place i with
     | none=>rw[cE] at h;cases h
     | some os=>
       obtain ⟨off,size⟩:=os;rw[cE] at h;simp only[] at h ⊢;have F8:=fH ll;have hvl:x.cells.size=v.cells.length:=by simpa using bB F8
       have yq:pz.size=cells.length:=by simpa using bB hc
       split at h
       ·rename_i hb;rw[Bool.and_eq_true] at hb;have h1:=nQ1 hb.1;have h2:=nB1 hb.2;have aP:¬((decide (x.cells.size≠size) || decide (off+x.cells.size>pz.size))=true):=by simp;omega
        rw[if_neg aP];refine wU place rest rest' _ _ out (by simpa using hl) (fun j p hj=>by simpa using hp (j+1) p (by simpa using hj)) ?_ h;have hf:=BG x.cells.toList 0 off pz (by simp;omega);rw[<-Array.foldl_toList,Array.toList_zipIdx];rw[hf];exact Bq hc F8 off
       ·cases h
theorem MG{α:Type}[Inhabited α](z:Array α)(s:Nat)(hz:z.size=s):∀n,((Array.range (n * s)).map (z[· % z.size]!)).toList=rep n z.toList:=by
 intro n;have key:∀n,∀i,(rep n z.toList)[i]?=if i<n * s then z[i % s]? else none:=by
  intro n;induction n with
  | zero=>intro i;simp[rep]
  | succ n ih=>
    intro i;simp only[rep];by_cases h1:i<s
    ·rw[List.getElem?_append_left (by simp;omega),if_pos (by rw[Nat.succ_mul];omega),Nat.mod_eq_of_lt h1];simp
    ·rw[List.getElem?_append_right (by simp;omega),ih];have e:z.toList.length=s:=by simpa using hz
     rw[e,Nat.succ_mul];by_cases h2:i - s<n * s
     ·rw[if_pos h2,if_pos (by omega)];rw[Nat.mod_eq_sub_mod (by omega:i>=s)]
     ·rw[if_neg h2,if_neg (by omega)]
 apply List.ext_getElem?;intro i;rw[key];simp only[Array.toList_map,Array.toList_range,List.getElem?_map];by_cases h:i<n * s
 ·rw[if_pos h,List.getElem?_range h];have hs:0<s:=by
   rcases Nat.eq_zero_or_pos s with e|e
   ·subst e;simp at h
   ·exact e
  have hm:i % s<z.size:=by rw[hz];exact Nat.mod_lt _ hs
  simp only[Option.map_some,hz];rw[getElem!_pos z (i % s) hm,Array.getElem?_eq_getElem hm]
 ·rw[if_neg h];simp[List.getElem?_eq_none (by simpa using h:(List.range (n * s)).length<=i)]
theorem vj{γ:aT}{l:List AV}{xs:List Value}(h:aG γ l xs):∀n,aG γ (rep n l) (rep n xs)
 | 0=>by simp[rep,aG]
 | n+1=>fA h (vj h n)
theorem oO{γ:aT}:∀{es:List (AV×AV×Nat)} {es':List MapEntry},bf γ es es'->es'.length=es.length
 | [],_,h=>by simp only[bf] at h;simp[h]
 | (k,v,b)::es,_,h=>by
   simp only[bf] at h;obtain ⟨k',v',rest,rfl,_,_,h⟩:=h;simp[oO h]
theorem zm{γ:aT}:∀{es:List (AV×AV×Nat)} {es':List MapEntry},bf γ es es'->∀(i:Nat) (e:AV×AV×Nat),es[i]?=some e->∃k v,es'[i]?=some ⟨k,v,e.2.2⟩/\aw γ e.1 k/\aw γ e.2.1 v
 | [],_,_,i,e,he=>by simp at he
 | (k,v,b)::es,_,h,i,e,he=>by
   simp only[bf] at h;obtain ⟨k',v',rest,rfl,h1,h2,h⟩:=h;cases i with
   | zero=>simp only[List.getElem?_cons_zero,Option.some.injEq] at he;subst he;exact ⟨k',v',rfl,h1,h2⟩
   | succ i=>simpa using zm h i e (by simpa using he)
theorem wO{γ ay:aT}(hx:Ext γ ay):∀{es:List (AV×AV×Nat)} {es':List MapEntry},bf γ es es'->bf ay es es'
 | [],_,h=>by simpa only[bf] using h
 | (k,v,b)::es,_,h=>by
   simp only[bf] at h ⊢;obtain ⟨k',v',rest,rfl,h1,h2,h⟩:=h;exact ⟨k',v',rest,rfl,h1.mono hx _ _,h2.mono hx _ _,wO hx h⟩
theorem sI{γ:aT}:∀{es fs:List (AV×AV×Nat)} {es' sR:List MapEntry},bf γ es es'->bf γ fs sR->bf γ (es++fs) (es'++sR)
 | [],_,_,_,h,h'=>by simp only[bf] at h;subst h;simpa using h'
 | (k,v,b)::es,_,_,_,h,h'=>by
   simp only[bf] at h;obtain ⟨k',v',rest,rfl,h1,h2,h⟩:=h;simp only[List.cons_append,bf];exact ⟨k',v',_,rfl,h1,h2,sI h h'⟩
section
variable{P:Program}{E:Env}(hE:cL P E){γ:aT}{σ:AS}{w:World}
include hE
theorem Nm{ty:TypeId}{is:List Nat}{os:List Operand}{vs:List AV}{ρ:Operand->Value}{parts:Array (Nat×Operand)}{v:AV}{r:dd}{z:Value}
  (hr:E.ty ty=some r) (hz:r.info.zero=some z) (hp:aG γ vs (parts.toList.map (fun p=>ρ p.2)))
  (h:(match r.bp with
    | .struct fs=>match places E fs.toList with
      | some ps=>(oQ (ps[·]?) (ofValue z).cells ((parts.toList.map (·.1)).zip vs)).map fun l=>AV.agg l
      | none=>none
    | .array _ elem=>match E.ty elem with
      | some er=>(oQ (fun i=>some (i * er.info.size,er.info.size)) (ofValue z).cells ((parts.toList.map (·.1)).zip vs)).map fun l=>AV.agg l
      | none=>none
    | _=>none)=some v) :
  ∃x,(Instr.build ty (parts.map fun (i,x)=>(i,ρ x))).run P w=.ok x w/\aw γ v x:=by
 have hlen:vs.length=parts.toList.length:=by have:=bB hp;simpa using this.symm
 have Az:∀(i:Nat) (p:Nat×AV),((parts.toList.map (·.1)).zip vs)[i]?=some p->∃x,((parts.map fun (i,x)=>(i,ρ x)).toList)[i]?=some (p.1,x)/\aw γ p.2 x:=by
  intro i p hi;rw[List.getElem?_zip_eq_some] at hi;obtain ⟨h1,h2⟩:=hi;obtain ⟨x,hx,hc⟩:=dQ hp i p.2 h2;refine ⟨x,?_,hc⟩;simp only[List.getElem?_map,Option.map_eq_some_iff,Array.toList_map] at h1 hx ⊢;obtain ⟨q,hq,e⟩:=h1;obtain ⟨q',fu,e'⟩:=hx;rw[hq] at fu;cases fu
  exact ⟨q,hq,by rw[<-e,<-e']⟩
 have hJ:(parts.map fun (i,x)=>(i,ρ x)).toList.length=((parts.toList.map (·.1)).zip vs).length:=by simp[hlen]
 have uS:aG γ (ofValue z).cells z.cells.toList:=fH (dg γ z);unfold Instr.build;simp only[Sem.run_bind,mU hE hr w hz,Result.andThen_ok,bn hE hr w];split at h
 ·rename_i fs hd;split at h
  ·rename_i ps tv;obtain ⟨l,hf,rfl⟩:=oM1.1 h;have cE:∀(fl:List Field) (ps:List (Nat×Nat)),places E fl=some ps->(∀f∈fl,∀w,(do pure (f.offset,<-Go.sizeOf f.type):Sem (Nat×Nat)).run P w=.ok (f.offset,((E.ty f.type).map (·.info.size)).getD 0) w)/\ps=fl.map fun f=>(f.offset,((E.ty f.type).map (·.info.size)).getD 0):=by
    intro fl;induction fl with
    | nil=>intro ps h;simp only[places,List.map_nil,eO,Option.some.injEq] at h;subst h;simp
    | cons f fl ih=>
      intro ps h;simp only[places,List.map_cons] at h;cases hf:E.ty f.type with
      | none=>rw[hf] at h;simp[eO] at h
      | some fr=>
        rw[hf] at h;simp only[Option.map_some,eO] at h;split at h
        ·rename_i ps' Z1;simp only[Option.some.injEq] at h;subst h;obtain ⟨i1,i2⟩:=ih ps' Z1;refine ⟨?_,by simp[hf,i2]⟩;intro g hg w;rcases List.mem_cons.1 hg with rfl|hg
         ·simp[bY hE hf,hf]
         ·exact i1 g hg w
        ·cases h
   obtain ⟨p1,p2⟩:=cE fs.toList ps tv;obtain ⟨zH,ho,hc⟩:=wU (fun i:Nat=>ps[i]?) _ _ _ _ _ hJ Az uS hf;have hm:=Ag (P:=P) (w:=w) (fun f:Field=>(do pure (f.offset,<-Go.sizeOf f.type):Sem (Nat×Nat))) (fun f=>(f.offset,((E.ty f.type).map (·.info.size)).getD 0)) fs (fun f hf=>p1 f (by simpa using hf) w);have BT:(fun (i:Nat)=>(fs.map fun f=>(f.offset,((E.ty f.type).map (·.info.size)).getD 0))[i]?)=fun (i:Nat)=>ps[i]?:=by
    funext i;rw[p2];simp
   rw[hd];refine ⟨.agg zH,?_,by simp only[aw];exact ⟨_,rfl,hc⟩⟩;simp only[];rw[Sem.run_bind,hm,Result.andThen_ok,BT,ho];rfl
  ·cases h
 ·rename_i n elem hd;split at h
  ·rename_i er fN;obtain ⟨l,hf,rfl⟩:=oM1.1 h;obtain ⟨zH,ho,hc⟩:=wU _ _ _ _ _ _ hJ Az uS hf;rw[hd];simp only[Sem.run_bind,bY hE fN w,Result.andThen_ok,ho,Sem.run_pure];exact ⟨_,rfl,by simp only[aw];exact ⟨_,rfl,hc⟩⟩
  ·cases h
 ·cases h
end

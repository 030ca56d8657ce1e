/- Part of the proof: EvF. Conditions: as each states. -/
import Derived.Test.YtmbdghclhpboaaaGreatPb3
import Derived.Laws.BytesString
set_option linter.all false
namespace Go.Proofs.YtmbdghclhpboaaaGreat.Ev
theorem semVal_some{s:Sem Value}{v:AV}(h:semVal s=some v):∃x,s=.pure x∧v=.lit x:=by
 unfold semVal at h
 split at h
 ·simp only[Option.some.injEq] at h;exact ⟨_,rfl,h.symm⟩
 ·simp at h
theorem natOf_some{γ:Gam}{v:AV}{n:Nat}{x:Value}(h:natOf v=some n)(hc:Conc γ v x):∃k,x=.int k n:=by
 unfold natOf at h
 split at h
 ·rename_i k m
  simp only[Option.some.injEq] at h
  subst h
  rw[conc_lit_iff] at hc
  exact ⟨k,hc⟩
 ·simp at h
section
variable{P:Program}{E:Env}(hE:EnvOk P E){γ:Gam}{σ:AS}{w:World}
include hE
omit hE in
theorem flatEq_lits:∀{l m:List AV} {b:Bool},flatEq l m=some b→(∃xs:List Value,l=xs.map .lit)∧∃ys:List Value,m=ys.map .lit
 | [],[],_,_=>⟨⟨[],rfl⟩,⟨[],rfl⟩⟩
 | [],_::_,_,h=>by simp[flatEq] at h
 | .lit a::l,[],_,h=>by simp[flatEq] at h
 | .lit a::l,.lit b::m,c,h=>by
   simp only[flatEq] at h
   split at h
   ·rename_i x y hx hy
    obtain ⟨⟨xs,e1⟩,ys,e2⟩:=flatEq_lits hy
    exact ⟨⟨a::xs,by simp[e1]⟩,⟨b::ys,by simp[e2]⟩⟩
   ·cases h
 | .lit a::l,.ptr ..::m,_,h=>by simp[flatEq] at h
 | .lit a::l,.slice ..::m,_,h=>by simp[flatEq] at h
 | .lit a::l,.map ..::m,_,h=>by simp[flatEq] at h
 | .lit a::l,.func ..::m,_,h=>by simp[flatEq] at h
 | .lit a::l,.iface ..::m,_,h=>by simp[flatEq] at h
 | .lit a::l,.agg ..::m,_,h=>by simp[flatEq] at h
 | .lit a::l,.tuple ..::m,_,h=>by simp[flatEq] at h
 | .ptr ..::l,_,_,h=>by simp[flatEq] at h
 | .slice ..::l,_,_,h=>by simp[flatEq] at h
 | .map ..::l,_,_,h=>by simp[flatEq] at h
 | .func ..::l,_,_,h=>by simp[flatEq] at h
 | .iface ..::l,_,_,h=>by simp[flatEq] at h
 | .agg ..::l,_,_,h=>by simp[flatEq] at h
 | .tuple ..::l,_,_,h=>by simp[flatEq] at h
omit hE in
theorem concs_lits_eq{γ:Gam}:∀{xs ys:List Value},Concs γ (xs.map .lit) ys→ys=xs
 | [],_,h=>by simpa [Concs] using h
 | x::xs,_,h=>by
   simp only[List.map_cons,Concs] at h
   obtain ⟨y,ys,rfl,h1,h2⟩:=h
   rw[conc_lit_iff] at h1
   rw[h1,concs_lits_eq h2]
theorem flat_ok{t:TypeId}{r:TyRow}{n:Nat}(hr:E.ty t=some r)(hf:r.flat=some n){a b:List AV}{c:Bool}(ha:a.length=n)(hb:b.length=n)(hk:fits r.kinds a=true)
  (h:flatEq a b=some c) {x y:Array Value} (hx:Concs γ a x.toList) (hy:Concs γ b y.toList) :
  (Op.equalIn Op.maxDepth t (.agg x) (.agg y)).run P w=.ok c w:=by
 obtain ⟨⟨xs,rfl⟩,ys,rfl⟩:=flatEq_lits h
 have e1:=concs_lits_eq hx
 have e2:=concs_lits_eq hy
 have:=hE.eq t r n hr hf xs ys c w (by simpa using ha) (by simpa using hb) hk h
 rw[←e1,←e2] at this
 simpa using this
theorem eqOf_ok{t:TypeId}{a b:AV}{c:Bool}(h:eqOf E t a b=some c){x y:Value}(hx:Conc γ a x)(hy:Conc γ b y) :
  (Op.equal t x y).run P w=.ok c w:=by
 unfold eqOf at h
 cases hr:E.ty t with
 | none=>rw[hr] at h;cases h
 | some r=>
   rw[hr] at h
   simp only[] at h
   unfold Op.equal
   have hfl:∀n,r.flat=some n→∀{a b:List AV} {c:Bool},a.length=n→b.length=n→fits r.kinds a=true→flatEq a b=some c→∀{x y:Array Value},Concs γ a x.toList→Concs γ b y.toList →
     (Op.equalIn Op.maxDepth t (.agg x) (.agg y)).run P w=.ok c w:=fun n hf _ _ _ ha hb hk h _ _ hx hy=>flat_ok hE hr hf ha hb hk h hx hy
   have hmax:Op.maxDepth=9999+1:=rfl
   rw[hmax] at hfl ⊢
   generalize 9999=d at hfl ⊢
   split at h
   case h_16=>cases h
   case h_15=>
    simp only[Conc] at hx hy
    obtain ⟨x,rfl,hx⟩:=hx
    obtain ⟨y,rfl,hy⟩:=hy
    split at h
    ·rename_i n hf
     split at h
     ·rename_i hn
      rw[Bool.and_eq_true,Bool.and_eq_true] at hn
      exact hfl n hf (Nat.eq_of_beq_eq_true hn.1.1) (Nat.eq_of_beq_eq_true hn.1.2) hn.2 h hx hy
     ·cases h
    ·cases h
   all_goals
    rename_i hd
    simp only[Option.some.injEq] at h
    subst h
    simp only[Conc] at hx hy
    first|subst hx|obtain ⟨_,rfl,_⟩:=hx|obtain ⟨_,_,rfl,_⟩:=hx
    first|subst hy|obtain ⟨_,rfl,_⟩:=hy|obtain ⟨_,_,rfl,_⟩:=hy
    simp only[Op.equalIn,Sem.run_bind,run_und hE hr w,Result.andThen_ok,hd]
    rfl
theorem guard_ok{op:BinOp}{t:TypeId}{ox oy:Operand}{a b:AV}{c:Bool}(h:eqOf E t a b=some c){x y:Value}(hx:Conc γ a x)(hy:Conc γ b y) :
  (eqGuard op t ox oy x y).run P w=.ok () w:=by
 unfold eqOf at h
 cases hr:E.ty t with
 | none=>rw[hr] at h;cases h
 | some r=>
   rw[hr] at h
   simp only[] at h
   unfold eqGuard
   split at h
   case h_16=>cases h
   case h_15=>
    simp only[Conc] at hx hy
    obtain ⟨x,rfl,hx⟩:=hx
    obtain ⟨y,rfl,hy⟩:=hy
    split at h
    ·rename_i n hf
     have hg:=hE.guard t r n hr hf
     split<;>simp[hg]
    ·cases h
   all_goals
    simp only[Conc] at hx hy
    first|subst hx|obtain ⟨_,rfl,_⟩:=hx|obtain ⟨_,_,rfl,_⟩:=hx
    first|subst hy|obtain ⟨_,rfl,_⟩:=hy|obtain ⟨_,_,rfl,_⟩:=hy
    split<;>rfl
theorem binOp_eql{t:TypeId}{a b:AV}{c:Bool}(h:eqOf E t a b=some c){x y:Value}(hx:Conc γ a x)(hy:Conc γ b y) :
  (binOp .eql t x y).run P w=.ok (.bool c) w∧(binOp .neq t x y).run P w=.ok (.bool (!c)) w:=by
 have he:=eqOf_ok hE (w:=w) h hx hy
 unfold eqOf at h
 cases hr:E.ty t with
 | none=>rw[hr] at h;cases h
 | some r=>
   rw[hr] at h
   simp only[] at h
   split at h
   case h_16=>cases h
   all_goals
    simp only[Conc] at hx hy
    first|subst hx|obtain ⟨_,rfl,_⟩:=hx|obtain ⟨_,_,rfl,_⟩:=hx
    first|subst hy|obtain ⟨_,rfl,_⟩:=hy|obtain ⟨_,_,rfl,_⟩:=hy
    simp only[binOp,Sem.run_bind,he,Result.andThen_ok,Sem.run_pure,and_self]
theorem binA_ok{op:BinOp}{t:TypeId}{ox oy:Operand}{a b v:AV}(h:binA E op t a b=some v){x y:Value}(hx:Conc γ a x)(hy:Conc γ b y) :
  ∃u,(do eqGuard op t ox oy x y;binOp op t x y:Sem Value).run P w=.ok u w∧Conc γ v u:=by
 unfold binA at h
 split at h
 ·rename_i k1 n1 k2 n2
  rw[conc_lit_iff] at hx hy;subst hx hy
  obtain ⟨u,hu,rfl⟩:=semVal_some h
  refine ⟨u,?_,conc_lit γ u⟩
  have:(eqGuard op t ox oy (.int k1 n1) (.int k2 n2))=pure ():=by unfold eqGuard;split<;>rfl
  rw[this,hu]
  rfl
 ·rename_i s1 s2
  rw[conc_lit_iff] at hx hy;subst hx hy
  obtain ⟨u,hu,rfl⟩:=semVal_some h
  refine ⟨u,?_,conc_lit γ u⟩
  have:(eqGuard op t ox oy (.string s1) (.string s2))=pure ():=by unfold eqGuard;split<;>rfl
  rw[this,hu]
  rfl
 ·split at h
  ·obtain ⟨c,hc,rfl⟩:=Option.map_eq_some_iff.1 h
   refine ⟨_,?_,conc_lit γ _⟩
   simp only[Sem.run_bind,guard_ok hE hc hx hy,Result.andThen_ok,(binOp_eql hE hc hx hy).1]
  ·obtain ⟨c,hc,rfl⟩:=Option.map_eq_some_iff.1 h
   refine ⟨_,?_,conc_lit γ _⟩
   simp only[Sem.run_bind,guard_ok hE hc hx hy,Result.andThen_ok,(binOp_eql hE hc hx hy).2]
  ·cases h
omit hE in
theorem unA_ok{op:UnOp}{a v:AV}(h:unA op a=some v){x:Value}(hx:Conc γ a x):∃u,(Op.unary op x).run P w=.ok u w∧Conc γ v u:=by
 unfold unA at h
 split at h
 ·rw[conc_lit_iff] at hx;subst hx
  obtain ⟨u,hu,rfl⟩:=semVal_some h
  exact ⟨u,by rw[hu];rfl,conc_lit γ u⟩
 ·cases h
def OptRel(γ:Gam):Option AV→Option Value→Prop
 | none,none=>True
 | some v,some x=>Conc γ v x
 | _,_=>False
omit hE in
theorem bound_ok{v:AV}{x:Value}{n y:Nat}{code:BoundsCode}(hn:natOf v=some n)(hx:Conc γ v x)(hle:n≤y):(Instr.sliceBound x y code).run P w=.ok n w:=by
 obtain ⟨k,rfl⟩:=natOf_some hn hx
 unfold Instr.sliceBound
 have:(0≤(n:Int)∧(n:Int)≤(y:Int)):=⟨by omega,by omega⟩
 simp[asIntOf,this]
omit hE in
theorem natLe_ok{v:AV}{x:Value}{n top y:Nat}{code:BoundsCode}(hn:natLe v top=some n)(hx:Conc γ v x)(hle:top≤y):(Instr.sliceBound x y code).run P w=.ok n w∧n≤top:=by
 unfold natLe at hn
 split at hn
 ·rename_i k hk
  split at hn
  ·rename_i hb
   simp only[Option.some.injEq] at hn
   subst hn
   have hb:=Nat.le_of_ble_eq_true hb
   exact ⟨bound_ok hk hx (Nat.le_trans hb hle),hb⟩
  ·cases hn
 ·cases hn
omit hE in
theorem bounds_ok{isSlice:Bool}{len c:Nat}{cap:Option Nat}{lo hi mx:Option AV}{l h:Nat}{m:Option Nat}(hb:boundsA len cap lo hi mx=some (l,h,m))
  (hc:cap=some c∨(cap=none∧len≤c)) (hle:len≤c) {lo' hi' mx':Option Value} (h1:OptRel γ lo lo') (h2:OptRel γ hi hi') (h3:OptRel γ mx mx') :
  ∃mm,(Instr.sliceBounds isSlice len c lo' hi' mx').run P w=.ok (l,h,mm) w∧l≤h∧((∃k,m=some k∧mm=k)∨(m=none∧cap=none∧mm=c))∧h≤mm∧mm≤c:=by
 unfold boundsA at hb
 have hlc:topOf len cap≤c:=by
  rcases hc with rfl|⟨rfl,hle⟩
  ·exact Nat.le_refl _
  ·exact hle
 cases hm':endA len cap mx with
 | none=>rw[hm'] at hb;cases hb
 | some m'=>
   rw[hm'] at hb
   simp only[] at hb
   have hmx:∃mm,((match mx' with
     | some v=>Instr.sliceBound v c (if isSlice then .slice3Acap else .slice3Alen)
     | none=>pure c:Sem Nat).run P w=.ok mm w)∧mm≤c∧((∃k,m'=some k∧mm=k)∨(m'=none∧cap=none∧mm=c))∧(mx=none→mm=c):=by
    cases mx with
    | none=>
      cases mx' with
      | some _=>exact h3.elim
      | none=>
        simp only[endA,Option.some.injEq] at hm'
        subst hm'
        refine ⟨c,rfl,Nat.le_refl _,?_,fun _=>rfl⟩
        rcases hc with e|⟨e,_⟩
        ·exact .inl ⟨c,e,rfl⟩
        ·exact .inr ⟨e,e,rfl⟩
    | some v=>
      cases mx' with
      | none=>exact h3.elim
      | some x=>
        simp only[endA] at hm'
        split at hm'
        ·rename_i k hk
         simp only[Option.some.injEq] at hm'
         subst hm'
         have:=natLe_ok (P:=P) (w:=w) (code:=if isSlice then .slice3Acap else .slice3Alen) hk h3 hlc
         exact ⟨k,this.1,Nat.le_trans this.2 hlc,.inl ⟨k,rfl,rfl⟩,fun e=>by cases e⟩
        ·cases hm'
   obtain ⟨mm,hmr,hmc,hmm,hmn⟩:=hmx
   have htop:topOf len m'≤mm:=by
    rcases hmm with ⟨k,rfl,rfl⟩|⟨rfl,hn,rfl⟩
    ·exact Nat.le_refl _
    ·rw[hn] at hlc;exact hlc
   cases hh':highA len m' hi mx with
   | none=>rw[hh'] at hb;cases hb
   | some h'=>
     rw[hh'] at hb
     simp only[] at hb
     have hhx:((match hi',mx' with
       | some v,some _=>Instr.sliceBound v mm .slice3B
       | some v,none=>Instr.sliceBound v mm (if isSlice then .sliceAcap else .sliceAlen)
       | none,none=>pure len
       | none,some _=>stuck "Slice: max without high":Sem Nat).run P w=.ok h' w)∧h'≤mm:=by
      cases hi with
      | some v=>
        cases hi' with
        | none=>exact h2.elim
        | some x=>
          simp only[highA] at hh'
          cases mx' with
          | none=>
            have:=natLe_ok (P:=P) (w:=w) (code:=if isSlice then .sliceAcap else .sliceAlen) hh' h2 htop
            exact ⟨this.1,Nat.le_trans this.2 htop⟩
          | some _=>
            have:=natLe_ok (P:=P) (w:=w) (code:=.slice3B) hh' h2 htop
            exact ⟨this.1,Nat.le_trans this.2 htop⟩
      | none=>
        cases hi' with
        | some _=>exact h2.elim
        | none=>
          cases mx with
          | some _=>simp[highA] at hh'
          | none=>
            cases mx' with
            | some _=>exact h3.elim
            | none=>
              simp only[highA,Option.some.injEq] at hh'
              subst hh'
              exact ⟨rfl,by rw[hmn rfl];exact hle⟩
     obtain ⟨hhr,hhm⟩:=hhx
     cases hl':lowA h' lo with
     | none=>rw[hl'] at hb;cases hb
     | some l'=>
       rw[hl'] at hb
       simp only[Option.some.injEq,Prod.mk.injEq] at hb
       obtain ⟨rfl,rfl,rfl⟩:=hb
       have hlx:((match lo' with
         | some v=>Instr.sliceBound v h' (if mx'.isSome then .slice3C else .sliceB)
         | none=>pure 0:Sem Nat).run P w=.ok l' w)∧l'≤h':=by
        cases lo with
        | some v=>
          cases lo' with
          | none=>exact h1.elim
          | some x=>
            simp only[lowA] at hl'
            exact natLe_ok hl' h1 (Nat.le_refl _)
        | none=>
          cases lo' with
          | some _=>exact h1.elim
          | none=>
            simp only[lowA,Option.some.injEq] at hl'
            subst hl'
            exact ⟨rfl,Nat.zero_le _⟩
       refine ⟨mm,?_,hlx.2,hmm,hhm,hmc⟩
       unfold Instr.sliceBounds
       clear hh' hm' hl'
       cases mx'<;>cases hi'<;>cases lo'<;>simp only[Sem.run_pure,Result.ok.injEq,and_true] at hmr hhr hlx <;>
        first
         | (simp only[Sem.run_bind,hmr,hhr,hlx.1,Result.andThen_ok,Sem.run_pure];done)
         | (subst hmr;simp only[Sem.run_bind,hhr,hlx.1,Result.andThen_ok,Sem.run_pure];done)
         | (subst hmr hhr;simp only[Sem.run_bind,hlx.1,Result.andThen_ok,Sem.run_pure];done)
         | (simp only[Sem.run_bind,hmr,hhr,hlx.1,Result.andThen_ok,Sem.run_pure];rfl)
         | trace_state
end
end Go.Proofs.YtmbdghclhpboaaaGreat.Ev
namespace Go.Proofs.YtmbdghclhpboaaaGreat.Ev
theorem run_mapM_list{P:Program}{w:World}{α β:Type}(f:α→Sem β)(g:α→β):∀(l:List α),(∀a∈l,(f a).run P w=.ok (g a) w)→(l.mapM f).run P w=.ok (l.map g) w
 | [],_=>by simp
 | a::l,h=>by
   simp only[List.mapM_cons,Sem.run_bind,h a (by simp),Result.andThen_ok,run_mapM_list f g l (fun b hb=>h b (by simp[hb])),Sem.run_pure,List.map_cons]
theorem run_mapM_array{P:Program}{w:World}{α β:Type}(f:α→Sem β)(g:α→β)(l:Array α)(h:∀a∈l,(f a).run P w=.ok (g a) w):(l.mapM f).run P w=.ok (l.map g) w:=by
 rw[Array.mapM_eq_mapM_toList,Sem.run_map,run_mapM_list f g l.toList (fun a ha=>h a (by simpa using ha)),Result.andThen_ok]
 congr 1
 apply Array.ext'
 simp
theorem setFrom_get{α:Type}(l vs:List α)(off i:Nat)(h:off+vs.length≤l.length):(setFrom l off vs)[i]?=if off≤i∧i<off+vs.length then vs[i - off]? else l[i]?:=by
 unfold setFrom
 by_cases h1:i<off
 ·rw[if_neg (by omega),List.append_assoc,List.getElem?_append_left (by simp;omega),List.getElem?_take,if_pos h1]
 ·by_cases h2:i<off+vs.length
  ·rw[if_pos ⟨by omega,h2⟩,List.getElem?_append_left (by simp;omega),List.getElem?_append_right (by simp;omega)]
   simp only[List.length_take]
   rw[Nat.min_eq_left (by omega)]
  ·rw[if_neg (by omega),List.getElem?_append_right (by simp;omega)]
   simp only[List.length_append,List.length_take]
   rw[Nat.min_eq_left (by omega),List.getElem?_drop]
   congr 1
   omega
theorem setFrom_length{α:Type}(l vs:List α)(off:Nat)(h:off+vs.length≤l.length):(setFrom l off vs).length=l.length:=by
 unfold setFrom
 simp
 omega
theorem foldl_set{α:Type}:∀(vs:List α) (k:Nat) (off:Nat) (cells:Array α),off+k+vs.length≤cells.size →
  ((vs.zipIdx k).foldl (fun cs (c,j)=>cs.setIfInBounds (off+j) c) cells).toList=setFrom cells.toList (off+k) vs
 | [],k,off,cells,_=>by simp[setFrom]
 | v::vs,k,off,cells,h=>by
   simp only[List.zipIdx_cons,List.foldl_cons]
   have h':off+k+(vs.length+1)≤cells.size:=by simpa using h
   rw[foldl_set vs (k+1) off _ (by simp;omega)]
   simp only[Array.toList_setIfInBounds]
   have hsz:cells.toList.length=cells.size:=by simp
   apply List.ext_getElem?
   intro i
   rw[setFrom_get _ _ _ _ (by rw[List.length_set,hsz];omega),setFrom_get _ _ _ _ (by rw[hsz,List.length_cons];omega)]
   rw[List.length_cons]
   by_cases h1:off+(k+1)≤i∧i<off+(k+1)+vs.length
   ·rw[if_pos h1,if_pos (by omega),show i - (off+k)=(i - (off+(k+1)))+1 by omega,List.getElem?_cons_succ]
   ·rw[if_neg h1]
    by_cases h2:i=off+k
    ·subst h2
     rw[if_pos (by omega),List.getElem?_set_self (by rw[hsz];omega),Nat.sub_self]
     rfl
    ·rw[if_neg (by omega),List.getElem?_set_ne (by omega)]
theorem fill_ok{γ:Gam}(place:Nat→Option (Nat×Nat)):∀(parts:List (Nat×AV)) (parts':List (Nat×Value)) (cells:List AV) (cells':Array Value) (out:List AV),
  parts'.length=parts.length→(∀(i:Nat) (p:Nat×AV),parts[i]?=some p→∃x,parts'[i]?=some (p.1,x)∧Conc γ p.2 x)→Concs γ cells cells'.toList→fillA place cells parts=some out →
  ∃out',Instr.fill place cells' parts'=some out'∧Concs γ out out'.toList
 | [],parts',cells,cells',out,hl,_,hc,h=>by
   have:parts'=[]:=List.eq_nil_of_length_eq_zero (by simpa using hl)
   subst this
   simp only[fillA,Option.some.injEq] at h
   subst h
   exact ⟨cells',rfl,hc⟩
 | (i,v)::rest,parts',cells,cells',out,hl,hp,hc,h=>by
   obtain ⟨x,hx,hcx⟩:=hp 0 (i,v) rfl
   cases parts' with
   | nil=>simp at hl
   | cons q rest'=>
     simp only[List.getElem?_cons_zero,Option.some.injEq] at hx
     subst hx
     unfold fillA at h
     unfold Instr.fill
     cases hpl:place i with
     | none=>rw[hpl] at h;cases h
     | some os=>
       obtain ⟨off,size⟩:=os
       rw[hpl] at h
       simp only[] at h ⊢
       have hvc:=conc_cells hcx
       have hvl:x.cells.size=v.cells.length:=by simpa using concs_length hvc
       have hcl:cells'.size=cells.length:=by simpa using concs_length hc
       split at h
       ·rename_i hb
        rw[Bool.and_eq_true] at hb
        have h1:=Nat.eq_of_beq_eq_true hb.1
        have h2:=Nat.le_of_ble_eq_true hb.2
        have hne:¬((decide (x.cells.size≠size) || decide (off+x.cells.size>cells'.size))=true):=by simp;omega
        rw[if_neg hne]
        refine fill_ok place rest rest' _ _ out (by simpa using hl) (fun j p hj=>by simpa using hp (j+1) p (by simpa using hj)) ?_ h
        have hf:=foldl_set x.cells.toList 0 off cells' (by simp;omega)
        rw[←Array.foldl_toList,Array.toList_zipIdx]
        rw[hf]
        exact concs_setFrom hc hvc off
       ·cases h
theorem rep_ok{α:Type}[Inhabited α](z:Array α)(s:Nat)(hz:z.size=s):∀n,((Array.range (n * s)).map (z[· % z.size]!)).toList=rep n z.toList:=by
 intro n
 have key:∀n,∀i,(rep n z.toList)[i]?=if i<n * s then z[i % s]? else none:=by
  intro n
  induction n with
  | zero=>intro i;simp[rep]
  | succ n ih=>
    intro i
    simp only[rep]
    by_cases h1:i<s
    ·rw[List.getElem?_append_left (by simp;omega),if_pos (by rw[Nat.succ_mul];omega),Nat.mod_eq_of_lt h1]
     simp
    ·rw[List.getElem?_append_right (by simp;omega),ih]
     have e:z.toList.length=s:=by simpa using hz
     rw[e,Nat.succ_mul]
     by_cases h2:i - s<n * s
     ·rw[if_pos h2,if_pos (by omega)]
      rw[Nat.mod_eq_sub_mod (by omega:i≥s)]
     ·rw[if_neg h2,if_neg (by omega)]
 apply List.ext_getElem?
 intro i
 rw[key]
 simp only[Array.toList_map,Array.toList_range,List.getElem?_map]
 by_cases h:i<n * s
 ·rw[if_pos h,List.getElem?_range h]
  have hs:0<s:=by
   rcases Nat.eq_zero_or_pos s with e|e
   ·subst e;simp at h
   ·exact e
  have hm:i % s<z.size:=by rw[hz];exact Nat.mod_lt _ hs
  simp only[Option.map_some,hz]
  rw[getElem!_pos z (i % s) hm,Array.getElem?_eq_getElem hm]
 ·rw[if_neg h]
  simp[List.getElem?_eq_none (by simpa using h:(List.range (n * s)).length≤i)]
theorem concs_rep{γ:Gam}{l:List AV}{xs:List Value}(h:Concs γ l xs):∀n,Concs γ (rep n l) (rep n xs)
 | 0=>by simp[rep,Concs]
 | n+1=>concs_append h (concs_rep h n)
theorem entRel_length{γ:Gam}:∀{es:List (AV×AV×Nat)} {es':List MapEntry},EntRel γ es es'→es'.length=es.length
 | [],_,h=>by simp only[EntRel] at h;simp[h]
 | (k,v,b)::es,_,h=>by
   simp only[EntRel] at h
   obtain ⟨k',v',rest,rfl,_,_,h⟩:=h
   simp[entRel_length h]
theorem entRel_get{γ:Gam}:∀{es:List (AV×AV×Nat)} {es':List MapEntry},EntRel γ es es'→∀(i:Nat) (e:AV×AV×Nat),es[i]?=some e→∃k v,es'[i]?=some ⟨k,v,e.2.2⟩∧Conc γ e.1 k∧Conc γ e.2.1 v
 | [],_,_,i,e,he=>by simp at he
 | (k,v,b)::es,_,h,i,e,he=>by
   simp only[EntRel] at h
   obtain ⟨k',v',rest,rfl,h1,h2,h⟩:=h
   cases i with
   | zero=>simp only[List.getElem?_cons_zero,Option.some.injEq] at he;subst he;exact ⟨k',v',rfl,h1,h2⟩
   | succ i=>simpa using entRel_get h i e (by simpa using he)
theorem entRel_mono{γ γ':Gam}(hx:Ext γ γ'):∀{es:List (AV×AV×Nat)} {es':List MapEntry},EntRel γ es es'→EntRel γ' es es'
 | [],_,h=>by simpa only[EntRel] using h
 | (k,v,b)::es,_,h=>by
   simp only[EntRel] at h ⊢
   obtain ⟨k',v',rest,rfl,h1,h2,h⟩:=h
   exact ⟨k',v',rest,rfl,h1.mono hx _ _,h2.mono hx _ _,entRel_mono hx h⟩
theorem entRel_append{γ:Gam}:∀{es fs:List (AV×AV×Nat)} {es' fs':List MapEntry},EntRel γ es es'→EntRel γ fs fs'→EntRel γ (es++fs) (es'++fs')
 | [],_,_,_,h,h'=>by simp only[EntRel] at h;subst h;simpa using h'
 | (k,v,b)::es,_,_,_,h,h'=>by
   simp only[EntRel] at h
   obtain ⟨k',v',rest,rfl,h1,h2,h⟩:=h
   simp only[List.cons_append,EntRel]
   exact ⟨k',v',_,rfl,h1,h2,entRel_append h h'⟩
section
variable{P:Program}{E:Env}(hE:EnvOk P E){γ:Gam}{σ:AS}{w:World}
include hE
theorem build_ok{ty:TypeId}{is:List Nat}{os:List Operand}{vs:List AV}{ρ:Operand→Value}{parts:Array (Nat×Operand)}{v:AV}{r:TyRow}{z:Value}
  (hr:E.ty ty=some r) (hz:r.info.zero=some z) (hp:Concs γ vs (parts.toList.map (fun p=>ρ p.2)))
  (h:(match r.und with
    | .struct fs=>match places E fs.toList with
      | some ps=>(fillA (ps[·]?) (ofValue z).cells ((parts.toList.map (·.1)).zip vs)).map fun l=>AV.agg l
      | none=>none
    | .array _ elem=>match E.ty elem with
      | some er=>(fillA (fun i=>some (i * er.info.size,er.info.size)) (ofValue z).cells ((parts.toList.map (·.1)).zip vs)).map fun l=>AV.agg l
      | none=>none
    | _=>none)=some v) :
  ∃x,(Instr.build ty (parts.map fun (i,x)=>(i,ρ x))).run P w=.ok x w∧Conc γ v x:=by
 have hlen:vs.length=parts.toList.length:=by have:=concs_length hp;simpa using this.symm
 have hparts:∀(i:Nat) (p:Nat×AV),((parts.toList.map (·.1)).zip vs)[i]?=some p→∃x,((parts.map fun (i,x)=>(i,ρ x)).toList)[i]?=some (p.1,x)∧Conc γ p.2 x:=by
  intro i p hi
  rw[List.getElem?_zip_eq_some] at hi
  obtain ⟨h1,h2⟩:=hi
  obtain ⟨x,hx,hc⟩:=concs_get hp i p.2 h2
  refine ⟨x,?_,hc⟩
  simp only[List.getElem?_map,Option.map_eq_some_iff,Array.toList_map] at h1 hx ⊢
  obtain ⟨q,hq,e⟩:=h1
  obtain ⟨q',hq',e'⟩:=hx
  rw[hq] at hq'
  cases hq'
  exact ⟨q,hq,by rw[←e,←e']⟩
 have hl2:(parts.map fun (i,x)=>(i,ρ x)).toList.length=((parts.toList.map (·.1)).zip vs).length:=by simp[hlen]
 have hzc:Concs γ (ofValue z).cells z.cells.toList:=conc_cells (conc_ofValue γ z)
 unfold Instr.build
 simp only[Sem.run_bind,run_zero hE hr w hz,Result.andThen_ok,run_und hE hr w]
 split at h
 ·rename_i fs hd
  split at h
  ·rename_i ps hps
   obtain ⟨l,hf,rfl⟩:=Option.map_eq_some_iff.1 h
   have hpl:∀(fl:List Field) (ps:List (Nat×Nat)),places E fl=some ps→(∀f∈fl,∀w,(do pure (f.offset,←Go.sizeOf f.type):Sem (Nat×Nat)).run P w=.ok (f.offset,((E.ty f.type).map (·.info.size)).getD 0) w)∧ps=fl.map fun f=>(f.offset,((E.ty f.type).map (·.info.size)).getD 0):=by
    intro fl
    induction fl with
    | nil=>intro ps h;simp only[places,List.map_nil,allSome,Option.some.injEq] at h;subst h;simp
    | cons f fl ih=>
      intro ps h
      simp only[places,List.map_cons] at h
      cases hf:E.ty f.type with
      | none=>rw[hf] at h;simp[allSome] at h
      | some fr=>
        rw[hf] at h
        simp only[Option.map_some,allSome] at h
        split at h
        ·rename_i ps' hps'
         simp only[Option.some.injEq] at h
         subst h
         obtain ⟨i1,i2⟩:=ih ps' hps'
         refine ⟨?_,by simp[hf,i2]⟩
         intro g hg w
         rcases List.mem_cons.1 hg with rfl|hg
         ·simp[run_size hE hf,hf]
         ·exact i1 g hg w
        ·cases h
   obtain ⟨p1,p2⟩:=hpl fs.toList ps hps
   obtain ⟨out',ho,hc⟩:=fill_ok (fun i:Nat=>ps[i]?) _ _ _ _ _ hl2 hparts hzc hf
   have hm:=run_mapM_array (P:=P) (w:=w) (fun f:Field=>(do pure (f.offset,←Go.sizeOf f.type):Sem (Nat×Nat))) (fun f=>(f.offset,((E.ty f.type).map (·.info.size)).getD 0)) fs (fun f hf=>p1 f (by simpa using hf) w)
   have hfun:(fun (i:Nat)=>(fs.map fun f=>(f.offset,((E.ty f.type).map (·.info.size)).getD 0))[i]?)=fun (i:Nat)=>ps[i]?:=by
    funext i
    rw[p2]
    simp
   rw[hd]
   refine ⟨.agg out',?_,by simp only[Conc];exact ⟨_,rfl,hc⟩⟩
   simp only[]
   rw[Sem.run_bind,hm,Result.andThen_ok,hfun,ho]
   rfl
  ·cases h
 ·rename_i n elem hd
  split at h
  ·rename_i er her
   obtain ⟨l,hf,rfl⟩:=Option.map_eq_some_iff.1 h
   obtain ⟨out',ho,hc⟩:=fill_ok _ _ _ _ _ _ hl2 hparts hzc hf
   rw[hd]
   simp only[Sem.run_bind,run_size hE her w,Result.andThen_ok,ho,Sem.run_pure]
   exact ⟨_,rfl,by simp only[Conc];exact ⟨_,rfl,hc⟩⟩
  ·cases h
 ·cases h
end
end Go.Proofs.YtmbdghclhpboaaaGreat.Ev

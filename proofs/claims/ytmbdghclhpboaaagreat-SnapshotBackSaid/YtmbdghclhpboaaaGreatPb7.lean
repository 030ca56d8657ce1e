/- Part of the proof: EvM. Conditions: as each states. -/
import Derived.Test.YtmbdghclhpboaaaGreatPb6
set_option linter.all false
namespace Go.Proofs.YtmbdghclhpboaaaGreat.Ev
theorem turn_row(w:World)(b:Nat)(cs:Array Value):Turn b w (w.setRow b cs):=
 ⟨rfl,rfl,rfl,by simp[World.setRow],fun c h=>setRow_other w b c cs h⟩
theorem set_cells{P:Program}{γ:Gam}{w:World}{l vs:List AV}{elem:TypeId}{p:Place}{ys:List Value}{off:Nat}(h:ObjRel γ (.cells l elem) p w)(hl:off+vs.length≤l.length)
  (hv:Concs γ vs ys) (h1:vs.all AV.one=true) :
  ∃w',(storeCells ⟨p.block,p.base+off,none⟩ ys).run P w=.ok () w'∧ObjRel γ (.cells (setFrom l off vs) elem) p w'∧Turn p.block w w':=by
 obtain ⟨c,hb,⟨hs,hfx⟩,hlen,hc⟩:=h
 have hyl:=concs_length hv
 have hone:∀y∈ys,y.oneCell'=true:=by
  intro y hy
  obtain ⟨i,hi,e⟩:=List.mem_iff_getElem.1 hy
  have hvi:i<vs.length:=by omega
  obtain ⟨x,hx,hcx⟩:=concs_get hv i vs[i] (by simp[hvi])
  rw[List.getElem?_eq_getElem hi,e] at hx
  cases hx
  exact conc_one hcx (List.all_eq_true.1 h1 _ (List.getElem_mem hvi))
 have hrun:=run_storeCells_at (P:=P) p.block (p.base+off) elem ys 0 c w hb (by omega) hone
 refine ⟨_,hrun,?_,turn_row w p.block _⟩
 rw[Nat.add_zero]
 have hto:(c.toList.take (p.base+off)++ys++c.toList.drop (p.base+off+ys.length))=setFrom c.toList (p.base+off) ys:=rfl
 rw[hto]
 have hcl:c.toList.length=c.size:=by simp
 refine ⟨_,setRow_heap w p.block c _ elem _ hb,?_,?_,?_⟩
 ·simp only[List.size_toArray]
  rw[setFrom_length _ _ _ (by rw[hcl];omega),hcl,hs]
  exact ⟨rfl,fun h=>by rw[setFrom_length _ _ _ hl];exact hfx h⟩
 ·rw[setFrom_length _ _ _ hl];exact hlen
 ·intro i v hiv
  rw[setFrom_get _ _ _ _ hl] at hiv
  simp only[List.getElem?_toArray]
  rw[setFrom_get _ _ _ _ (by rw[hcl];omega)]
  by_cases hin:off≤i∧i<off+vs.length
  ·rw[if_pos hin] at hiv
   rw[if_pos (by omega)]
   obtain ⟨x,hx,hcx⟩:=concs_get hv _ v hiv
   exact ⟨x,by rw[show p.base+i - (p.base+off)=i - off by omega];exact hx,hcx⟩
  ·rw[if_neg hin] at hiv
   rw[if_neg (by omega)]
   obtain ⟨x,hx,hcx⟩:=hc i v hiv
   exact ⟨x,by simpa using hx,hcx⟩
theorem RelL.store{F:Frz}{P:Program}{γ:Gam}{σ:AS}{w:World}(h:RelL F γ σ w){o off:Nat}{a:Addr}{l vs:List AV}{elem:TypeId}{ys:List Value}(hg:σ.heap.get o=some (.cells l elem))(ha:atP γ o off a)
  (hl:off+vs.length≤l.length) (hv:Concs γ vs ys) (h1:vs.all AV.one=true) :
  ∃w',(storeCells a ys).run P w=.ok () w'∧RelL F γ { σ with heap:=σ.heap.put o (.cells (setFrom l off vs) elem) } w'∧Step γ σ γ { σ with heap:=σ.heap.put o (.cells (setFrom l off vs) elem) }:=by
 obtain ⟨p,hp,hob⟩:=h.find hg (by simp) ha.ne
 obtain rfl:=ha.at hp
 obtain ⟨w',h2,h3,h4⟩:=set_cells (P:=P) hob hl hv h1
 exact ⟨w',h2,h.set hp (by simp) h3 h4,Step.set h _ hp⟩
theorem RelL.entries{F:Frz}{P:Program}{γ:Gam}{σ:AS}{w:World}(h:RelL F γ σ w){o r:Nat}{es fs:List (AV×AV×Nat)}{clock clock':Nat}(hg:σ.heap.get o=some (.map es clock))(hr:mapP γ o r) :
  ∃es':Array MapEntry,w.heap[r]?=some (.map es' clock)∧EntRel γ es es'.toList∧∀fs':Array MapEntry,EntRel γ fs fs'.toList →
   (Go.setObj r (.map fs' clock')).run P w=.ok () { w with heap:=w.heap.setIfInBounds r (.map fs' clock') }∧RelL F γ { σ with heap:=σ.heap.put o (.map fs clock') } { w with heap:=w.heap.setIfInBounds r (.map fs' clock') } ∧
   Step γ σ γ { σ with heap:=σ.heap.put o (.map fs clock') }:=by
 obtain ⟨p,hp,es',hb,he⟩:=h.find hg (by simp) hr.ne
 obtain rfl:=hr.at hp
 refine ⟨es',hb,he,fun fs' hf=>⟨?_,h.set hp (by simp) ⟨fs',?_,hf⟩ ?_,Step.set h _ hp⟩⟩
 ·simp[Go.setObj,Sem.run,hb]
 ·have:=(Array.getElem?_eq_some_iff.1 hb).1
  simp[this]
 ·exact turn_set w p.block _
end Go.Proofs.YtmbdghclhpboaaaGreat.Ev
namespace Go.Proofs.YtmbdghclhpboaaaGreat.Ev
theorem findA_get{d:TypeDesc}{k:AV}:∀(es:List (AV×AV×Nat)) (i j:Nat) (v:AV),findA d k es i=some (some (j,v))→i≤j∧∃k' b,es[j - i]?=some (k',v,b)∧keyEq d k k'=some true
 | [],i,j,v,h=>by simp[findA] at h
 | (k',u,b)::es,i,j,v,h=>by
   simp only[findA] at h
   split at h
   ·rename_i hk
    simp only[Option.some.injEq,Prod.mk.injEq] at h
    obtain ⟨rfl,rfl⟩:=h
    exact ⟨Nat.le_refl _,k',b,by simp,hk⟩
   ·obtain ⟨h1,k2,b2,h2,h3⟩:=findA_get es (i+1) j v h
    refine ⟨by omega,k2,b2,?_,h3⟩
    rw[show j - i=(j - (i+1))+1 by omega]
    simpa using h2
   ·cases h
theorem bytes_eq{a b:ByteArray}(h:(a==b)=true):a=b:=by
 cases a;cases b
 simp only[BEq.beq] at h
 unfold ByteArray.beq at h
 simp at h
 rw[h]
theorem bytes_beq(a:ByteArray):(a==a)=true:=by
 cases a
 simp only[BEq.beq]
 unfold ByteArray.beq
 simp
theorem sameBits_symm_scalar{a b:Value}(h:scalarEq a b=some true)(n:Nat):Instr.sameBits n b a=true:=by
 unfold scalarEq at h
 split at h
 ·simp only[Option.some.injEq,beq_iff_eq] at h;subst h;unfold Instr.sameBits;simp
 ·split at h
  ·rename_i hk
   simp only[Option.some.injEq,beq_iff_eq] at h;subst hk h;unfold Instr.sameBits;simp
  ·cases h
 ·rename_i a b
  simp only[Option.some.injEq,beq_iff_eq] at h
  have:a=b:=by
   cases a;cases b
   congr 1
   exact Array.toList_inj.1 h
  subst this
  unfold Instr.sameBits
  exact bytes_beq a
 ·cases h
theorem flat_bits:∀{xs ys:List Value} (_:flatEq (xs.map .lit) (ys.map .lit)=some true) (n:Nat),ys.length=xs.length∧((ys.zip xs).all fun (x,y)=>Instr.sameBits n x y)=true
 | [],[],_,_=>by simp
 | [],_::_,h,_=>by simp[flatEq] at h
 | _::_,[],h,_=>by simp[flatEq] at h
 | x::xs,y::ys,h,n=>by
   simp only[List.map_cons,flatEq] at h
   split at h
   ·rename_i p q hp hq
    simp only[Option.some.injEq,Bool.and_eq_true] at h
    obtain ⟨rfl,rfl⟩:=h
    obtain ⟨h1,h2⟩:=flat_bits hq n
    exact ⟨by simp[h1],by simp only[List.zip_cons_cons,List.all_cons,Bool.and_eq_true];exact ⟨sameBits_symm_scalar hp n,h2⟩⟩
   ·cases h
theorem key_bits{γ:Gam}{d:TypeDesc}{a b:AV}{x y:Value}(h:keyEq d a b=some true)(hx:Conc γ a x)(hy:Conc γ b y):Instr.sameBits 10000 y x=true:=by
 have hmax:(10000:Nat)=9999+1:=rfl
 rw[hmax]
 generalize 9999=n
 unfold keyEq at h
 split at h
 ·rw[conc_lit_iff] at hx hy;subst hx hy
  split at h
  ·rename_i hk;subst hk
   simp only[Option.some.injEq,beq_iff_eq] at h;subst h
   unfold Instr.sameBits;simp
  ·cases h
 ·rw[conc_lit_iff] at hx hy;subst hx hy
  simp only[Option.some.injEq] at h
  have h:=bytes_eq h;subst h
  unfold Instr.sameBits;exact bytes_beq _
 ·rw[conc_lit_iff] at hx hy;subst hx hy
  simp only[Option.some.injEq,beq_iff_eq] at h;subst h
  unfold Instr.sameBits;simp
 ·obtain ⟨⟨xs,rfl⟩,ys,rfl⟩:=flatEq_lits h
  simp only[Conc] at hx hy
  obtain ⟨p,rfl,hp⟩:=hx
  obtain ⟨q,rfl,hq⟩:=hy
  have e1:=concs_lits_eq hp
  have e2:=concs_lits_eq hq
  obtain ⟨h1,h2⟩:=flat_bits h n
  unfold Instr.sameBits
  simp only[Bool.and_eq_true,beq_iff_eq]
  rw[e1,e2]
  exact ⟨by rw[←Array.length_toList,←Array.length_toList,e1,e2];exact h1,h2⟩
 ·cases h
theorem entRel_setAt{γ:Gam}{k v:AV}{k' v':Value}(hk:Conc γ k k')(hv:Conc γ v v'):∀{es:List (AV×AV×Nat)} {es':List MapEntry} (i:Nat) {e:AV×AV×Nat},EntRel γ es es'→es[i]?=some e →
  EntRel γ (setAt es i (k,v,e.2.2)) (es'.modify i fun e=>{ e with key:=k',val:=v' })
 | [],_,i,e,_,h=>by simp at h
 | (k0,v0,b0)::es,_,i,e,h,he=>by
   simp only[EntRel] at h
   obtain ⟨k1,v1,rest,rfl,h1,h2,h⟩:=h
   cases i with
   | zero=>
     simp only[List.getElem?_cons_zero,Option.some.injEq] at he
     subst he
     simp only[setAt,EntRel,List.modify_zero_cons]
     exact ⟨k',v',rest,rfl,hk,hv,h⟩
   | succ i=>
     simp only[setAt,EntRel,List.modify_succ_cons]
     exact ⟨k1,v1,_,rfl,h1,h2,entRel_setAt hk hv i h (by simpa using he)⟩
theorem entRel_erase{γ:Gam}:∀{es:List (AV×AV×Nat)} {es':List MapEntry} (i:Nat),EntRel γ es es'→EntRel γ (es.eraseIdx i) (es'.eraseIdx i)
 | [],_,i,h=>by simp only[EntRel] at h;subst h;simp[EntRel]
 | (k0,v0,b0)::es,_,i,h=>by
   simp only[EntRel] at h
   obtain ⟨k1,v1,rest,rfl,h1,h2,h⟩:=h
   cases i with
   | zero=>simpa using h
   | succ i=>simp only[List.eraseIdx_cons_succ,EntRel];exact ⟨k1,v1,_,rfl,h1,h2,entRel_erase i h⟩
theorem entRel_filter{γ:Gam}(p:Nat→Bool):∀{es:List (AV×AV×Nat)} {es':List MapEntry},EntRel γ es es'→EntRel γ (es.filter fun e=>p e.2.2) (es'.filter fun e=>p e.born)
 | [],_,h=>by simp only[EntRel] at h;subst h;simp[EntRel]
 | (k0,v0,b0)::es,_,h=>by
   simp only[EntRel] at h
   obtain ⟨k1,v1,rest,rfl,h1,h2,h⟩:=h
   simp only[List.filter_cons]
   cases hp:p b0 with
   | true=>simp only[if_true,EntRel];exact ⟨k1,v1,_,rfl,h1,h2,entRel_filter p h⟩
   | false=>simpa using entRel_filter p h
theorem entRel_all{γ:Gam}(p:Nat→Bool):∀{es:List (AV×AV×Nat)} {es':List MapEntry},EntRel γ es es'→(es'.all fun e=>p e.born)=es.all fun e=>p e.2.2
 | [],_,h=>by simp only[EntRel] at h;subst h;simp
 | (k0,v0,b0)::es,_,h=>by
   simp only[EntRel] at h
   obtain ⟨k1,v1,rest,rfl,h1,h2,h⟩:=h
   simp only[List.all_cons,entRel_all p h]
theorem keyEq_scal{d:TypeDesc}{k:AV}{x y:Value}{b:Bool}{γ:Gam}(h:keyEq d k (ofValue y)=some b)(hk:Conc γ k x)(hy:scalK y=true):b=true↔x=y:=by
 cases y<;>simp only[scalK,Bool.false_eq_true] at hy<;>simp only[ofValue] at h<;>unfold keyEq at h<;>split at h
 all_goals first|(cases h;done)|skip
 all_goals first
  | (rename_i k1 u k2 v e
     cases e
     rw[conc_lit_iff] at hk
     subst hk
     split at h
     ·rename_i e
      cases h
      subst e
      simp
     ·cases h)
  | (rename_i u v e
     cases e
     rw[conc_lit_iff] at hk
     subst hk
     cases h
     simp;done)
  | (rename_i u v e
     cases e
     rw[conc_lit_iff] at hk
     subst hk
     cases h
     constructor
     ·intro e;rw[bytes_eq e]
     ·intro e;cases e;exact bytes_beq _)
  | (rename_i e;cases e)
theorem eraseIdx_mapped{α β:Type}(f:α→β):∀(l:List α) (i:Nat),(l.eraseIdx i).map f=(l.map f).eraseIdx i
 | [],_=>rfl
 | a::l,0=>rfl
 | a::l,i+1=>by simp[eraseIdx_mapped f l i]
theorem keyEq_both{d:TypeDesc}{k:AV}{x y:Value}{b:Bool}{γ:Gam}(h:keyEq d k (ofValue y)=some b)(hk:Conc γ k x)(hx:scalK x=true):scalK y=true:=by
 unfold keyEq at h
 split at h
 ·rename_i e
  cases y<;>first|rfl|cases e
 ·rename_i e
  cases y<;>first|rfl|cases e
 ·rename_i e
  cases y<;>first|rfl|cases e
 ·simp only[Conc] at hk
  obtain ⟨a,rfl,_⟩:=hk
  cases hx
 ·cases h
theorem esM_get{es:List (Value×Value)}{i:Nat}{k v:AV}{b:Nat}(h:(esM es)[i]?=some (k,v,b)):∃e,es[i]?=some e∧k=ofValue e.1∧v=ofValue e.2:=by
 unfold esM at h
 rw[List.getElem?_map] at h
 obtain ⟨e,h1,h2⟩:=Option.map_eq_some_iff.1 h
 cases h2
 exact ⟨e,h1,rfl,rfl⟩
theorem findA_none{d:TypeDesc}{k:AV}:∀(es:List (AV×AV×Nat)) (i:Nat),findA d k es i=some none→∀e∈es,keyEq d k e.1=some false
 | [],i,h=>by simp
 | (k',u,b)::es,i,h=>by
   simp only[findA] at h
   split at h
   ·cases h
   ·rename_i hk
    intro e he
    rcases List.mem_cons.1 he with rfl|he
    ·exact hk
    ·exact findA_none es (i+1) h e he
   ·cases h
theorem RelL.mentries{F:Frz}{P:Program}{γ:Gam}{σ:AS}{w:World}(h:RelL F γ σ w){o r:Nat}{es:List (Value×Value)}(hg:σ.heap.get o=some (.mrow es))(hr:mapP γ o r) :
  ∃(es':Array MapEntry) (clock:Nat),w.heap[r]?=some (.map es' clock)∧es'.toList.map (fun e=>(e.key,e.val))=es∧((∀e∈es,scalK e.1=true)→Go.MapKept.Stamped es' clock)∧∀(fs:List (Value×Value)) (fs':Array MapEntry) (clock':Nat),fs'.toList.map (fun e=>(e.key,e.val))=fs→((∀e∈fs,scalK e.1=true)→Go.MapKept.Stamped fs' clock') →
   (Go.setObj r (.map fs' clock')).run P w=.ok () { w with heap:=w.heap.setIfInBounds r (.map fs' clock') }∧RelL F γ { σ with heap:=σ.heap.put o (.mrow fs) } { w with heap:=w.heap.setIfInBounds r (.map fs' clock') } ∧
   Step γ σ γ { σ with heap:=σ.heap.put o (.mrow fs) }:=by
 obtain ⟨p,hp,es',clock,hb,he,hst⟩:=h.find hg (by simp) hr.ne
 obtain rfl:=hr.at hp
 refine ⟨es',clock,hb,he,hst,fun fs fs' clock' hf hst'=>⟨?_,h.set hp (by simp) ⟨fs',clock',?_,hf,hst'⟩ ?_,Step.set h _ hp⟩⟩
 ·simp[Go.setObj,Sem.run,hb]
 ·have:=(Array.getElem?_eq_some_iff.1 hb).1
  simp[this]
 ·exact turn_set w p.block _
section
variable{P:Program}{E:Env}(hE:EnvOk P E){F:Frz}{γ:Gam}{σ:AS}{w:World}
include hE
theorem findKey_m{t:TypeId}{k:AV}{d:TypeDesc}{x:Value}(h:keyTy E t k=some d)(hx:Conc γ k x){es:List (Value×Value)}{es':List MapEntry}{q:Option (Nat×AV)}(he:es'.map (fun e=>(e.key,e.val))=es)
  (hf:findA d k (esM es) 0=some q):∃r',(Instr.findKey t x es').run P w=.ok r' w∧FindRel γ q r':=by
 obtain ⟨h1,h2⟩:=entRel_esM γ es'
 refine findKey_ok hE h hx h1 ((findA_born _ _ 0 ?_).trans hf)
 rw[h2,←he]
 simp[esM]
theorem mupdate_ok(hR:RelL F γ σ w){ty kt et:TypeId}{r:TyRow}(hr:E.ty ty=some r)(hd:r.und=.map kt et){o:Nat}{k v:AV}{d:TypeDesc}{es:List (Value×Value)}(hkt:keyTy E kt k=some d)(hg:σ.heap.get o=some (.mrow es)){kv vv:Value}(hkv:k.flat=some kv)(hvv:v.flat=some vv){q:Option (Nat×AV)}(hf:findA d k (esM es) 0=some q){m' k' v':Value}(hm:Conc γ (.map o) m')(hk:Conc γ k k')(hv:Conc γ v v') :
  ∃w',(Instr.mapUpdate ty m' k' v').run P w=.ok () w'∧RelL F γ { σ with heap:=σ.heap.put o (.mrow (match q with|some (i,_)=>es.set i (kv,vv)|none=>es++[(kv,vv)])) } w'∧Step γ σ γ { σ with heap:=σ.heap.put o (.mrow (match q with|some (i,_)=>es.set i (kv,vv)|none=>es++[(kv,vv)])) }:=by
 simp only[Conc] at hm
 obtain ⟨b,rfl,hb⟩:=hm
 obtain rfl:=flat_conc k kv k' hkv hk
 obtain rfl:=flat_conc v vv v' hvv hv
 unfold Instr.mapUpdate
 simp only[Sem.run_bind,run_und hE hr w,Result.andThen_ok,hd]
 obtain ⟨es',clock,hw,he,hst,hset⟩:=RelL.mentries (P:=P) hR hg hb
 obtain ⟨r',h1,h2⟩:=findKey_m hE (w:=w) hkt hk he hf
 have hg1:(getObj b).run P w=.ok (.map es' clock) w:=by simp[getObj,Sem.run,hw]
 cases q with
 | some q=>
   obtain ⟨i,u⟩:=q
   obtain ⟨_,k0,b0,hi,hke⟩:=findA_get (esM es) 0 i u hf
   rw[Nat.sub_zero] at hi
   obtain ⟨e0,hi0,rfl,rfl⟩:=esM_get hi
   cases r' with
   | none=>exact h2.elim
   | some r'=>
     obtain ⟨j,u'⟩:=r'
     obtain ⟨rfl,_⟩:=h2
     have hi1:∃e1,es'[i]?=some e1∧e1.key=e0.1:=by
      rw[←he,List.getElem?_map] at hi0
      obtain ⟨e1,h3,h4⟩:=Option.map_eq_some_iff.1 hi0
      exact ⟨e1,by simpa using h3,congrArg Prod.fst h4⟩
     obtain ⟨e1,hi2,hkk⟩:=hi1
     have hb':=key_bits hke hk (conc_ofValue γ e0.1)
     have hmap:(es'.modify i fun e=>{ e with key:=k',val:=v' }).toList.map (fun e=>(e.key,e.val))=es.set i (k',v'):=by
      rw[←he]
      apply List.ext_getElem?
      intro j
      rw[List.getElem?_map,List.getElem?_set,List.getElem?_map,Array.toList_modify,List.getElem?_modify,List.length_map]
      by_cases hij:i=j
      ·subst hij
       have hl:=(Array.getElem?_eq_some_iff.1 hi2).1
       rw[if_pos rfl,if_pos (by simpa using hl)]
       have:es'.toList[i]?=some e1:=by simpa using hi2
       rw[this]
       simp
      ·rw[if_neg hij]
       cases es'.toList[j]?<;>simp[hij]
     obtain ⟨s1,s2,s3⟩:=hset (es.set i (k',v')) (es'.modify i fun e=>{ e with key:=k',val:=v' }) clock hmap fun hs=>by
      have hlen:=(List.getElem?_eq_some_iff.1 hi0).1
      have hk0:k'=e0.1:=by
       have h3:=hs (k',v') (List.mem_iff_getElem?.2 ⟨i,by simp[hlen]⟩)
       exact (keyEq_scal hke hk (keyEq_both hke hk h3)).1 rfl
      refine Go.MapKept.stamped_modify (hst fun e he=>?_) i _ (fun _ _=>rfl) (fun e' _ he'=>by rw[hi2] at he';cases he';rw[hkk];exact hk0)
      obtain ⟨j,hj⟩:=List.mem_iff_getElem?.1 he
      by_cases hij:i=j
      ·subst hij
       rw[hi0] at hj
       cases hj
       rw[←hk0]
       exact hs (k',v') (List.mem_iff_getElem?.2 ⟨i,by simp[hlen]⟩)
      ·exact hs e (List.mem_iff_getElem?.2 ⟨j,by rw[List.getElem?_set,if_neg hij];exact hj⟩)
     refine ⟨_,?_,s2,s3⟩
     simp only[hg1,Sem.run_bind,Result.andThen_ok,checkKey_ok hE (w:=w) hkt hk,h1,hi2,Option.map_some,Option.getD_some,Sem.run_bind,Instr.keyThatStays,hkk,hb',if_true,Sem.run_pure,s1]
 | none=>
   cases r' with
   | some r'=>exact h2.elim
   | none=>
     obtain ⟨s1,s2,s3⟩:=hset (es++[(k',v')]) (es'.push { key:=k',val:=v',born:=clock }) (clock+1) (by simp[he]) fun hs=>by
      refine Go.MapKept.stamped_push (hst fun e he=>hs e (by simp[he])) fun x hx e=>?_
      have hmem:(x.key,x.val)∈es:=by rw[←he];exact List.mem_map.2 ⟨x,hx,rfl⟩
      have h3:=findA_none (esM es) 0 hf (ofValue x.key,ofValue x.val,0) (List.mem_map.2 ⟨_,hmem,rfl⟩)
      have h4:=(keyEq_scal h3 hk (hs (x.key,x.val) (by simp[hmem]))).2 e.symm
      cases h4
     refine ⟨_,?_,s2,s3⟩
     simp only[hg1,Sem.run_bind,Result.andThen_ok,checkKey_ok hE (w:=w) hkt hk,h1,s1]
theorem mdelete_ok(hR:RelL F γ σ w){ty kt et:TypeId}{r:TyRow}(hr:E.ty ty=some r)(hd:r.und=.map kt et){o:Nat}{k:AV}{d:TypeDesc}{es:List (Value×Value)}(hkt:keyTy E kt k=some d)(hsc:scalTy d=true)(hg:σ.heap.get o=some (.mrow es)){q:Option (Nat×AV)}(hf:findA d k (esM es) 0=some q){m' k':Value}(hm:Conc γ (.map o) m')(hk:Conc γ k k'){ts:Array TypeId}{tt:TypeId}{ys:Array Value}
  (h0:ts[0]?=some ty) (h1:ys[0]?=some m') (h2:ys[1]?=some k') :
  ∃w',(Builtin.delete_ ts tt ys).run P w=.ok (.tuple #[]) w'∧RelL F γ { σ with heap:=σ.heap.put o (.mrow (match q with|some (i,_)=>es.eraseIdx i|none=>es)) } w'∧Step γ σ γ { σ with heap:=σ.heap.put o (.mrow (match q with|some (i,_)=>es.eraseIdx i|none=>es)) }:=by
 simp only[Conc] at hm
 obtain ⟨b,rfl,hb⟩:=hm
 unfold Builtin.delete_
 simp only[h0,h1,h2,Sem.run_bind,run_und hE hr w,Result.andThen_ok,hd]
 obtain ⟨es',clock,hw,he,hst,hset⟩:=RelL.mentries (P:=P) hR hg hb
 obtain ⟨r',h1,h2⟩:=findKey_m hE (w:=w) hkt hk he hf
 have hg1:(getObj b).run P w=.ok (.map es' clock) w:=by simp[getObj,Sem.run,hw]
 cases q with
 | some q=>
   obtain ⟨i,u⟩:=q
   obtain ⟨_,k0,b0,hi,hke⟩:=findA_get (esM es) 0 i u hf
   rw[Nat.sub_zero] at hi
   obtain ⟨e0,hi0,rfl,rfl⟩:=esM_get hi
   cases r' with
   | none=>exact h2.elim
   | some r'=>
     obtain ⟨j,u'⟩:=r'
     obtain ⟨rfl,_⟩:=h2
     have hsk0:scalK e0.1=true:=by
      unfold keyEq at hke
      split at hke
      ·rename_i e
       revert e
       cases e0.1<;>intro e<;>first|rfl|cases e
      ·rename_i e
       revert e
       cases e0.1<;>intro e<;>first|rfl|cases e
      ·rename_i e
       revert e
       cases e0.1<;>intro e<;>first|rfl|cases e
      ·cases hsc
      ·cases hke
     obtain ⟨s1,s2,s3⟩:=hset (es.eraseIdx i) (es'.eraseIdxIfInBounds i) clock (by
      have:(es'.eraseIdxIfInBounds i).toList=es'.toList.eraseIdx i:=by simp
      rw[this,←he,eraseIdx_mapped]) fun hs=>Go.MapKept.stamped_erase (hst fun e he=>by
       obtain ⟨j,hj⟩:=List.mem_iff_getElem?.1 he
       by_cases hij:i=j
       ·subst hij;rw[hi0] at hj;cases hj;exact hsk0
       ·exact hs e (List.mem_eraseIdx_iff_getElem?.2 ⟨j,Ne.symm hij,hj⟩)) i
     refine ⟨_,?_,s2,s3⟩
     simp only[hg1,Sem.run_bind,Result.andThen_ok,checkKey_ok hE (w:=w) hkt hk,h1,s1,Sem.run_pure]
 | none=>
   cases r' with
   | some r'=>exact h2.elim
   | none=>
     obtain ⟨s1,s2,s3⟩:=hset es es' clock he hst
     refine ⟨_,?_,s2,s3⟩
     simp only[hg1,Sem.run_bind,Result.andThen_ok,checkKey_ok hE (w:=w) hkt hk,h1,s1,Sem.run_pure]
end
section
variable{F:Frz}{P:Program}{E:Env}(hE:EnvOk P E){γ:Gam}{σ:AS}{w:World}{t:Tmps}{ρ:Operand→Value}
include hE
theorem store_ok(hR:RelL F γ σ w){ty:TypeId}{a v:AV}{σ':AS}(h:storeA E σ ty a v=some σ'){a' v':Value}(ha:Conc γ a a')(hv:Conc γ v v') :
  ∃w',(Instr.storeAt ty a' v').run P w=.ok () w'∧RelL F γ σ' w'∧Step γ σ γ σ':=by
 unfold storeA at h
 split at h
 ·rename_i o off r hr
  split at h
  ·rename_i l elem hg
   split at h
   ·rename_i hb
    simp only[Bool.and_eq_true] at hb
    obtain ⟨⟨hb1,hb2⟩,hb3⟩:=hb
    have hb1:=Nat.eq_of_beq_eq_true hb1
    have hb3:=Nat.le_of_ble_eq_true hb3
    simp only[Option.some.injEq] at h;subst h
    simp only[Conc] at ha
    obtain ⟨ad,rfl,hat⟩:=ha
    have hvc:=conc_cells hv
    have hvl:v'.cells.size=v.cells.length:=by simpa using concs_length hvc
    obtain ⟨w',h1,h2,h3⟩:=RelL.store (P:=P) hR hg hat (by rw[hb1];exact hb3) hvc hb2
    refine ⟨w',?_,h2,h3⟩
    unfold Instr.storeAt storeVar
    have hne:¬(v'.cells.size≠r.info.size):=by omega
    simp only[Instr.sureAddr,Sem.run_bind,Sem.run_pure,Result.andThen_ok,run_size hE hr w,if_neg hne,h1]
   ·cases h
  ·cases h
 ·cases h
theorem update_ok(hR:RelL F γ σ w){ty:TypeId}{m k v:AV}{σ':AS}(h:updateA E σ ty m k v=some σ'){m' k' v':Value}(hm:Conc γ m m')(hk:Conc γ k k')(hv:Conc γ v v') :
  ∃w',(Instr.mapUpdate ty m' k' v').run P w=.ok () w'∧RelL F γ σ' w'∧Step γ σ γ σ':=by
 unfold updateA at h
 cases hr:E.ty ty with
 | none=>rw[hr] at h;cases h
 | some r=>
   rw[hr] at h
   simp only[] at h
   split at h
   ·rename_i kt et o hd
    split at h
    ·rename_i d es clock hkt hg
     simp only[Conc] at hm
     obtain ⟨b,rfl,hb⟩:=hm
     unfold Instr.mapUpdate
     simp only[Sem.run_bind,run_und hE hr w,Result.andThen_ok,hd]
     split at h
     ·rename_i i u hf
      simp only[Option.some.injEq] at h;subst h
      obtain ⟨_,k0,b0,hi,hke⟩:=findA_get es 0 i u hf
      rw[Nat.sub_zero] at hi
      obtain ⟨es',hw,he,hset⟩:=RelL.entries (P:=P) (fs:=setAt es i (k,v,b0)) (clock':=clock) hR hg hb
      obtain ⟨r',h1,h2⟩:=findKey_ok hE (w:=w) hkt hk he hf
      cases r' with
      | none=>exact h2.elim
      | some r'=>
        obtain ⟨j,u'⟩:=r'
        obtain ⟨rfl,_⟩:=h2
        obtain ⟨k1,v1,hi',hk1,_⟩:=entRel_get he i _ hi
        have hi'':es'[i]?=some ⟨k1,v1,b0⟩:=by simpa using hi'
        have hb':=key_bits hke hk hk1
        have hg1:(getObj b).run P w=.ok (.map es' clock) w:=by simp[getObj,Sem.run,hw]
        obtain ⟨s1,s2,s3⟩:=hset (es'.modify i fun e=>{ e with key:=k',val:=v' }) (by rw[Array.toList_modify];exact entRel_setAt hk hv i he hi)
        have hbo:bornAt es i=b0:=by unfold bornAt;rw[hi]
        refine ⟨_,?_,by rw[hbo];exact s2,by rw[hbo];exact s3⟩
        simp only[hg1,Sem.run_bind,Result.andThen_ok,checkKey_ok hE (w:=w) hkt hk,h1,hi'',Option.map_some,Option.getD_some,Sem.run_bind,Instr.keyThatStays,hb',if_true,Sem.run_pure,s1]
     ·rename_i hf
      simp only[Option.some.injEq] at h;subst h
      obtain ⟨es',hw,he,hset⟩:=RelL.entries (P:=P) (fs:=es++[(k,v,clock)]) (clock':=clock+1) hR hg hb
      obtain ⟨r',h1,h2⟩:=findKey_ok hE (w:=w) hkt hk he hf
      cases r' with
      | some r'=>exact h2.elim
      | none=>
        have hg1:(getObj b).run P w=.ok (.map es' clock) w:=by simp[getObj,Sem.run,hw]
        obtain ⟨s1,s2,s3⟩:=hset (es'.push { key:=k',val:=v',born:=clock }) (by rw[Array.toList_push];exact entRel_append he (by simp only[EntRel];exact ⟨k',v',[],rfl,hk,hv,rfl⟩))
        refine ⟨_,?_,s2,s3⟩
        simp only[hg1,Sem.run_bind,Result.andThen_ok,checkKey_ok hE (w:=w) hkt hk,h1,s1]
     ·cases h
    ·rename_i d es hkt hg
     split at h
     ·rename_i kv vv hkv hvv
      split at h
      ·rename_i i u hf
       simp only[Option.some.injEq] at h;subst h
       exact mupdate_ok hE hR hr hd hkt hg hkv hvv hf hm hk hv
      ·rename_i hf
       simp only[Option.some.injEq] at h;subst h
       exact mupdate_ok hE hR hr hd hkt hg hkv hvv hf hm hk hv
      ·cases h
     ·cases h
    ·cases h
   ·cases h
theorem delete_ok(hR:RelL F γ σ w){ty:TypeId}{m k:AV}{σ':AS}(h:deleteA E σ ty m k=some σ'){m' k':Value}(hm:Conc γ m m')(hk:Conc γ k k'){ts:Array TypeId}{tt:TypeId}{ys:Array Value}
  (h0:ts[0]?=some ty) (h1:ys[0]?=some m') (h2:ys[1]?=some k') :
  ∃w',(Builtin.delete_ ts tt ys).run P w=.ok (.tuple #[]) w'∧RelL F γ σ' w'∧Step γ σ γ σ':=by
 unfold deleteA at h
 cases hr:E.ty ty with
 | none=>rw[hr] at h;cases h
 | some r=>
   rw[hr] at h
   simp only[] at h
   split at h
   ·rename_i kt et o hd
    split at h
    ·rename_i d es clock hkt hg
     simp only[Conc] at hm
     obtain ⟨b,rfl,hb⟩:=hm
     unfold Builtin.delete_
     simp only[h0,h1,h2,Sem.run_bind,run_und hE hr w,Result.andThen_ok,hd]
     split at h
     ·rename_i i u hf
      simp only[Option.some.injEq] at h;subst h
      obtain ⟨es',hw,he,hset⟩:=RelL.entries (P:=P) (fs:=es.eraseIdx i) (clock':=clock) hR hg hb
      obtain ⟨r',h1,h2⟩:=findKey_ok hE (w:=w) hkt hk he hf
      cases r' with
      | none=>exact h2.elim
      | some r'=>
        obtain ⟨j,u'⟩:=r'
        obtain ⟨rfl,_⟩:=h2
        have hg1:(getObj b).run P w=.ok (.map es' clock) w:=by simp[getObj,Sem.run,hw]
        obtain ⟨s1,s2,s3⟩:=hset (es'.eraseIdxIfInBounds i) (by
         have:(es'.eraseIdxIfInBounds i).toList=es'.toList.eraseIdx i:=by simp
         rw[this];exact entRel_erase i he)
        refine ⟨_,?_,s2,s3⟩
        simp only[hg1,Sem.run_bind,Result.andThen_ok,checkKey_ok hE (w:=w) hkt hk,h1,s1,Sem.run_pure]
     ·rename_i hf
      simp only[Option.some.injEq] at h;subst h
      obtain ⟨es',hw,he,hset⟩:=RelL.entries (P:=P) (fs:=es) (clock':=clock) hR hg hb
      obtain ⟨r',h1,h2⟩:=findKey_ok hE (w:=w) hkt hk he hf
      cases r' with
      | some r'=>exact h2.elim
      | none=>
        have hg1:(getObj b).run P w=.ok (.map es' clock) w:=by simp[getObj,Sem.run,hw]
        obtain ⟨s1,s2,s3⟩:=hset es' he
        refine ⟨_,?_,s2,s3⟩
        simp only[hg1,Sem.run_bind,Result.andThen_ok,checkKey_ok hE (w:=w) hkt hk,h1,s1,Sem.run_pure]
     ·cases h
    ·rename_i d es hkt hg
     split at h
     ·rename_i i u hsc hf
      simp only[Option.some.injEq] at h;subst h
      exact mdelete_ok hE hR hr hd hkt hsc hg hf hm hk h0 h1 h2
     ·rename_i hsc hf
      simp only[Option.some.injEq] at h;subst h
      exact mdelete_ok hE hR hr hd hkt hsc hg hf hm hk h0 h1 h2
     ·cases h
    ·cases h
   ·cases h
end
end Go.Proofs.YtmbdghclhpboaaaGreat.Ev

/- Part of the proof: SyB SyC. Conditions: as each states. -/
import Derived.Test.YtmbdghclhpboaaaGreatPb11
set_option linter.all false
namespace Go.Proofs.YtmbdghclhpboaaaGreat.Ev
section
variable{P:Program}{S:List Nat}{E:Env}{t:Tmps}{H:List AObj}{K:AV→List AObj→Prop}
theorem sizeK_ok{ty:TypeId}{L:Nat→TypeDesc→Prop}(h:sizeK E ty L):∃r,E.ty ty=some r∧L r.info.size r.und:=by
 unfold sizeK at h
 split at h
 ·rename_i hr
  exact ⟨_,hr,h⟩
 ·exact h.elim
theorem partK_ok{ty:TypeId}{cs:List AV}{off:Nat}{L:AV→Prop}(h:partK E ty cs off L):∃v,partOf E ty cs off=some v∧L v:=by
 unfold partK at h
 obtain ⟨r,hr,h⟩:=sizeK_ok h
 unfold partOf
 rw[hr]
 simp only[]
 split at h
 ·rename_i ha
  rw[ha]
  simp only[]
  split at h
  ·rename_i hb
   rw[hb]
   rw[fl_eq] at h
   exact ⟨_,rfl,h⟩
  ·exact h.elim
 ·rename_i ha
  rw[ha]
  simp only[]
  split at h
  ·rename_i v hv
   exact ⟨v,hv,h⟩
  ·exact h.elim
theorem fieldK_ok{ty:TypeId}{f:Nat}{L:TypeId→Nat→Prop}(h:fieldK E ty f L):∃r fs fd,E.ty ty=some r∧r.und=.struct fs∧fs[f]?=some fd∧L fd.type fd.offset:=by
 unfold fieldK at h
 split at h
 ·rename_i r hr
  split at h
  ·rename_i fs hu
   split at h
   ·rename_i hf
    exact ⟨r,fs,_,hr,hu,by simpa using hf,h⟩
   ·exact h.elim
  ·exact h.elim
 ·exact h.elim
theorem idxK_ok{n:Nat}{i:AV}{L:Nat→Prop}(h:idxK n i L):∃k,natOf i=some k∧Nat.blt k n=true∧L k:=by
 unfold idxK at h
 split at h
 ·obtain ⟨k,rfl,h1,h2⟩:=h.out
  exact ⟨k,rfl,Nat.ble_eq_true_of_le h1,h2⟩
 ·exact h.elim
theorem evOp_new_vw{σ:AS}{op:Op}{ob:AObj}{k:NewK}(h:evOp E t σ op=some (.new ob k)):vw ob=ob:=by
 cases op<;>simp only[evOp] at h
 case call c=>
  exfalso
  split at h
  ·cases h
  ·split at h
   ·split at h
    ·unfold fnCall at h
     (repeat' split at h)<;>cases h
    ·cases h
   ·unfold builtinA at h
    (repeat' split at h)<;>first|cases h|(obtain ⟨_,_,e⟩:=Option.map_eq_some_iff.1 h;cases e)
   ·(repeat' split at h)<;>cases h
 case convert src dst x=>
  exfalso
  split at h
  ·unfold convA at h
   (repeat' split at h)<;>first|cases h|(obtain ⟨_,_,e⟩:=Option.map_eq_some_iff.1 h;cases e)
  ·cases h
 all_goals
  (repeat' split at h)<;>first|(cases h;done)|(cases h;rfl)|(obtain ⟨_,_,e⟩:=Option.map_eq_some_iff.1 h;cases e;done)|(obtain ⟨_,_,e⟩:=Option.map_eq_some_iff.1 h;cases e;rfl)
theorem resK_ok(hl:H.length≤lim):∀{rs:List ResultVar} {L:List AV→Prop},resK E t H rs L→∃l,allSome (rs.map (resultA E t (hp H)))=some l∧L l
 | [],L,h=>⟨[],rfl,h⟩
 | .tmp i::rs,L,h=>by
   simp only[resK] at h
   split at h
   ·rename_i v hv
    obtain ⟨l,h1,h2⟩:=resK_ok hl h
    exact ⟨v::l,by simp only[List.map_cons,resultA,hv,allSome,h1],h2⟩
   ·exact h.elim
 | .cell a ty::rs,L,h=>by
   simp only[resK] at h
   split at h
   ·rename_i o off ha
    split at h
    ·rename_i cs e ho
     obtain ⟨v,hv,h⟩:=partK_ok h
     obtain ⟨l,h1,h2⟩:=resK_ok hl h
     exact ⟨v::l,by simp only[List.map_cons,resultA,ha,loadAt,hp_get hl,ho,Option.map_some,vw,hv,allSome,h1],h2⟩
    ·exact h.elim
   ·exact h.elim
theorem endK_ok(hl:H.length≤lim){fn:Func}(h:endK E fn K .ret t H):∃v,resultsA E t (hp H) fn.results.toList=some v∧K v H:=by
 unfold endK at h
 obtain ⟨l,h1,h2⟩:=resK_ok hl h
 unfold resultsA
 rw[h1]
 split at h2
 ·exact ⟨_,rfl,fv_ok h2⟩
 ·exact ⟨_,rfl,h2⟩
 ·rename_i l hn1 hn0
  refine ⟨_,?_,h2⟩
  split
  ·rename_i v e;cases e;exact absurd rfl (hn1 v)
  ·rename_i e;cases e;exact absurd rfl hn0
  ·rename_i l' _ _ e;cases e;rfl
  ·rename_i e;cases e
theorem hpEq_self(h:H.length≤lim):HpEq (hp H) H:=⟨rfl,fun o=>hp_get h o⟩
theorem hpEq_set(h:H.length≤lim){o:Nat}(ho:o<H.length){ob:AObj}:HpEq { hp H with heap:=(hp H).heap.put o (vw ob) } (H.set o ob):=by
 refine ⟨by simp[hp],fun q=>?_⟩
 simp only[]
 rw[T.get_put _ _ _ _ (by omega),hp_get h,List.getElem?_set]
 by_cases e:q=o
 ·subst e;simp[ho]
 ·rw[if_neg e,if_neg (Ne.symm e)]
theorem newOk_same(v:AV):newOk H.length v (hp H).next=true:=by simp[newOk,hp]
theorem opK_out{m:Bool}(hl:H.length≤lim){op:Op}(h:opK E P m S t H K op):(∃out,evOp E t (hp H) op=some out∧outK P S H K out)∨(m=true∧OpM P S t H op K):=by
 unfold opK at h
 split at h
 ·exact h.out
 ·have gen:∀{op:Op},(match evOp E t (hp H) op with
    | some (.pure v)=>K v H
    | some (.read v)=>K v H
    | some (.new ob k)=>match Nat.blt H.length lim with
      | true=>fOb ob (fun ob=>snocK H ob (fun H'=>natF (cnt H 0) fun n=>K (k.val n) H'))
      | false=>False
    | _=>False)→(∃out,evOp E t (hp H) op=some out∧outK P S H K out)∨(m=true∧OpM P S t H op K):=by
   intro op h
   split at h
   ·rename_i v hv;exact .inl ⟨_,hv,h⟩
   ·rename_i v hv;exact .inl ⟨_,hv,h⟩
   ·rename_i ob k hv
    split at h
    ·rename_i hb
     rw[fOb_eq,snocK_eq,natF_eq,cnt_eq,Nat.zero_add] at h
     exact .inl ⟨_,hv,blt_t hb,h⟩
    ·exact h.elim
   ·exact h.elim
  cases op<;>simp only[] at h
  case fieldAddr ty x f=>
   split at h
   ·rename_i p off hx
    obtain ⟨r,fs,fd,h1,h2,h3,h⟩:=fieldK_ok h
    obtain ⟨fr,h4,h⟩:=sizeK_ok h
    split at h
    ·rename_i hb
     refine .inl ⟨.pure (.ptr p (off+fd.offset)),?_,h⟩
     simp only[evOp,h1,hx,h2,h3,h4,hb]
    ·exact h.elim
   ·exact h.out
   ·exact h.elim
  case field ty x f=>
   split at h
   ·rename_i cs hx
    obtain ⟨r,fs,fd,h1,h2,h3,h⟩:=fieldK_ok h
    obtain ⟨v,h4,h⟩:=partK_ok h
    refine .inl ⟨.pure v,?_,h⟩
    simp only[evOp,h1,hx,h2,h3,h4,Option.map_some]
   ·exact h.elim
  case indexAddr ty x i=>
   split at h
   ·rename_i x' i' hx hi
    split at h
    ·rename_i r hr
     split at h
     ·rename_i len elem hu
      split at h
      ·rename_i p off
       obtain ⟨er,h1,h⟩:=sizeK_ok h
       obtain ⟨k,h2,h3,h⟩:=idxK_ok h
       refine .inl ⟨.pure (.ptr p (off+k * er.info.size)),?_,h⟩
       simp only[evOp,hr,hx,hi,hu,h2,h1,h3]
      ·exact h.elim
     ·rename_i elem hu
      split at h
      ·rename_i p off len cap
       obtain ⟨er,h1,h⟩:=sizeK_ok h
       obtain ⟨k,h2,h3,h⟩:=idxK_ok h
       refine .inl ⟨.pure (.ptr p (off+k * er.info.size)),?_,h⟩
       simp only[evOp,hr,hx,hi,hu,h2,h1,h3]
      ·exact h.out
      ·exact h.elim
     ·exact h.elim
    ·exact h.elim
   ·exact h.elim
  case load ty a=>
   split at h
   ·rename_i p off ha
    split at h
    ·rename_i l e hp'
     obtain ⟨v,h1,h⟩:=partK_ok h
     refine .inl ⟨.read v,?_,h⟩
     simp only[evOp,ha,loadAt,hp_get hl,hp',Option.map_some,vw,h1]
    ·rename_i xs e hp'
     obtain ⟨r,h1,h⟩:=sizeK_ok h
     obtain ⟨v,h2,h⟩:=h.out
     refine .inl ⟨.read v,?_,h⟩
     simp only[evOp,ha,loadAt,hp_get hl,hp',Option.map_some,vw,partOf,h1]
     cases hagg:isAggD r.und with
     | true=>
       rw[hagg] at h2
       simp only[] at h2 ⊢
       split at h2
       ·rename_i hle
        have hb:Nat.ble (off+r.info.size) (xs.map AV.lit).length=true:=Nat.ble_eq_true_of_le (by simpa using hle)
        rw[hb]
        simpa using h2
       ·cases h2
     | false=>
       rw[hagg] at h2
       simp only[] at h2 ⊢
       rw[h2]
       rfl
    ·exact h.elim
   ·exact h.out
   ·exact h.elim
  case store ty a v'=>
   split at h
   ·rename_i p off v ha hv
    split at h
    ·rename_i l e hp'
     obtain ⟨r,h1,h⟩:=sizeK_ok h
     split at h
     ·rename_i hb
      rw[fl_eq,setK_eq] at h
      have hlt:p<H.length:=(List.getElem?_eq_some_iff.1 hp').1
      refine .inl ⟨.act undefV { hp H with heap:=(hp H).heap.put p (.cells (setFrom l off v.cells) e) },?_,_,hpEq_set (ob:=.cells (setFrom l off v.cells) e) hl hlt,newOk_same _,.of_eq (rss_set (ob:=.cells (setFrom l off v.cells) e) hp' rfl).symm,h⟩
      simp only[evOp,ha,hv,storeA,h1,hp_get hl,hp',Option.map_some,vw,hb]
     ·exact h.elim
    ·exact h.out
    ·exact h.elim
   ·exact h.out
   ·exact h.elim
  case assign x=>
   split at h
   ·rename_i v hv
    exact .inl ⟨.act v (hp H),by simp only[evOp,hv,Option.map_some],H,hpEq_self hl,newOk_same _,.refl _,h⟩
   ·exact h.elim
  case box e x=>
   split at h
   ·rename_i v hv
    split at h
    ·rename_i hb
     rw[fl_eq,snocK_eq,natF_eq,cnt_eq,Nat.zero_add] at h
     refine .inl ⟨.new (.cells v.cells _) .ptr,?_,blt_t hb,h⟩
     simp only[evOp,hv,Option.map_some]
    ·exact h.elim
   ·exact h.elim
  case call c=>
   split at h
   ·rename_i b hcal
    split at h
    ·split at h
     ·rename_i s x hargs
      split at h
      ·rename_i ty xt hts
       split at h
       ·rename_i xr hxr
        split at h
        ·exact h.elim
        ·rename_i hni
         split at h
         ·exact h.out
         rcases h.out with ⟨v,σ,H',h1,h2,h3,h4⟩|hm
         rotate_left
         ·exact .inr hm
         refine .inl ⟨.act v σ,?_,H',h2,h3,h4⟩
         simp only[evOp,hargs,hcal,builtinA,hts,hxr]
         rw[h1];rfl
       ·exact h.elim
      ·exact h.elim
     ·exact h.elim
    ·split at h
     ·rename_i args hargs
      split at h
      ·rename_i v hv
       exact .inl ⟨.pure v,by simp only[evOp,hargs,hcal,hv],h⟩
      ·rename_i v hv
       exact .inl ⟨.read v,by simp only[evOp,hargs,hcal,hv],h⟩
      ·exact h.elim
     ·exact h.elim
   ·split at h
    ·rename_i f args hv
     rw[fl_eq] at h
     exact .inl ⟨_,hv,h⟩
    ·exact h.elim
  all_goals exact gen h
end
section
variable{F:Frz}{P:Program}{S:List Nat}{E:Env}(hE:EnvOk P E){γ:Gam}{w:World}{t:Tmps}{H:List AObj}{K:AV→List AObj→Prop}
include hE
theorem outK_okS(hR:RelL F γ (hp H) w)(hpl:∀o,o<H.length→o∉S→γ o≠none)(hrs:Rs F γ H w){a:Act}(hρ:OpRel γ t a.eval){o:Oper}{out:Out}(hev:evOp E t (hp H) o.op=some out)(hk:outK P S H K out){K':Act→World→Prop}{Q:Exit→Act→World→Prop}
  (hK:∀v H' γ' x w',K v H'→Conc γ' v x→Aft F γ S H γ' H' w'→K' (a.put o.dst x) w'):o.wp P a w K' Q:=by
 have hlim:H.length≤lim:=hR.lim
 unfold Oper.wp
 obtain ⟨F',hR',hback⟩:=reframe hR hrs
 cases out with
 | pure v=>
   obtain ⟨x,h1,h2⟩:=val_ok hE hR.toRel hρ o hev (.inl rfl)
   rw[h1,Oper.upon_value]
   exact hK v H γ x w hk h2 ⟨hR,.refl γ _,hpl,hrs⟩
 | read v=>
   obtain ⟨x,h1,h2⟩:=val_ok hE hR.toRel hρ o hev (.inr rfl)
   rw[h1,Oper.upon_value]
   exact hK v H γ x w hk h2 ⟨hR,.refl γ _,hpl,hrs⟩
 | new ob k=>
   obtain ⟨hlt,hk⟩:=hk
   have hvw:=evOp_new_vw hev
   obtain ⟨hd,cob,x,top,h1,h2⟩:=new_ok hE (σ:=hp H) (w:=w) hρ o hev
   have hg0:γ (hp H).next=none:=hR.dom _ (Nat.le_refl _)
   have hm:=hR'.more (show (hp H).next<lim from hlt) ob
   have hget:((hp H).heap.put (hp H).next ob).get (hp H).next=some ob:=by rw[T.get_put _ _ _ _ (show (hp H).next≤lim from Nat.le_of_lt hlt)];simp
   have hrel:=h2 (upd γ (hp H).next (some ⟨w.heap.size,0,top⟩)) (hp H).next { w with heap:=w.heap.push cob } (ext_upd _ hg0) (upd_self _ _ _) (by simp)
   rw[h1,Oper.upon_value]
   have hr2:=hm.place (id:=(hp H).next) (by simp) hg0 hget hd cob 0 top hrel.1
   have heq:HpEq { heap:=(hp H).heap.put (hp H).next ob,next:=(hp H).next+1 } (H++[ob]):=by
    refine ⟨by simp[hp],fun q=>?_⟩
    simp only[]
    rw[T.get_put _ _ _ _ (show (hp H).next≤lim from Nat.le_of_lt hlt),hp_get hlim]
    by_cases e:q=(hp H).next
    ·subst e
     rw[if_pos rfl]
     simp[hp,hvw]
    ·rw[if_neg e]
     have e:q≠H.length:=e
     rcases Nat.lt_or_ge q H.length with h5|h5
     ·rw[List.getElem?_append_left h5]
     ·rw[List.getElem?_eq_none h5,List.getElem?_eq_none (by simp;omega)]
   obtain ⟨hr3,hr4⟩:=hback _ _ _ (hr2.toH heq)
   have hnil:rsOf ob=resNil:=by cases ob<;>first|rfl|cases hvw
   refine hK _ _ _ x _ hk hrel.2 ⟨hr3,(Step.place _ hg0 _ (Nat.le_refl _) (Step.more hR hlt ob)).toH heq (by have:=hr2.lim;have:=heq.next;omega),fun q hq hqS=>?_,hr4 _ (ent_snoc hnil)⟩
   simp only[List.length_append,List.length_cons,List.length_nil] at hq
   by_cases e:q=(hp H).next
   ·subst e;rw[upd_self];simp
   ·rw[upd_ne _ _ e]
    have e:q≠H.length:=e
    exact hpl q (by omega) hqS
 | act v σ=>
   obtain ⟨H',h5,h6,h7,hk⟩:=hk
   obtain ⟨γ',w',nx,h1,h2,h3,h4⟩:=act_ok hE hR' hρ o hev
   obtain ⟨hr3,hr4⟩:=hback _ _ _ (h3.toH h5)
   have hold:∀q,q<H.length→q∉S→γ' q≠none:=fun q hq hS hn=>by
    cases hg:γ q with
    | none=>exact hpl q hq hS hg
    | some p=>rcases h4.ext q p hg with h|h<;>rw[h] at hn<;>cases hn
   rw[h1]
   rcases h2 with ⟨x,rfl,hx⟩|⟨rfl,rfl⟩
   ·rw[Oper.upon_value]
    refine hK v H' γ' x w' hk hx ⟨hr3,h4.toH h5 (by have:=h3.lim;have:=h5.next;omega),fun q hq hS=>?_,hr4 _ h7⟩
    rcases Nat.lt_or_ge q H.length with hq'|hq'
    ·exact hold q hq' hS
    ·have hn:=h5.next
     unfold newOk at h6
     rw[Bool.or_eq_true] at h6
     rcases h6 with h6|h6
     ·have:=Nat.eq_of_beq_eq_true h6;omega
     ·split at h6
      ·rw[Bool.and_eq_true] at h6
       have e1:=Nat.eq_of_beq_eq_true h6.1
       have e2:=Nat.eq_of_beq_eq_true h6.2
       have e3:q=H.length:=by omega
       subst e3
       rw[e1] at hx
       simp only[Conc] at hx
       obtain ⟨ad,c,_,_,_,htop⟩:=hx
       intro hn
       unfold topP at htop
       rw[hn] at htop
       exact htop
      ·rw[Bool.and_eq_true] at h6
       have e1:=Nat.eq_of_beq_eq_true h6.1
       have e2:=Nat.eq_of_beq_eq_true h6.2
       have e3:q=H.length:=by omega
       subst e3
       rw[e1] at hx
       simp only[Conc] at hx
       obtain ⟨ad,_,hat⟩:=hx
       exact hat.ne
      ·cases h6
   ·rw[Oper.upon_skip]
    refine hK undefV H' γ' undef w' hk (conc_lit γ' _) ⟨hr3,h4.toH h5 (by have:=h3.lim;have:=h5.next;omega),fun q hq hS=>?_,hr4 _ h7⟩
    have hn:=h5.next
    have:σ.next=H.length:=by
     unfold newOk undefV at h6
     simpa using h6
    exact hold q (by omega) hS
 | call f args=>
   obtain ⟨xs,hxs,hrun⟩:=call_ok hE (w:=w) hρ o hev
   obtain ⟨c1,c2⟩:=CallS.out hk F γ w xs hR hpl hrs hxs
   rw[hrun,c1,Oper.upon_enter]
   exact c2 _ fun v H' γ' x w' h1 h2 h3=>hK v H' γ' x w' h1 h2 h3
omit hE in
theorem opM_okS{t0:Tmps}{o:Oper}(h:OpM P S t0 H o.op K)(hR:RelL F γ (hp H) w)(hpl:∀o,o<H.length→o∉S→γ o≠none)(hrs:Rs F γ H w){a:Act}(hρ:OpRel γ t a.eval)(hs:∀x,x∈o.op.operands.toList→opnd t0 x=opnd t x){K':Act→World→Prop}{Q:Exit→Act→World→Prop}
  (hK:∀v H' γ' x w',K v H'→Conc γ' v x→Aft F γ S H γ' H' w'→K' (a.put o.dst x) w'):o.wp P a w K' Q:=by
 unfold Oper.wp
 obtain ⟨v,H',γ',nx,w',h1,h2,h3,h4⟩:=h.out F γ w a.eval hR hpl hrs (fun x v hx hv=>hρ x v (by rw[←hs x hx];exact hv)) o rfl
 rw[h1]
 rcases h2 with ⟨x,rfl,hx⟩|⟨rfl,rfl⟩
 ·rw[Oper.upon_value]
  exact hK v H' γ' x w' h3 hx h4
 ·rw[Oper.upon_skip]
  exact hK undefV H' γ' undef w' h3 (conc_lit γ' _) h4
theorem stepK_okS{ops:Array Oper}{o:Oper}{i n:Nat}{a:Act}(h:stepK E P S ops.toList o t H K)(hi:ops[i]?=some o)(hR:RelL F γ (hp H) w)(hpl:∀o,o<H.length→o∉S→γ o≠none)(hrs:Rs F γ H w)(hT:ConcT γ n t a){K':Act→World→Prop}{Q:Exit→Act→World→Prop}
  (hK:∀v H' γ' x w',K v H'→Conc γ' v x→Aft F γ S H γ' H' w'→K' (a.put o.dst x) w'):wpOp P ops Q i K' a w:=by
 unfold stepK at h
 unfold wpOp
 simp only[hi]
 cases hw:wantedA ops.toList t o with
 | none=>rw[hw] at h;exact h.elim
 | some b=>
   rw[hw] at h
   have hwant:=wanted_ok (a:=a) (γ:=γ) (n:=n) hw fun d u _ hu=>hT.get d u hu
   cases b with
   | false=>
     rw[hwant]
     simp only[Bool.false_eq_true,if_false]
     exact hK undefV H γ undef w h (conc_lit γ _) ⟨hR,.refl γ _,hpl,hrs⟩
   | true=>
     rw[hwant]
     simp only[if_true]
     refine .inl ?_
     rcases opK_out hR.lim h with ⟨out,h1,h2⟩|⟨_,h1⟩
     ·exact outK_okS hE hR hpl hrs hT.opnd h1 h2 hK
     ·exact opM_okS h1 hR hpl hrs hT.opnd (fun _ _=>rfl) hK
theorem stepK_ok{ops:Array Oper}{o:Oper}{i n:Nat}{a:Act}(h:stepK E P [] ops.toList o t H K)(hi:ops[i]?=some o)(hR:Rl F γ H w)(hT:ConcT γ n t a){K':Act→World→Prop}{Q:Exit→Act→World→Prop}
  (hK:∀v H' γ' x w',K v H'→Rl F γ' H' w'→Conc γ' v x→Ext γ γ'→K' (a.put o.dst x) w'):wpOp P ops Q i K' a w:=
 stepK_okS hE h hi hR.rel (fun o ho _=>hR.pl o ho) hR.rs hT fun v H' γ' x w' h1 h2 h3=>hK v H' γ' x w' h1 h3.rl h2 h3.step.ext
theorem wpOps_ok{n:Nat}(hn:n≤lim){ops:Array Oper}{Q:Exit→Act→World→Prop}{L:Tmps→List AObj→Prop}:∀(l:List Oper) (i:Nat) (t:Tmps) (H:List AObj) (γ:Gam) (w:World) (a:Act),
  wpOps E P n ops.toList l t H L→ops.toList.drop i=l→Rl F γ H w→ConcT γ n t a →
  (∀t' H' γ' a' w',L t' H'→Rl F γ' H' w'→ConcT γ' n t' a'→Ext γ γ'→Q .normal a' w')→Go.wpOps P ops Q ((List.range (ops.size - i)).map (·+i)) a w
 | [],i,t,H,γ,w,a,h,hd,hR,hT,hQ=>by
   simp only[wpOps] at h
   have:ops.size - i=0:=by
    have:=congrArg List.length hd
    simpa using this
   rw[this]
   exact hQ t H γ a w h hR hT (.refl γ)
 | o::rest,i,t,H,γ,w,a,h,hd,hR,hT,hQ=>by
   have hlt:i<ops.size:=by
    have:=congrArg List.length hd
    simp at this
    omega
   have hi:ops[i]?=some o:=by
    have h1:ops.toList[i]?=some o:=by
     have:(ops.toList.drop i)[0]?=some o:=by rw[hd];rfl
     rw[List.getElem?_drop] at this
     simpa using this
    simpa using h1
   have hrest:ops.toList.drop (i+1)=rest:=by
    have:=congrArg List.tail hd
    simpa [List.tail_drop] using this
   rw[show ops.size - i=(ops.size - (i+1))+1 by omega,List.range_succ_eq_map,List.map_cons,List.map_map,wpOps_cons,Nat.zero_add]
   have hfun:((fun x=>x+i)∘Nat.succ)=(fun x=>x+(i+1)):=by funext x;simp;omega
   rw[hfun]
   simp only[wpOps] at h
   refine stepK_ok hE h hi hR hT fun v H1 γ1 x w1 hk hR1 hx hS1=>?_
   obtain ⟨t1,hp,hk⟩:=putK_ok (fv_ok hk)
   exact wpOps_ok hn rest (i+1) t1 H1 γ1 w1 _ hk hrest hR1 (put_ok (hT.mono hS1) hp hn hx) fun t' H' γ' a' w' h1 h2 h3 h4=>hQ t' H' γ' a' w' h1 h2 h3 (hS1.trans h4)
theorem WpC_ok{n k:Nat}(hn:n≤lim):∀(c:Code) (t:Tmps) (H:List AObj) (Q:AExit→Tmps→List AObj→Prop),WpC E P n k c t H Q→WpS P n k c t H Q
 | .skip,t,H,Q,h=>⟨fun F γ w a R hR hT hQ=>wp_skip (hQ .normal t H γ a w h hR hT (.refl _ _))⟩
 | .label _,t,H,Q,h=>⟨fun F γ w a R hR hT hQ=>wp_label (hQ .normal t H γ a w h hR hT (.refl _ _))⟩
 | .ret,t,H,Q,h=>⟨fun F γ w a R hR hT hQ=>wp_ret (hQ .ret t H γ a w h hR hT (.refl _ _))⟩
 | .exit id,t,H,Q,h=>⟨fun F γ w a R hR hT hQ=>wp_exit (hQ (.exit id) t H γ a w h hR hT (.refl _ _))⟩
 | .goto l,t,H,Q,h=>⟨fun F γ w a R hR hT hQ=>wp_goto (hQ (.goto l) t H γ a w h hR hT (.refl _ _))⟩
 | .region id ops true,t,H,Q,h=>h
 | .region id ops false,t,H,Q,h=>⟨fun F γ w a R hR hT hQ=>by
   simp only[WpC] at h
   refine wp_region ?_
   have:=wpOps_ok hE hn (Q:=R) ops.toList 0 t H γ w a h (by simp) hR hT fun t' H' γ' a' w' h1 h2 h3 h4=>hQ .normal t' H' γ' a' w' h1 h2 h3 (.of_ext h4 k)
   simpa using this⟩
 | .seq x y,t,H,Q,h=>⟨fun F γ w a R hR hT hQ=>by
   simp only[WpC] at h
   refine wp_seq ((WpC_ok hn x t H _ h).out F γ w a _ hR hT fun e t1 H1 γ1 a1 w1 h1 hR1 hT1 hS1=>?_)
   cases e with
   | normal=>exact (WpC_ok hn y t1 H1 Q h1).out F γ1 w1 a1 _ hR1 hT1 fun e t2 H2 γ2 a2 w2 h2 hR2 hT2 hS2=>hQ e t2 H2 γ2 a2 w2 h2 hR2 hT2 (hS1.trans hS2)
   | exit id=>exact hQ _ t1 H1 γ1 a1 w1 h1 hR1 hT1 hS1
   | goto l=>exact hQ _ t1 H1 γ1 a1 w1 h1 hR1 hT1 hS1
   | ret=>exact hQ _ t1 H1 γ1 a1 w1 h1 hR1 hT1 hS1⟩
 | .cond c x y,t,H,Q,h=>⟨fun F γ w a R hR hT hQ=>by
   simp only[WpC] at h
   split at h
   ·rename_i v hc
    have hv:=hT.opnd _ _ hc
    rw[conc_lit_iff] at hv
    cases v with
    | true=>exact wp_cond_true hv ((WpC_ok hn x t H Q h).out F γ w a R hR hT hQ)
    | false=>exact wp_cond_false hv ((WpC_ok hn y t H Q h).out F γ w a R hR hT hQ)
   ·exact h.elim⟩
 | .block id b,t,H,Q,h=>⟨fun F γ w a R hR hT hQ=>by
   simp only[WpC] at h
   refine wp_block ((WpC_ok hn b t H _ h).out F γ w a _ hR hT fun e t1 H1 γ1 a1 w1 h1 hR1 hT1 hS1=>?_)
   cases e with
   | normal=>exact hQ _ t1 H1 γ1 a1 w1 h1 hR1 hT1 hS1
   | exit id'=>
     simp only[AExit.ex,Exit.inBlock]
     simp only[] at h1
     cases hb:Nat.beq id' id with
     | true=>
       rw[hb] at h1
       rw[if_pos (Nat.eq_of_beq_eq_true hb)];exact hQ .normal t1 H1 γ1 a1 w1 h1 hR1 hT1 hS1
     | false=>
       rw[hb] at h1
       rw[if_neg (Nat.ne_of_beq_eq_false hb)];exact hQ (.exit id') t1 H1 γ1 a1 w1 h1 hR1 hT1 hS1
   | goto l=>exact hQ _ t1 H1 γ1 a1 w1 h1 hR1 hT1 hS1
   | ret=>exact hQ _ t1 H1 γ1 a1 w1 h1 hR1 hT1 hS1⟩
 | .loop b,t,H,Q,h=>h
 | .scope b,t,H,Q,h=>⟨fun F γ w a R hR hT hQ=>by
   simp only[WpC] at h
   refine wp_scope_straight ((WpC_ok hn b t H _ h).out F γ w a _ hR hT fun e t1 H1 γ1 a1 w1 h1 hR1 hT1 hS1=>?_)
   cases e with
   | goto l=>exact h1.elim
   | normal=>exact hQ _ t1 H1 γ1 a1 w1 h1 hR1 hT1 hS1
   | exit id=>exact hQ _ t1 H1 γ1 a1 w1 h1 hR1 hT1 hS1
   | ret=>exact hQ _ t1 H1 γ1 a1 w1 h1 hR1 hT1 hS1⟩
 | .rangeFunc _ _ _ _,t,H,Q,h=>h.elim
 | .refuse _,t,H,Q,h=>h.elim
theorem fn_ok{f:Nat}{fn:Func}(hf:E.fn f=some fn){args:List AV}{H:List AObj}{K:AV→List AObj→Prop}(h:FnW E P fn args H K):CallP P f args H K:=⟨fun F γ w xs hR0 hpl hrs hxs=>by
 have hR:Rl F γ H w:=⟨hR0,fun o ho=>hpl o ho (by simp),hrs⟩
 obtain ⟨hfn,hcall⟩:=hE.fn f fn hf
 refine ⟨hcall xs w,fun R hRet=>?_⟩
 unfold FnW at h
 split at h
 ·exact h.elim
 ·rename_i c hb
  split at h
  ·rename_i hle
   simp only[Bool.and_eq_true] at hle
   have h1:=Nat.le_of_ble_eq_true hle.1
   have h2:=Nat.le_of_ble_eq_true hle.2
   have hlen:=concs_length hxs
   have hsz:xs.size=args.length:=by simpa using hlen
   have hlim:fn.ntmps≤lim:=by unfold lim;omega
   have hT:ConcT γ fn.ntmps (setArgs 0 args .e) { tmps:=xs++Array.replicate (fn.ntmps - xs.size) undef,defers:=[] }:=by
    refine ⟨by simp;omega,rfl,fun i u hu=>?_⟩
    rw[setArgs_get _ _ _ _ (by omega)] at hu
    split at hu
    ·rename_i hi
     obtain ⟨x,h3,h4⟩:=concs_get hxs i u (by simpa using hu)
     refine ⟨x,?_,h4⟩
     simp only[]
     rw[Array.getElem?_append_left (by omega)]
     simpa using h3
    ·simp[T.get] at hu
   refine calls_of_wp hfn hb ?_
   refine (WpC_ok hE hlim c _ H _ h).out F γ w _ _ hR hT fun e t' H' γ' a' w' hq hR' hT' hS'=>?_
   have hext:Ext γ γ':=fun o p hp=>hS' o (by
    rcases Nat.lt_or_ge o H.length with h5|h5
    ·exact h5
    ·rw[hR.rel.dom o h5] at hp;cases hp) p hp
   have hend:endK E fn K .ret t' H'→∃x,(results fn a'.tmps).run P w'=.ok x w'∧R (.returned x) w':=fun hk=>by
    obtain ⟨v,hv,hk⟩:=endK_ok hR'.rel.lim hk
    obtain ⟨x,h3,h4⟩:=results_ok hE hR'.rel hT' hv
    have hin:∀o,o<H.length→γ' o≠none:=fun o ho hn=>by
     cases hg:γ o with
     | none=>exact hR.pl o ho hg
     | some p=>rcases hext o p hg with h|h<;>rw[h] at hn<;>cases hn
    refine ⟨x,h3,hRet _ H' γ' x w' hk h4 ⟨hR'.rel,⟨hext,fun o ho hg=>absurd hg (hR.pl o ho),?_,fun o ho hg=>absurd hg (hR.pl o ho)⟩,fun q hq _=>hR'.pl q hq,hR'.rs⟩⟩
    show H.length≤H'.length
    rcases Nat.lt_or_ge H'.length H.length with h5|h5
    ·exact absurd (hR'.rel.dom H'.length (Nat.le_refl _)) (hin _ h5)
    ·exact h5
   cases e with
   | normal=>
     obtain ⟨x,h3,h4⟩:=hend hq
     exact ⟨hT'.defers,x,h3,h4⟩
   | ret=>
     obtain ⟨x,h3,h4⟩:=hend hq
     exact ⟨hT'.defers,x,h3,h4⟩
   | exit id=>exact hq.elim
   | goto l=>exact hq.elim
  ·exact h.elim⟩
end
mutual
def AV.ren(g:Nat→Nat):AV→AV
 | .lit v=>.lit v
 | .ptr o off=>.ptr (g o) off
 | .slice o off len cap=>.slice (g o) off len cap
 | .map o=>.map (g o)
 | .func fn a b=>.func fn (AV.rens g a) (AV.rens g b)
 | .iface t v=>.iface t (AV.ren g v)
 | .agg l=>.agg (AV.rens g l)
 | .tuple l=>.tuple (AV.rens g l)
def AV.rens(g:Nat→Nat):List AV→List AV
 | []=>[]
 | v::l=>AV.ren g v::AV.rens g l
end
def renEs(g:Nat→Nat):List (AV×AV×Nat)→List (AV×AV×Nat)
 | []=>[]
 | (k,v,b)::l=>(k.ren g,v.ren g,b)::renEs g l
def AObj.ren(g:Nat→Nat):AObj→AObj
 | .cells l e=>.cells (AV.rens g l) e
 | .map es c=>.map (renEs g es) c
 | .iter m a b c=>.iter (g m) a b c
 | ob=>ob
theorem rens_lits(g:Nat→Nat):∀xs:List Value,AV.rens g (xs.map .lit)=xs.map .lit
 | []=>rfl
 | x::xs=>by simp only[List.map_cons,AV.rens,AV.ren,rens_lits g xs]
theorem vw_ren(g:Nat→Nat)(ob:AObj):vw (ob.ren g)=(vw ob).ren g:=by
 cases ob with
 | row xs e=>simp[AObj.ren,vw,rens_lits]
 | _=>rfl
theorem ren_dead{g:Nat→Nat}{ob:AObj}(h:ob.ren g=.dead):ob=.dead:=by
 cases ob<;>first|rfl|cases h
theorem rens_length(g:Nat→Nat):∀l:List AV,(AV.rens g l).length=l.length
 | []=>rfl
 | _::l=>by simp[AV.rens,rens_length g l]
theorem rens_get(g:Nat→Nat):∀(l:List AV) (i:Nat),(AV.rens g l)[i]?=(l[i]?).map (AV.ren g)
 | [],i=>by simp[AV.rens]
 | v::l,0=>by simp[AV.rens]
 | v::l,i+1=>by simp[AV.rens,rens_get g l i]
mutual
theorem conc_ren{γ:Gam}{g:Nat→Nat}:∀(v:AV) (x:Value),Conc γ (v.ren g) x↔Conc (fun o=>γ (g o)) v x
 | .lit v,x=>by simp only[AV.ren,Conc]
 | .ptr o off,x=>by simp only[AV.ren,Conc,atP]
 | .slice o off len cap,x=>by simp only[AV.ren,Conc,atP,topP]
 | .map o,x=>by simp only[AV.ren,Conc,mapP]
 | .func fn a b,x=>by
   simp only[AV.ren,Conc]
   constructor
   ·rintro ⟨a',b',h,h1,h2⟩;exact ⟨a',b',h,(concs_ren a _).1 h1,(concs_ren b _).1 h2⟩
   ·rintro ⟨a',b',h,h1,h2⟩;exact ⟨a',b',h,(concs_ren a _).2 h1,(concs_ren b _).2 h2⟩
 | .iface t v,x=>by
   simp only[AV.ren,Conc]
   constructor
   ·rintro ⟨y,h,h1⟩;exact ⟨y,h,(conc_ren v _).1 h1⟩
   ·rintro ⟨y,h,h1⟩;exact ⟨y,h,(conc_ren v _).2 h1⟩
 | .agg l,x=>by
   simp only[AV.ren,Conc]
   constructor
   ·rintro ⟨y,h,h1⟩;exact ⟨y,h,(concs_ren l _).1 h1⟩
   ·rintro ⟨y,h,h1⟩;exact ⟨y,h,(concs_ren l _).2 h1⟩
 | .tuple l,x=>by
   simp only[AV.ren,Conc]
   constructor
   ·rintro ⟨y,h,h1⟩;exact ⟨y,h,(concs_ren l _).1 h1⟩
   ·rintro ⟨y,h,h1⟩;exact ⟨y,h,(concs_ren l _).2 h1⟩
theorem concs_ren{γ:Gam}{g:Nat→Nat}:∀(l:List AV) (xs:List Value),Concs γ (AV.rens g l) xs↔Concs (fun o=>γ (g o)) l xs
 | [],xs=>by simp only[AV.rens,Concs]
 | v::l,xs=>by
   simp only[AV.rens,Concs]
   constructor
   ·rintro ⟨x,ys,h,h1,h2⟩;exact ⟨x,ys,h,(conc_ren v _).1 h1,(concs_ren l _).1 h2⟩
   ·rintro ⟨x,ys,h,h1,h2⟩;exact ⟨x,ys,h,(conc_ren v _).2 h1,(concs_ren l _).2 h2⟩
end
theorem entRel_ren{γ:Gam}{g:Nat→Nat}:∀(es:List (AV×AV×Nat)) (l:List MapEntry),EntRel γ (renEs g es) l↔EntRel (fun o=>γ (g o)) es l
 | [],l=>by simp only[renEs,EntRel]
 | (k,v,b)::es,l=>by
   simp only[renEs,EntRel]
   constructor
   ·rintro ⟨k',v',r,h,h1,h2,h3⟩;exact ⟨k',v',r,h,(conc_ren k _).1 h1,(conc_ren v _).1 h2,(entRel_ren es _).1 h3⟩
   ·rintro ⟨k',v',r,h,h1,h2,h3⟩;exact ⟨k',v',r,h,(conc_ren k _).2 h1,(conc_ren v _).2 h2,(entRel_ren es _).2 h3⟩
theorem objRel_ren{γ:Gam}{g:Nat→Nat}{ob:AObj}{p:Place}{w:World}:ObjRel γ (ob.ren g) p w↔ObjRel (fun o=>γ (g o)) ob p w:=by
 cases ob with
 | cells l e=>
   simp only[AObj.ren,ObjRel,rens_length,rens_get]
   constructor
   ·rintro ⟨c,h1,h2,h3,h4⟩
    refine ⟨c,h1,h2,h3,fun i v hv=>?_⟩
    obtain ⟨x,h5,h6⟩:=h4 i (v.ren g) (by rw[hv];rfl)
    exact ⟨x,h5,(conc_ren v x).1 h6⟩
   ·rintro ⟨c,h1,h2,h3,h4⟩
    refine ⟨c,h1,h2,h3,fun i v hv=>?_⟩
    obtain ⟨u,hu,rfl⟩:=Option.map_eq_some_iff.1 hv
    obtain ⟨x,h5,h6⟩:=h4 i u hu
    exact ⟨x,h5,(conc_ren u x).2 h6⟩
 | map es c=>
   simp only[AObj.ren,ObjRel]
   constructor
   ·rintro ⟨es',h1,h2⟩;exact ⟨es',h1,(entRel_ren es _).1 h2⟩
   ·rintro ⟨es',h1,h2⟩;exact ⟨es',h1,(entRel_ren es _).2 h2⟩
 | iter m a b c=>simp only[AObj.ren,ObjRel,mapP]
 | row xs e=>simp only[AObj.ren,ObjRel]
 | mrow es=>simp only[AObj.ren,ObjRel]
 | res R=>simp only[AObj.ren,ObjRel]
 | dead=>simp only[AObj.ren,ObjRel]
theorem rsOf_ren(g:Nat→Nat)(ob:AObj):rsOf (ob.ren g)=rsOf ob:=by cases ob<;>rfl
def ObE:AObj→AObj→Prop
 | .res R,.res R'=>∀w S,R.at_ w S→R'.at_ w S
 | .res _,_=>False
 | _,.res _=>False
 | a,b=>vw a=vw b
theorem kp{R:Res}{g:Nat→Nat}:ObE (.res R) ((AObj.res R).ren g):=fun _ _ h=>h
theorem ObE.eq{a b:AObj}(h:ObE a b):vw a=vw b∧∀w S,(rsOf a).at_ w S→(rsOf b).at_ w S:=by
 cases a<;>cases b<;>first|exact ⟨h,fun _ _ h=>h⟩|exact ⟨rfl,h⟩|exact False.elim h
theorem stars_at:∀{L:List Res} {w:World} {T:Nat→Prop} {i:Nat} {r:Res},stars L w T→L[i]?=some r→∃S1 S2,r.at_ w S1∧stars (L.set i resNil) w S2∧(∀b,S1 b→S2 b→False)∧∀b,T b↔S1 b∨S2 b
 | [],_,_,_,_,_,h=>by simp at h
 | x::L,w,T,0,r,⟨S1,S2,h1,h2,hd,hT⟩,h=>by
   simp at h
   subst h
   exact ⟨S1,S2,h1,⟨fun _=>False,S2,fun _ h=>h,h2,fun _ h _=>h,fun b=>by simp⟩,hd,hT⟩
 | x::L,w,T,i+1,r,⟨S1,S2,h1,h2,hd,hT⟩,h=>by
   obtain ⟨A,B,a1,a2,a3,a4⟩:=stars_at h2 (by simpa using h)
   refine ⟨A,fun b=>S1 b∨B b,a1,⟨S1,B,h1,a2,fun b x y=>hd b x ((a4 b).2 (.inr y)),fun b=>Iff.rfl⟩,fun b x y=>y.elim (fun y=>hd b y ((a4 b).2 (.inl x))) (a3 b x),fun b=>?_⟩
   rw[hT b,a4 b]
   exact ⟨fun h=>h.elim (fun h=>.inr (.inl h)) (fun h=>h.elim .inl (fun h=>.inr (.inr h))),fun h=>h.elim (fun h=>.inr (.inl h)) (fun h=>h.elim .inl (fun h=>.inr (.inr h)))⟩
def big:Nat:=lim+1
def gOf(ρ:List Nat)(i:Nat):Nat:=ρ.getD i big
def SubO(g:Nat→Nat)(H:List AObj):List Nat→List AObj→Prop
 | [],[]=>True
 | i::ρ,ob::H0=>(∃ob',H[i]?=some ob'∧ObE ob' (ob.ren g))∧SubO g H ρ H0
 | _,_=>False
theorem subO_len{g:Nat→Nat}{H:List AObj}:∀{ρ:List Nat} {H0:List AObj},SubO g H ρ H0→ρ.length=H0.length
 | [],[],_=>rfl
 | _::_,_::_,h=>by simp[subO_len h.2]
 | [],_::_,h=>h.elim
 | _::_,[],h=>h.elim
theorem subO_get{g:Nat→Nat}{H:List AObj}:∀{ρ:List Nat} {H0:List AObj},SubO g H ρ H0→∀(i:Nat) (ob:AObj),H0[i]?=some ob→∃j ob',ρ[i]?=some j∧H[j]?=some ob'∧ObE ob' (ob.ren g)
 | [],[],_,i,ob,h=>by simp at h
 | j::ρ,o::H0,h,0,ob,hb=>by
   simp at hb
   subst hb
   obtain ⟨⟨ob',h1,h2⟩,_⟩:=h
   exact ⟨j,ob',rfl,h1,h2⟩
 | j::ρ,o::H0,h,i+1,ob,hb=>by
   obtain ⟨j',ob',h1,h2⟩:=subO_get h.2 i ob (by simpa using hb)
   exact ⟨j',ob',by simpa using h1,h2⟩
 | [],_::_,h,_,_,_=>h.elim
 | _::_,[],h,_,_,_=>h.elim
def nodupB:List Nat→Bool
 | []=>true
 | i::l=>l.all (fun j=>!Nat.beq i j)&&nodupB l
theorem nodupB_ok:∀{l:List Nat},nodupB l=true→l.Nodup
 | [],_=>List.nodup_nil
 | i::l,h=>by
   simp only[nodupB,Bool.and_eq_true,List.all_eq_true,Bool.not_eq_true'] at h
   exact List.nodup_cons.2 ⟨fun hi=>by have:=h.1 i hi;simp at this,nodupB_ok h.2⟩
theorem nodup_inj:∀{l:List Nat},l.Nodup→∀{i j:Nat} (hi:i<l.length) (hj:j<l.length),l[i]=l[j]→i=j
 | [],_,i,_,hi,_,_=>absurd hi (by simp)
 | a::l,h,0,0,_,_,_=>rfl
 | a::l,h,0,j+1,_,hj,e=>by
   simp only[List.getElem_cons_zero,List.getElem_cons_succ] at e
   exact absurd (by rw[e];exact List.getElem_mem _) (List.nodup_cons.1 h).1
 | a::l,h,i+1,0,hi,_,e=>by
   simp only[List.getElem_cons_zero,List.getElem_cons_succ] at e
   exact absurd (by rw[←e];exact List.getElem_mem _) (List.nodup_cons.1 h).1
 | a::l,h,i+1,j+1,hi,hj,e=>by
   simp only[List.getElem_cons_succ] at e
   rw[nodup_inj (List.nodup_cons.1 h).2 (by simpa using hi) (by simpa using hj) e]
theorem gOf_lt{ρ:List Nat}{i:Nat}(h:i<ρ.length):gOf ρ i=ρ[i]:=by simp[gOf,List.getD,h]
theorem gOf_ge{ρ:List Nat}{i:Nat}(h:ρ.length≤i):gOf ρ i=big:=by simp[gOf,List.getD,h]
theorem big_none{F:Frz}{γ:Gam}{H:List AObj}{w:World}(h:RelL F γ (hp H) w):γ big=none:=h.dom _ (by have:=h.lim;unfold big;omega)
theorem RelL.sub{F:Frz}{γ:Gam}{H H0:List AObj}{w:World}{ρ:List Nat}(h:RelL F γ (hp H) w)(hs:SubO (gOf ρ) H ρ H0)(hn:nodupB ρ=true)(hl:Nat.ble H0.length lim=true):RelL F (fun o=>γ (gOf ρ o)) (hp H0) w:=by
 have hlen:=subO_len hs
 have hlim:H0.length≤lim:=Nat.le_of_ble_eq_true hl
 have hnd:=nodupB_ok hn
 have hbig:=big_none h
 have hin:∀{o:Nat},γ (gOf ρ o)≠none→o<ρ.length:=fun {o} hq=>by
  rcases Nat.lt_or_ge o ρ.length with h1|h1
  ·exact h1
  ·rw[gOf_ge h1] at hq;exact absurd hbig hq
 have hobj:∀{o:Nat},o<ρ.length→∃ob ob',H0[o]?=some ob∧H[gOf ρ o]?=some ob'∧vw ob'=(vw ob).ren (gOf ρ):=fun {o} ho=>by
  have hb:H0[o]?=some H0[o]:=List.getElem?_eq_getElem (by omega)
  obtain ⟨j,ob',h1,h2,h3⟩:=subO_get hs o _ hb
  refine ⟨_,ob',hb,?_,by rw[h3.eq.1,vw_ren]⟩
  rw[gOf_lt ho]
  rw[List.getElem?_eq_getElem ho] at h1
  cases h1
  exact h2
 refine ⟨⟨fun o ho=>?_,fun o p hp'=>?_,fun o ho=>?_,fun o o' p p' h1 h2 e=>?_,hlim⟩,fun o p hp'=>?_,h.frame.less fun o p hp'=>⟨_,p,hp',rfl⟩⟩
 ·have ho:H0.length≤o:=ho
  rw[gOf_ge (by omega)]
  exact hbig
 ·have ho:=hin (o:=o) (by rw[hp'];simp)
  obtain ⟨ob,ob',h1,h2,h3⟩:=hobj ho
  obtain ⟨ob2,h4,h5⟩:=h.obj _ p hp'
  rw[hp_get h.lim,h2] at h4
  simp only[Option.map_some,Option.some.injEq] at h4
  subst h4
  rw[h3] at h5
  exact ⟨vw ob,by rw[hp_get hlim,h1];rfl,objRel_ren.1 h5⟩
 ·have hlt:=hin (o:=o) (by rw[ho];simp)
  obtain ⟨ob,ob',h1,h2,h3⟩:=hobj hlt
  have h4:=h.gone _ ho
  rw[hp_get h.lim,h2] at h4
  simp only[Option.map_some,Option.some.injEq] at h4
  rw[h4] at h3
  rw[hp_get hlim,h1]
  simp only[Option.map_some,Option.some.injEq]
  exact ren_dead h3.symm
 ·have e1:=hin (o:=o) (by rw[h1];simp)
  have e2:=hin (o:=o') (by rw[h2];simp)
  have e3:=h.inj _ _ p p' h1 h2 e
  rw[gOf_lt e1,gOf_lt e2] at e3
  exact nodup_inj hnd e1 e2 e3
 ·have ho:=hin (o:=o) (by rw[hp'];simp)
  obtain ⟨ob,ob',h1,h2,h3⟩:=hobj ho
  have h4:=h.live _ p hp'
  rw[hp_get h.lim,h2] at h4
  rw[hp_get hlim,h1]
  intro e
  apply h4
  simp only[Option.map_some,Option.some.injEq] at e ⊢
  rw[h3,e]
  rfl
def setNil:List Nat→List Res→List Res
 | [],L=>L
 | i::ρ,L=>setNil ρ (L.set i resNil)
theorem subO_part{g:Nat→Nat}{H:List AObj}:∀{ρ:List Nat} {H0:List AObj} {L:List Res},SubO g H ρ H0→ρ.Nodup→(∀i,i∈ρ→L[i]?=(rss H)[i]?)→∀w T,stars L w T →
  ∃T1 T2,stars (rss H0) w T1∧stars (setNil ρ L) w T2∧(∀b,T1 b→T2 b→False)∧∀b,T1 b∨T2 b→T b
 | [],[],L,_,_,_=>fun w T h=>⟨fun _=>False,T,fun _ h=>h,h,fun _ h _=>h,fun b h=>h.elim False.elim id⟩
 | j::ρ,ob::H0,L,h,hn,hL=>fun w T ht=>by
   obtain ⟨⟨ob',h1,h2⟩,h3⟩:=h
   have hj:L[j]?=some (rsOf ob'):=by rw[hL j (by simp)];unfold rss;rw[List.getElem?_map,h1];rfl
   obtain ⟨S1,S2,a1,a2,a3,a4⟩:=stars_at ht hj
   have hnd:=List.nodup_cons.1 hn
   obtain ⟨T1,T2,b1,b2,b3,b4⟩:=subO_part (L:=L.set j resNil) h3 hnd.2 (fun i hi=>by
    rw[List.getElem?_set,if_neg (fun e=>hnd.1 (by rw[e];exact hi))]
    exact hL i (List.mem_cons_of_mem _ hi)) w S2 a2
   have hr:=h2.eq.2 w S1 a1
   rw[rsOf_ren] at hr
   refine ⟨fun b=>S1 b∨T1 b,T2,⟨S1,T1,hr,b1,fun b x y=>a3 b x (b4 b (.inl y)),fun b=>Iff.rfl⟩,b2,fun b x y=>x.elim (fun x=>a3 b x (b4 b (.inr y))) (fun x=>b3 b x y),fun b hb=>(a4 b).2 ?_⟩
   rcases hb with (hb|hb)|hb
   ·exact .inl hb
   ·exact .inr (b4 b (.inl hb))
   ·exact .inr (b4 b (.inr hb))
 | [],_::_,_,h,_,_=>h.elim
 | _::_,[],_,h,_,_=>h.elim
theorem Rl.sub{F:Frz}{γ:Gam}{H H0:List AObj}{w:World}{ρ:List Nat}(h:Rl F γ H w)(hs:SubO (gOf ρ) H ρ H0)(hn:nodupB ρ=true)(hl:Nat.ble H0.length lim=true):Rl F (fun o=>γ (gOf ρ o)) H0 w:=by
 refine ⟨h.rel.sub hs hn hl,fun o ho=>?_,?_⟩
 case refine_2=>
  obtain ⟨T,h1,h2⟩:=h.rs.out
  obtain ⟨T',_,h3,_,_,h4⟩:=subO_part hs (nodupB_ok hn) (fun _ _=>rfl) w T h1
  exact ⟨T',h3,fun b hb=>⟨(h2 b (h4 b (.inl hb))).1,fun o p hp=>(h2 b (h4 b (.inl hb))).2 _ p hp⟩⟩
 have hlen:=subO_len hs
 obtain ⟨j,ob',h1,h2,_⟩:=subO_get hs o _ (List.getElem?_eq_getElem ho)
 rw[List.getElem?_eq_getElem (by omega)] at h1
 cases h1
 simp only[gOf_lt (show o<ρ.length by omega)]
 exact h.pl _ (List.getElem?_eq_some_iff.1 h2).1
def tp:List (Nat×AV)→Tmps
 | []=>.e
 | p::l=>(tp l).put p.1 p.2
def SubT(g:Nat→Nat)(t:Tmps):List (Nat×AV)→Prop
 | []=>True
 | p::l=>(Nat.ble p.1 lim=true∧t.get p.1=some (p.2.ren g))∧SubT g t l
theorem tp_get{g:Nat→Nat}{t:Tmps}:∀{l:List (Nat×AV)},SubT g t l→∀(i:Nat) (v:AV),(tp l).get i=some v→t.get i=some (v.ren g)
 | [],_,i,v,h=>by simp[tp,T.get] at h
 | p::l,hs,i,v,h=>by
   simp only[tp] at h
   rw[T.get_put _ _ _ _ (Nat.le_of_ble_eq_true hs.1.1)] at h
   split at h
   ·rename_i e
    cases h
    rw[e]
    exact hs.1.2
   ·exact tp_get hs.2 i v h
def fixB:Nat→List Nat→Nat→Bool
 | 0,_,_=>true
 | k+1,ρ,i=>match ρ with
   | []=>false
   | j::ρ=>Nat.beq j i&&fixB k ρ (i+1)
theorem fixB_ok:∀{k:Nat} {ρ:List Nat} {i:Nat},fixB k ρ i=true→∀o,o<k→ρ[o]?=some (i+o)
 | 0,_,_,_,o,ho=>absurd ho (by omega)
 | k+1,[],i,h,o,ho=>by simp[fixB] at h
 | k+1,j::ρ,i,h,o,ho=>by
   simp only[fixB,Bool.and_eq_true] at h
   cases o with
   | zero=>simp[Nat.eq_of_beq_eq_true h.1]
   | succ o=>
     have:=fixB_ok h.2 o (by omega)
     simp only[List.getElem?_cons_succ]
     rw[this]
     congr 1
     omega
structure Sub(k:Nat)(ρ:List Nat)(t:Tmps)(H:List AObj)(l:List (Nat×AV))(H0:List AObj):Prop where
 chk:(nodupB ρ&&fixB k ρ 0&&Nat.ble H0.length lim)=true
 tmps:SubT (gOf ρ) t l
 objs:SubO (gOf ρ) H ρ H0
theorem Sub.old{k:Nat}{ρ:List Nat}{t:Tmps}{H:List AObj}{l:List (Nat×AV)}{H0:List AObj}(h:Sub k ρ t H l H0)(γ:Gam):Old k γ (fun o=>γ (gOf ρ o)):=fun o ho p hp=>by
 have h1:=h.chk
 simp only[Bool.and_eq_true] at h1
 have h2:=fixB_ok h1.1.2 o ho
 have:gOf ρ o=o:=by
  unfold gOf List.getD
  rw[h2]
  simp
 simp only[this]
 exact .inl hp
theorem Sub.rl{F:Frz}{γ:Gam}{w:World}{k:Nat}{ρ:List Nat}{t:Tmps}{H:List AObj}{l:List (Nat×AV)}{H0:List AObj}(h:Sub k ρ t H l H0)(hR:Rl F γ H w):Rl F (fun o=>γ (gOf ρ o)) H0 w:=by
 have h1:=h.chk
 simp only[Bool.and_eq_true] at h1
 exact hR.sub h.objs h1.1.1 h1.2
theorem Sub.ct{γ:Gam}{n:Nat}{a:Act}{k:Nat}{ρ:List Nat}{t:Tmps}{H:List AObj}{l:List (Nat×AV)}{H0:List AObj}(h:Sub k ρ t H l H0)(hT:ConcT γ n t a):ConcT (fun o=>γ (gOf ρ o)) n (tp l) a:=
 ⟨hT.size,hT.defers,fun i v hv=>let ⟨x,h1,h2⟩:=hT.get i _ (tp_get h.tmps i v hv);⟨x,h1,(conc_ren v x).1 h2⟩⟩
theorem WpS.sub{P:Program}{n k:Nat}{c:Code}{t:Tmps}{H:List AObj}{Q:AExit→Tmps→List AObj→Prop}(ρ:List Nat){l:List (Nat×AV)}{H0:List AObj}(hs:Sub k ρ t H l H0)(h:WpS P n k c (tp l) H0 Q):WpS P n k c t H Q:=
 ⟨fun F γ w a R hR hT hQ=>h.out F _ w a R (hs.rl hR) (hs.ct hT) fun e t' H' γ' a' w' h1 h2 h3 h4=>hQ e t' H' γ' a' w' h1 h2 h3 ((hs.old γ).trans h4)⟩
section
variable{P:Program}{E:Env}(hE:EnvOk P E)
include hE
theorem loopP{n k:Nat}(hn:Nat.ble n lim=true){b:Code}{t:Tmps}{H:List AObj}{Q:AExit→Tmps→List AObj→Prop}{ι:Type}(T:ι→List (Nat×AV))(Hs:ι→List AObj)(I:ι→Prop)(m:ι→Nat)(s0:ι)(i0:I s0)(ρ0:List Nat)(h0:Sub k ρ0 t H (T s0) (Hs s0))
  (hb:∀s,I s→WpC E P n k b (tp (T s)) (Hs s) (fun e t' H'=>match e with
   | .normal=>∃s' ρ,(I s'∧m s'<m s)∧Sub k ρ t' H' (T s') (Hs s')
   | .exit id=>Q (.exit id) t' H'
   | .goto l=>Q (.goto l) t' H'
   | .ret=>Q .ret t' H')):WpS P n k (.loop b) t H Q:=by
 have hn:=Nat.le_of_ble_eq_true hn
 refine ⟨fun F γ w a R hR hT hQ=>?_⟩
 have key:∀(f:Nat) (s:ι),I s→m s<f→∀(γ1:Gam) (w:World) (a:Act),Rl F γ1 (Hs s) w→ConcT γ1 n (tp (T s)) a→Old k γ γ1→Code.rounds P b R f a w:=by
  intro f
  induction f with
  | zero=>intro s _ h;exact absurd h (by omega)
  | succ f ih=>
    intro s hi hm γ1 w a hR hT hold
    rw[rounds_succ]
    refine (WpC_ok hE hn b _ _ _ (hb s hi)).out F γ1 w a _ hR hT fun e t' H' γ' a' w' hq hR' hT' hS'=>?_
    cases e with
    | normal=>
      obtain ⟨s',ρ,⟨hi',hlt⟩,hs⟩:=hq
      exact ih s' hi' (by omega) _ w' a' (hs.rl hR') (hs.ct hT') ((hold.trans hS').trans (hs.old γ'))
    | exit id=>exact hQ _ t' H' γ' a' w' hq hR' hT' (hold.trans hS')
    | goto l=>exact hQ _ t' H' γ' a' w' hq hR' hT' (hold.trans hS')
    | ret=>exact hQ _ t' H' γ' a' w' hq hR' hT' (hold.trans hS')
 exact wp_loop_rounds (m s0+1) (key _ s0 i0 (by omega) _ w a (h0.rl hR) (h0.ct hT) (h0.old γ))
end
end Go.Proofs.YtmbdghclhpboaaaGreat.Ev

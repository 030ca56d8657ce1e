/- Part of the proof: SyD SyE. Conditions: as each states. -/
import Derived.Test.YtmbdghclhpboaaaGreatPb12
set_option linter.all false
namespace Go.Proofs.YtmbdghclhpboaaaGreat.Ev
def idxOf(o:Nat):List Nat→Nat→Option Nat
 | [],_=>none
 | j::ρ,i=>match Nat.beq o j with
   | true=>some i
   | false=>idxOf o ρ (i+1)
theorem idxOf_some{o:Nat}:∀{ρ:List Nat} {i j:Nat},idxOf o ρ i=some j→i≤j∧ρ[j - i]?=some o
 | [],i,j,h=>by simp[idxOf] at h
 | x::ρ,i,j,h=>by
   simp only[idxOf] at h
   split at h
   ·rename_i hb
    cases h
    simp[Nat.eq_of_beq_eq_true hb]
   ·obtain ⟨h1,h2⟩:=idxOf_some h
    refine ⟨by omega,?_⟩
    rw[show j - i=(j - (i+1))+1 by omega,List.getElem?_cons_succ]
    exact h2
theorem idxOf_none{o:Nat}:∀{ρ:List Nat} {i:Nat},idxOf o ρ i=none→o∉ρ
 | [],_,_=>by simp
 | x::ρ,i,h=>by
   simp only[idxOf] at h
   split at h
   ·cases h
   ·rename_i hb
    intro hm
    rcases List.mem_cons.1 hm with rfl|hm
    ·simp at hb
    ·exact idxOf_none h hm
def hOf(n:Nat)(ρ ks:List Nat)(o:Nat):Nat:=match Nat.blt o n with
 | true=>match idxOf o ρ 0 with
   | some i=>i
   | none=>big
 | false=>ks.getD (o - n) big
def BackO(h:Nat→Nat)(ρ:List Nat)(H0':List AObj):Nat→List AObj→List AObj→List Nat→Prop
 | _,[],[],[]=>True
 | o,[],ob'::H',j::ks=>(∃ob0,H0'[j]?=some ob0∧ObE ob0 (ob'.ren h))∧BackO h ρ H0' (o+1) [] H' ks
 | o,ob::H,ob'::H',ks=>(match idxOf o ρ 0 with
   | some i=>∃ob0,H0'[i]?=some ob0∧ObE ob0 (ob'.ren h)
   | none=>ObE ob ob')∧BackO h ρ H0' (o+1) H H' ks
 | _,_,_,_=>False
theorem backO_len{h:Nat→Nat}{ρ:List Nat}{H0':List AObj}:∀{o:Nat} {H H':List AObj} {ks:List Nat},BackO h ρ H0' o H H' ks→H'.length=H.length+ks.length
 | _,[],[],[],_=>rfl
 | o,[],_::H',j::ks,hb=>by have:=backO_len hb.2;simp at this ⊢;omega
 | o,_::H,_::H',ks,hb=>by have:=backO_len hb.2;simp at this ⊢;omega
 | _,[],[],_::_,hb=>hb.elim
 | _,[],_::_,[],hb=>hb.elim
 | _,_::_,[],_,hb=>hb.elim
theorem backO_get{h:Nat→Nat}{ρ:List Nat}{H0':List AObj}:∀{o:Nat} {H H':List AObj} {ks:List Nat},BackO h ρ H0' o H H' ks→∀(q:Nat) (ob':AObj),H'[q]?=some ob' →
  (q<H.length→(match idxOf (o+q) ρ 0 with
   | some i=>∃ob0,H0'[i]?=some ob0∧ObE ob0 (ob'.ren h)
   | none=>∃ob,H[q]?=some ob∧ObE ob ob')) ∧
  (H.length≤q→∃j ob0,ks[q - H.length]?=some j∧H0'[j]?=some ob0∧ObE ob0 (ob'.ren h))
 | o,[],[],[],_,q,ob',hq=>by simp at hq
 | o,[],x::H',j::ks,hb,0,ob',hq=>by
   simp at hq
   subst hq
   refine ⟨fun h=>by simp at h,fun _=>?_⟩
   obtain ⟨ob0,h1,h2⟩:=hb.1
   exact ⟨j,ob0,by simp,h1,h2⟩
 | o,[],x::H',j::ks,hb,q+1,ob',hq=>by
   have:=(backO_get hb.2 q ob' (by simpa using hq)).2 (by simp)
   exact ⟨fun h=>by simp at h,fun _=>by simpa using this⟩
 | o,y::H,x::H',ks,hb,0,ob',hq=>by
   simp at hq
   subst hq
   refine ⟨fun _=>?_,fun h=>by simp at h⟩
   have h1:=hb.1
   rw[Nat.add_zero]
   split at h1
   ·exact h1
   ·exact ⟨y,by simp,h1⟩
 | o,y::H,x::H',ks,hb,q+1,ob',hq=>by
   obtain ⟨h1,h2⟩:=backO_get hb.2 q ob' (by simpa using hq)
   refine ⟨fun hl=>?_,fun hl=>?_⟩
   ·have:=h1 (by simpa using hl)
    rw[show o+(q+1)=o+1+q by omega]
    split at this
    ·exact this
    ·simpa using this
   ·have:=h2 (by simpa using hl)
    simpa using this
 | _,[],[],_::_,hb,_,_,_=>hb.elim
 | _,[],_::_,[],hb,_,_,_=>hb.elim
 | _,_::_,[],_,hb,_,_,_=>hb.elim
def clrAt(ρ:List Nat):Nat→List Res→List Res
 | _,[]=>[]
 | o,r::L=>(match idxOf o ρ 0 with
   | some _=>resNil
   | none=>r)::clrAt ρ (o+1) L
theorem clrAt_get{ρ:List Nat}:∀{L:List Res} {o q:Nat},(clrAt ρ o L)[q]?=(L[q]?).map fun r=>match idxOf (o+q) ρ 0 with
  | some _=>resNil
  | none=>r
 | [],_,_=>by simp[clrAt]
 | r::L,o,0=>by simp[clrAt]
 | r::L,o,q+1=>by
   simp only[clrAt,List.getElem?_cons_succ]
   rw[clrAt_get,show o+1+q=o+(q+1) by omega]
theorem idxOf_isSome{o:Nat}:∀{ρ:List Nat} {i:Nat},o∈ρ→(idxOf o ρ i).isSome=true
 | x::ρ,i,h=>by
   simp only[idxOf]
   split
   ·rfl
   ·rename_i hb
    rcases List.mem_cons.1 h with rfl|h
    ·simp at hb
    ·exact idxOf_isSome h
theorem setNil_get{ρ:List Nat}:∀{L:List Res} {q:Nat},(setNil ρ L)[q]?=(L[q]?).map fun r=>match idxOf q ρ 0 with
  | some _=>resNil
  | none=>r:=by
 have key:∀(ρ:List Nat) (L:List Res) (q:Nat),(setNil ρ L)[q]?=if q∈ρ then (L[q]?).map fun _=>resNil else L[q]?:=by
  intro ρ
  induction ρ with
  | nil=>intro L q;simp[setNil]
  | cons x ρ ih=>
    intro L q
    simp only[setNil]
    rw[ih,List.getElem?_set]
    by_cases e:x=q
    ·subst e
     rcases Nat.lt_or_ge x L.length with h|h
     ·simp[h]
     ·simp[Nat.not_lt.2 h,List.getElem?_eq_none h]
    ·simp[e,Ne.symm e]
 intro L q
 rw[key]
 by_cases h:q∈ρ
 ·rw[if_pos h]
  have:=idxOf_isSome (i:=0) h
  obtain ⟨i,hi⟩:=Option.isSome_iff_exists.1 this
  rw[hi]
 ·rw[if_neg h]
  have:idxOf q ρ 0=none:=by
   cases hi:idxOf q ρ 0 with
   | none=>rfl
   | some i=>
     obtain ⟨_,hj⟩:=idxOf_some hi
     exact absurd (List.mem_of_getElem? hj) h
  rw[this]
  simp
theorem setNil_clr(ρ:List Nat)(L:List Res):setNil ρ L=clrAt ρ 0 L:=by
 apply List.ext_getElem?
 intro q
 rw[setNil_get,clrAt_get,Nat.zero_add]
theorem back_ent{h:Nat→Nat}{ρ:List Nat}{H0':List AObj}{w:World}:∀{H':List AObj} {o:Nat} {H:List AObj} {ks:List Nat} {L0:List Res} {T0 T1:Nat→Prop},BackO h ρ H0' o H H' ks→ks.Nodup→(∀j∈ks,ρ.length≤j) →
  (∀q i,o≤q→idxOf q ρ 0=some i→L0[i]?=(rss H0')[i]?)→(∀j∈ks,L0[j]?=(rss H0')[j]?)→stars L0 w T0→stars (clrAt ρ o (rss H)) w T1→(∀b,T0 b→T1 b→False)→∃T,(∀b,T b→T0 b∨T1 b)∧stars (rss H') w T
 | [],_,[],[],_,_,_,_,_,_,_,_,_,_,_=>⟨fun _=>False,fun _ h=>h.elim,fun _ h=>h⟩
 | ob'::H',o,[],j::ks,L0,T0,T1,hb,hn,hk,hA,hB,h0,h1,hd=>by
   obtain ⟨⟨ob0,a1,a2⟩,a3⟩:=hb
   have hj:L0[j]?=some (rsOf ob0):=by rw[hB j (by simp)];unfold rss;rw[List.getElem?_map,a1];rfl
   obtain ⟨S1,S2,b1,b2,b3,b4⟩:=stars_at h0 hj
   have hnd:=List.nodup_cons.1 hn
   obtain ⟨T,c1,c2⟩:=back_ent (L0:=L0.set j resNil) a3 hnd.2 (fun i hi=>hk i (List.mem_cons_of_mem _ hi)) (fun q i hq hi=>by
    rw[List.getElem?_set,if_neg]
    ·exact hA q i (by omega) hi
    ·intro e
     obtain ⟨_,e1⟩:=idxOf_some hi
     have:=(List.getElem?_eq_some_iff.1 e1).1
     have:=hk j (by simp)
     omega) (fun i hi=>by
    rw[List.getElem?_set,if_neg (fun e=>hnd.1 (by rw[e];exact hi))]
    exact hB i (List.mem_cons_of_mem _ hi)) b2 h1 (fun b x y=>hd b ((b4 b).2 (.inr x)) y)
   have hr:=a2.eq.2 w S1 b1
   rw[rsOf_ren] at hr
   refine ⟨fun b=>S1 b∨T b,fun b hb=>?_,S1,T,hr,c2,fun b x y=>?_,fun b=>Iff.rfl⟩
   ·rcases hb with hb|hb
    ·exact .inl ((b4 b).2 (.inl hb))
    ·exact (c1 b hb).imp (fun h=>(b4 b).2 (.inr h)) id
   ·rcases c1 b y with y|y
    ·exact b3 b x y
    ·exact hd b ((b4 b).2 (.inl x)) y
 | ob'::H',o,ob::H,ks,L0,T0,T1,hb,hn,hk,hA,hB,h0,h1,hd=>by
   obtain ⟨a1,a3⟩:=hb
   obtain ⟨A,B,d1,d2,d3,d4⟩:=h1
   cases hi:idxOf o ρ 0 with
   | none=>
     rw[hi] at a1 d1
     simp only[] at a1 d1
     obtain ⟨T,c1,c2⟩:=back_ent a3 hn hk (fun q i hq=>hA q i (by omega)) hB h0 d2 (fun b x y=>hd b x ((d4 b).2 (.inr y)))
     refine ⟨fun b=>A b∨T b,fun b hb=>?_,A,T,a1.eq.2 w A d1,c2,fun b x y=>?_,fun b=>Iff.rfl⟩
     ·rcases hb with hb|hb
      ·exact .inr ((d4 b).2 (.inl hb))
      ·exact (c1 b hb).imp id (fun h=>(d4 b).2 (.inr h))
     ·rcases c1 b y with y|y
      ·exact hd b y ((d4 b).2 (.inl x))
      ·exact d3 b x y
   | some i=>
     rw[hi] at a1
     simp only[] at a1
     obtain ⟨ob0,e1,e2⟩:=a1
     have hj:L0[i]?=some (rsOf ob0):=by rw[hA o i (Nat.le_refl _) hi];unfold rss;rw[List.getElem?_map,e1];rfl
     obtain ⟨S1,S2,b1,b2,b3,b4⟩:=stars_at h0 hj
     obtain ⟨_,e3⟩:=idxOf_some hi
     rw[Nat.sub_zero] at e3
     obtain ⟨T,c1,c2⟩:=back_ent (L0:=L0.set i resNil) a3 hn hk (fun q i' hq hi'=>by
      rw[List.getElem?_set,if_neg]
      ·exact hA q i' (by omega) hi'
      ·intro e
       obtain ⟨_,e4⟩:=idxOf_some hi'
       rw[Nat.sub_zero,←e,e3] at e4
       have:=Option.some.inj e4
       omega) (fun j hj=>by
      rw[List.getElem?_set,if_neg]
      ·exact hB j hj
      ·intro e
       have:=(List.getElem?_eq_some_iff.1 e3).1
       have:=hk j hj
       omega) b2 d2 (fun b x y=>hd b ((b4 b).2 (.inr x)) ((d4 b).2 (.inr y)))
     have hr:=e2.eq.2 w S1 b1
     rw[rsOf_ren] at hr
     refine ⟨fun b=>S1 b∨T b,fun b hb=>?_,S1,T,hr,c2,fun b x y=>?_,fun b=>Iff.rfl⟩
     ·rcases hb with hb|hb
      ·exact .inl ((b4 b).2 (.inl hb))
      ·exact (c1 b hb).imp (fun h=>(b4 b).2 (.inr h)) (fun h=>(d4 b).2 (.inr h))
     ·rcases c1 b y with y|y
      ·exact b3 b x y
      ·exact hd b ((b4 b).2 (.inl x)) ((d4 b).2 (.inr y))
 | [],_,[],_::_,_,_,_,hb,_,_,_,_,_,_,_=>hb.elim
 | _::_,_,[],[],_,_,_,hb,_,_,_,_,_,_,_=>hb.elim
 | [],_,_::_,_,_,_,_,hb,_,_,_,_,_,_,_=>hb.elim
structure Back(ρ ks:List Nat)(H H' H0':List AObj)(v v0:AV):Prop where
 chk:(nodupB ks&&ks.all (fun j=>Nat.ble ρ.length j)&&Nat.ble H'.length lim)=true
 val:v0=v.ren (hOf H.length ρ ks)
 objs:BackO (hOf H.length ρ ks) ρ H0' 0 H H' ks
theorem hOf_old{n:Nat}{ρ ks:List Nat}{o:Nat}(h:o<n):hOf n ρ ks o=match idxOf o ρ 0 with
  | some i=>i
  | none=>big:=by
 unfold hOf
 rw[show Nat.blt o n=true from Nat.ble_eq_true_of_le h]
theorem hOf_new{n:Nat}{ρ ks:List Nat}{o:Nat}(h:n≤o):hOf n ρ ks o=ks.getD (o - n) big:=by
 unfold hOf
 cases hb:Nat.blt o n with
 | true=>exact absurd (blt_t hb) (by omega)
 | false=>rfl
def frzT(w:World)(γ:Gam)(T:Nat→Prop):Frz:=⟨w,fun b=>b<w.heap.size∧¬T b∧∀o p,γ o=some (some p)→p.block≠b⟩
theorem frame_frzT(w:World)(γ:Gam)(T:Nat→Prop):Frame (frzT w γ T) γ w:=⟨rfl,rfl,rfl,Nat.le_refl _,fun b h=>h.1,fun _ _=>rfl,fun o p hp h=>h.2.2 o p hp rfl⟩
theorem CallS.sub{P:Program}{S:List Nat}{f:Nat}{args0 args:List AV}{H0 H:List AObj}{K0 K:AV→List AObj→Prop}(c:CallP P f args0 H0 K0)(ρ:List Nat)(hargs:args=AV.rens (gOf ρ) args0)(hchk:(nodupB ρ&&Nat.ble H0.length lim&&ρ.all (fun i=>!memN S i))=true)(hobjs:SubO (gOf ρ) H ρ H0)
  (hK:∀v0 H0',K0 v0 H0'→∃v H' ks,Back ρ ks H H' H0' v v0∧K v H'):CallS P S f args H K:=⟨fun F γ w xs hR hpl hrs hxs=>by
 simp only[Bool.and_eq_true] at hchk
 have hnd:=nodupB_ok hchk.1.1
 have hlen:=subO_len hobjs
 have hS:∀i,i<ρ.length→γ (gOf ρ i)≠none:=fun i hi=>by
  have h5:=List.all_eq_true.1 hchk.2 _ (List.getElem_mem hi)
  have h6:ρ[i]∉S:=fun hm=>by rw[memN_t.2 hm] at h5;cases h5
  obtain ⟨j,ob',a1,a2,_⟩:=subO_get hobjs i _ (List.getElem?_eq_getElem (by omega))
  rw[List.getElem?_eq_getElem hi] at a1
  cases a1
  rw[gOf_lt hi]
  exact hpl _ (List.getElem?_eq_some_iff.1 a2).1 h6
 have hR0':=hR.sub hobjs hchk.1.1 hchk.1.2
 obtain ⟨γ0,hγ0⟩:∃γ0:Gam,γ0=fun o=>γ (gOf ρ o):=⟨_,rfl⟩
 rw[←hγ0] at hR0'
 have hpl0:∀o,o<H0.length→γ0 o≠none:=fun o ho=>by rw[hγ0];exact hS o (by omega)
 have hsub:∀o p,γ0 o=some (some p)→∃q,γ q=some (some p):=fun o p hp=>⟨gOf ρ o,by rw[hγ0] at hp;exact hp⟩
 obtain ⟨T,t1,t2⟩:=hrs.out
 obtain ⟨T1,T2,p1,p2,p3,p4⟩:=subO_part hobjs hnd (fun _ _=>rfl) w T t1
 rw[setNil_clr] at p2
 have hR0:RelL (frzT w γ0 T1) γ0 (hp H0) w:=⟨hR0'.toRel,hR0'.live,frame_frzT _ _ _⟩
 have hrs0:Rs (frzT w γ0 T1) γ0 H0 w:=⟨T1,p1,fun b hb=>⟨fun h=>h.2.1 hb,fun o p hp e=>(t2 b (p4 b (.inl hb))).2 _ p (by rw[hγ0] at hp;exact hp) e⟩⟩
 have hxs0:Concs γ0 args0 xs.toList:=by
  rw[hγ0]
  rw[hargs] at hxs
  exact (concs_ren args0 _).1 hxs
 obtain ⟨h1,h2⟩:=c.out (frzT w γ0 T1) γ0 w xs hR0 (fun o ho _=>hpl0 o ho) hrs0 hxs0
 refine ⟨h1,fun R hRet=>h2 R fun v0 H0' γ0' x w' hk hx hA=>?_⟩
 have hR1:Rl (frzT w γ0 T1) γ0' H0' w':=hA.rl
 have hext:=hA.step.ext
 obtain ⟨v,H',ks,hb,hkk⟩:=hK v0 H0' hk
 have hbc:=hb.chk
 simp only[Bool.and_eq_true] at hbc
 have hlen':=backO_len hb.objs
 have hbig0:=big_none hR1.rel
 obtain ⟨h,hh⟩:∃h,h=hOf H.length ρ ks:=⟨_,rfl⟩
 have hval:=hb.val
 have hobj':=hb.objs
 rw[←hh] at hval hobj'
 obtain ⟨γ',hγ'⟩:∃γ':Gam,γ'=fun o=>match Nat.blt o H.length,idxOf o ρ 0 with
   | true,none=>γ o
   | _,_=>γ0' (h o):=⟨_,rfl⟩
 have g1:∀o,o<H.length→idxOf o ρ 0=none→γ' o=γ o:=fun o ho hi=>by
  rw[hγ'];simp only[show Nat.blt o H.length=true from Nat.ble_eq_true_of_le ho,hi]
 have g2:∀o i,o<H.length→idxOf o ρ 0=some i→γ' o=γ0' i∧h o=i∧i<ρ.length∧γ0 i=γ o:=fun o i ho hi=>by
  have e:h o=i:=by rw[hh,hOf_old ho,hi]
  obtain ⟨_,hj⟩:=idxOf_some hi
  rw[Nat.sub_zero] at hj
  have hlt:=(List.getElem?_eq_some_iff.1 hj).1
  refine ⟨by rw[hγ'];simp only[hi,e];cases Nat.blt o H.length<;>rfl,e,hlt,?_⟩
  rw[hγ0]
  simp only[gOf_lt hlt]
  rw[List.getElem?_eq_getElem hlt] at hj
  rw[Option.some.inj hj]
 have g3:∀o,H.length≤o→γ' o=γ0' (h o)∧h o=ks.getD (o - H.length) big:=fun o ho=>by
  have e:Nat.blt o H.length=false:=by
   cases hb:Nat.blt o H.length with
   | true=>exact absurd (blt_t hb) (by omega)
   | false=>rfl
  exact ⟨by rw[hγ'];simp only[e],by rw[hh,hOf_new ho]⟩
 have cls:∀o p,γ' o=some p→(o<H.length∧idxOf o ρ 0=none∧γ o=some p)∨(γ0' (h o)=some p∧o<H'.length∧((o<H.length∧h o<ρ.length∧ρ[h o]?=some o)∨(H.length≤o∧ks[o - H.length]?=some (h o)))):=fun o p hp=>by
  rcases Nat.lt_or_ge o H.length with ho|ho
  ·cases hi:idxOf o ρ 0 with
   | none=>exact .inl ⟨ho,rfl,by rw[←g1 o ho hi];exact hp⟩
   | some i=>
     obtain ⟨e1,e2,e3,_⟩:=g2 o i ho hi
     obtain ⟨_,hj⟩:=idxOf_some hi
     rw[Nat.sub_zero] at hj
     exact .inr ⟨by rw[e2,←e1];exact hp,by omega,.inl ⟨ho,by omega,by rw[e2];exact hj⟩⟩
  ·obtain ⟨e1,e2⟩:=g3 o ho
   rw[e1] at hp
   refine .inr ⟨hp,?_⟩
   rcases Nat.lt_or_ge (o - H.length) ks.length with hk'|hk'
   ·have e3:ks[o - H.length]?=some (h o):=by rw[e2,List.getElem?_eq_getElem hk'];simp[List.getD,hk']
    exact ⟨by omega,.inr ⟨ho,e3⟩⟩
   ·have e3:h o=big:=by rw[e2];simp[List.getD,hk']
    rw[e3,hbig0] at hp
    cases hp
 have hextc:∀q p,γ0' (h q)=some p→γ' q=some p∨γ' q=some none:=fun q p hq=>by
  rcases Nat.lt_or_ge q H.length with ho|ho
  ·cases hi:idxOf q ρ 0 with
   | none=>
     have e:h q=big:=by rw[hh,hOf_old ho,hi]
     rw[e,hbig0] at hq
     cases hq
   | some i=>
     obtain ⟨e1,e2,_,_⟩:=g2 q i ho hi
     exact .inl (by rw[e1,←e2];exact hq)
  ·exact .inl (by rw[(g3 q ho).1];exact hq)
 have hext':Ext γ γ':=fun o p hp=>by
  have ho:o<H.length:=by
   rcases Nat.lt_or_ge o H.length with h5|h5
   ·exact h5
   ·rw[hR.dom o h5] at hp;cases hp
  cases hi:idxOf o ρ 0 with
  | none=>exact .inl (by rw[g1 o ho hi];exact hp)
  | some i=>
    obtain ⟨e1,_,_,e4⟩:=g2 o i ho hi
    rw[e1]
    exact hext i p (by rw[e4];exact hp)
 have hob:∀o p,γ' o=some p→∃ob',H'[o]?=some ob'∧((o<H.length∧idxOf o ρ 0=none∧γ o=some p∧∃ob,H[o]?=some ob∧vw ob'=vw ob)∨(γ0' (h o)=some p∧∃ob0,H0'[h o]?=some ob0∧vw ob0=(vw ob').ren h)):=fun o p hp=>by
  rcases cls o p hp with ⟨ho,hi,hp'⟩|⟨hp',hlt,hc⟩
  ·have hb':H'[o]?=some H'[o]:=List.getElem?_eq_getElem (by omega)
   have:=(backO_get hobj' o _ hb').1 ho
   rw[Nat.zero_add,hi] at this
   obtain ⟨ob,c1,c2⟩:=this
   exact ⟨_,hb',.inl ⟨ho,hi,hp',ob,c1,c2.eq.1.symm⟩⟩
  ·have hb':H'[o]?=some H'[o]:=List.getElem?_eq_getElem hlt
   refine ⟨_,hb',.inr ⟨hp',?_⟩⟩
   rcases hc with ⟨ho,_,hr⟩|⟨ho,hks⟩
   ·have:=(backO_get hobj' o _ hb').1 ho
    rw[Nat.zero_add] at this
    cases hi:idxOf o ρ 0 with
    | none=>exact absurd (List.mem_of_getElem? hr) (idxOf_none hi)
    | some i=>
      rw[hi] at this
      obtain ⟨ob0,a1,a2⟩:=this
      obtain ⟨_,e2,_,_⟩:=g2 o i ho hi
      exact ⟨ob0,by rw[e2];exact a1,by rw[a2.eq.1,vw_ren]⟩
   ·obtain ⟨j,ob0,a1,a2,a3⟩:=(backO_get hobj' o _ hb').2 ho
    rw[hks] at a1
    cases a1
    exact ⟨ob0,a2,by rw[a3.eq.1,vw_ren]⟩
 have hlim':H'.length≤lim:=Nat.le_of_ble_eq_true hbc.2
 have hframe0:=hR1.rel.frame
 have hfz:∀b,F.fz b→(frzT w γ0 T1).fz b:=fun b hb=>⟨Nat.lt_of_lt_of_le (hR.frame.old b hb) hR.frame.size,fun h=>(t2 b (p4 b (.inl h))).1 hb,fun o p hp e=>by
  obtain ⟨q,hq⟩:=hsub o p hp
  exact hR.frame.own q p hq (by rw[e];exact hb)⟩
 have hfar:∀o p,o<H.length→idxOf o ρ 0=none→γ o=some (some p)→(frzT w γ0 T1).fz p.block:=fun o p ho hi hp=>
  ⟨hR.lt hp,fun h=>(t2 _ (p4 _ (.inl h))).2 o p hp rfl,fun q p' hq e=>by
   have hq':=hq
   rw[hγ0] at hq'
   have:=hR.inj _ _ p' p hq' hp e
   have hql:q<ρ.length:=by
    rcases Nat.lt_or_ge q ρ.length with h5|h5
    ·exact h5
    ·simp only[] at hq'
     rw[gOf_ge h5,big_none hR] at hq'
     cases hq'
   rw[gOf_lt hql] at this
   exact idxOf_none hi (by rw[←this];exact List.getElem_mem _)⟩
 refine hRet v H' γ' x w' hkk ?_ ⟨⟨⟨fun o ho=>?_,fun o p hp=>?_,fun o ho=>?_,fun o o' p p' hp hp' e=>?_,hlim'⟩,fun o p hp=>?_,?_⟩,⟨hext',fun o ho hg=>?_,by show H.length≤H'.length;omega,fun o ho hg=>?_⟩,fun o ho hoS=>?_,?_⟩
 ·rw[hval] at hx
  exact ((conc_ren v x).1 hx).mono (fun q r hq=>hextc q r hq) _ _
 ·have ho:H'.length≤o:=ho
  cases hp:γ' o with
  | none=>rfl
  | some p=>
    obtain ⟨ob',a1,_⟩:=hob o p hp
    have:=(List.getElem?_eq_some_iff.1 a1).1
    omega
 ·obtain ⟨ob',a1,a2⟩:=hob o _ hp
  refine ⟨vw ob',by rw[hp_get hlim',a1];rfl,?_⟩
  rcases a2 with ⟨ho,hi,hp',ob,a3,a4⟩|⟨hp',ob0,a3,a4⟩
  ·obtain ⟨ob2,b1,b2⟩:=hR.obj o p hp'
   rw[hp_get hR.lim,a3] at b1
   cases b1
   rw[a4]
   exact b2.mono hext' (hframe0.block _ (hfar o p ho hi hp'))
  ·obtain ⟨ob2,b1,b2⟩:=hR1.rel.obj _ p hp'
   rw[hp_get hR1.rel.lim,a3] at b1
   cases b1
   rw[a4] at b2
   exact (objRel_ren.1 b2).mono (fun q r hq=>hextc q r hq) rfl
 ·obtain ⟨ob',a1,a2⟩:=hob o _ ho
  rw[hp_get hlim',a1]
  simp only[Option.map_some,Option.some.injEq]
  rcases a2 with ⟨ho',hi,hp',ob,a3,a4⟩|⟨hp',ob0,a3,a4⟩
  ·have b1:=hR.gone o hp'
   rw[hp_get hR.lim,a3] at b1
   rw[a4]
   simpa using b1
  ·have b1:=hR1.rel.gone _ hp'
   rw[hp_get hR1.rel.lim,a3] at b1
   simp only[Option.map_some,Option.some.injEq] at b1
   rw[b1] at a4
   exact ren_dead a4.symm
 ·rcases cls o _ hp with ⟨ho,hi,hq⟩|⟨hq,hlt,hc⟩<;>rcases cls o' _ hp' with ⟨ho',hi',hq'⟩|⟨hq',hlt',hc'⟩
  ·exact hR.inj o o' p p' hq hq' e
  ·have:=hfar o p ho hi hq
   rw[e] at this
   exact absurd this (hframe0.own _ p' hq')
  ·have:=hfar o' p' ho' hi' hq'
   rw[←e] at this
   exact absurd this (hframe0.own _ p hq)
  ·have e1:=hR1.rel.inj _ _ p p' hq hq' e
   rcases hc with ⟨_,_,hr⟩|⟨hge,hks⟩<;>rcases hc' with ⟨_,_,hr'⟩|⟨hge',hks'⟩
   ·rw[e1] at hr
    rw[hr] at hr'
    exact Option.some.inj hr'
   ·exfalso
    have h5:=List.all_eq_true.1 hbc.1.2 _ (List.mem_of_getElem? hks')
    have:=Nat.le_of_ble_eq_true h5
    have:=(List.getElem?_eq_some_iff.1 hr).1
    omega
   ·exfalso
    have h5:=List.all_eq_true.1 hbc.1.2 _ (List.mem_of_getElem? hks)
    have:=Nat.le_of_ble_eq_true h5
    have:=(List.getElem?_eq_some_iff.1 hr').1
    omega
   ·rw[e1] at hks
    obtain ⟨l1,e2⟩:=List.getElem?_eq_some_iff.1 hks
    obtain ⟨l2,e3⟩:=List.getElem?_eq_some_iff.1 hks'
    have:=nodup_inj (nodupB_ok hbc.1.1) l1 l2 (by rw[e2,e3])
    omega
 ·obtain ⟨ob',a1,a2⟩:=hob o _ hp
  rw[hp_get hlim',a1]
  intro hd
  simp only[Option.map_some,Option.some.injEq] at hd
  rcases a2 with ⟨ho',hi,hp',ob,a3,a4⟩|⟨hp',ob0,a3,a4⟩
  ·have b1:=hR.live o p hp'
   rw[hp_get hR.lim,a3] at b1
   exact b1 (by rw[←hd,a4];rfl)
  ·have b1:=hR1.rel.live _ p hp'
   rw[hp_get hR1.rel.lim,a3] at b1
   exact b1 (by simp only[Option.map_some,a4,hd];rfl)
 ·have hF:=hR.frame
  refine ⟨hframe0.os.trans hF.os,hframe0.tape.trans hF.tape,hframe0.output.trans hF.output,Nat.le_trans hF.size hframe0.size,hF.old,fun b hb=>(hframe0.block b (hfz b hb)).trans (hF.block b hb),fun o p hp hz=>?_⟩
  rcases cls o _ hp with ⟨ho,hi,hq⟩|⟨hq,_,_⟩
  ·exact hF.own o p hq hz
  ·exact hframe0.own _ p hq (hfz _ hz)
 ·have ho:o<H.length:=ho
  cases hi:idxOf o ρ 0 with
  | none=>rw[g1 o ho hi];exact hg
  | some i=>
    obtain ⟨_,_,e3,e4⟩:=g2 o i ho hi
    exact absurd (e4.trans hg) (hpl0 i (by omega))
 ·have ho:o<H.length:=ho
  cases hi:idxOf o ρ 0 with
  | none=>
    have hb':H'[o]?=some H'[o]:=List.getElem?_eq_getElem (by omega)
    have:=(backO_get hobj' o _ hb').1 ho
    rw[Nat.zero_add,hi] at this
    obtain ⟨ob,a1,a2⟩:=this
    rw[hp_get hlim',hp_get hR.lim,hb',a1]
    simp only[Option.map_some,a2.eq.1]
  | some i=>
    obtain ⟨_,_,e3,e4⟩:=g2 o i ho hi
    exact absurd (e4.trans hg) (hpl0 i (by omega))
 ·intro hn
  rcases Nat.lt_or_ge o H.length with h5|h5
  ·cases hi:idxOf o ρ 0 with
   | none=>rw[g1 o h5 hi] at hn;exact hpl o h5 hoS hn
   | some i=>
     obtain ⟨e1,_,e3,e4⟩:=g2 o i h5 hi
     rw[e1] at hn
     cases hg:γ o with
     | none=>exact hpl o h5 hoS hg
     | some p=>rcases hext i p (by rw[e4];exact hg) with h6|h6<;>rw[h6] at hn<;>cases hn
  ·have hb':H'[o]?=some H'[o]:=List.getElem?_eq_getElem ho
   obtain ⟨j,ob0,a1,a2,a3⟩:=(backO_get hobj' o _ hb').2 h5
   obtain ⟨e1,e2⟩:=g3 o h5
   have e3:h o=j:=by rw[e2];simp[List.getD,a1]
   rw[e1,e3] at hn
   exact hR1.pl j (List.getElem?_eq_some_iff.1 a2).1 hn
 ·obtain ⟨T0',r1,r2⟩:=hA.rs.out
  have hT2:∀b,T2 b→(frzT w γ0 T1).fz b:=fun b hb=>⟨stars_lt p2 hb,fun h=>p3 b h hb,fun o p hp e=>by
   obtain ⟨q,hq⟩:=hsub o p hp
   exact (t2 b (p4 b (.inr hb))).2 q p hq e⟩
  obtain ⟨T',q1,q2⟩:=back_ent (w:=w') (L0:=rss H0') (T0:=T0') (T1:=T2) hobj' (nodupB_ok hbc.1.1) (fun j hj=>Nat.le_of_ble_eq_true (List.all_eq_true.1 hbc.1.2 j hj)) (fun _ _ _ _=>rfl) (fun _ _=>rfl) r1 (stars_keep p2 fun b hb=>hframe0.block b (hT2 b hb)) (fun b x y=>(r2 b x).1 (hT2 b y))
  refine ⟨T',q2,fun b hb=>?_⟩
  rcases q1 b hb with hb|hb
  ·refine ⟨fun h=>(r2 b hb).1 (hfz b h),fun o p hp e=>?_⟩
   rcases cls o _ hp with ⟨ho,hi,hq⟩|⟨hq,_,_⟩
   ·exact (r2 b hb).1 (by rw[←e];exact hfar o p ho hi hq)
   ·exact (r2 b hb).2 _ p hq e
  ·refine ⟨(t2 b (p4 b (.inr hb))).1,fun o p hp e=>?_⟩
   rcases cls o _ hp with ⟨ho,hi,hq⟩|⟨hq,_,_⟩
   ·exact (t2 b (p4 b (.inr hb))).2 o p hq e
   ·exact hframe0.own _ p hq (by rw[e];exact hT2 b hb)⟩
theorem CallS.mono{P:Program}{S:List Nat}{f:Nat}{args:List AV}{H:List AObj}{K K':AV→List AObj→Prop}(c:CallS P S f args H K)(h:∀v H',K v H'→K' v H'):CallS P S f args H K':=
 ⟨fun F γ w xs hR hpl hrs hxs=>⟨(c.out F γ w xs hR hpl hrs hxs).1,fun R hq=>(c.out F γ w xs hR hpl hrs hxs).2 R fun v H' γ' x w' h1 h2 h3=>hq v H' γ' x w' (h _ _ h1) h2 h3⟩⟩
theorem objE_self(a:AObj):ObE a a:=by cases a<;>first|rfl|exact fun _ _ h=>h
theorem backO_self{h:Nat→Nat}{H0':List AObj}:∀(H:List AObj) (o:Nat),BackO h [] H0' o H H []
 | [],_=>trivial
 | _::H,o=>⟨objE_self _,backO_self H (o+1)⟩
theorem CallS.pure{P:Program}{S:List Nat}{f:Nat}{args:List AV}{H:List AObj}{K:AV→List AObj→Prop}{v:AV}(c:CallP P f args [] (fun u _=>u=v))(ha:∀g,AV.rens g args=args)(hv:∀g,v.ren g=v)(hk:K v H):CallS P S f args H K:=
 ⟨fun F γ w xs hR hpl hrs hxs=>(c.sub (S:=S) (H:=H) (K:=K) [] (ha _).symm rfl trivial fun v0 H0' h=>⟨v,H,[],⟨by simp[nodupB];exact hR.lim,by rw[h,hv],backO_self H 0⟩,hk⟩).out F γ w xs hR hpl hrs hxs⟩
end Go.Proofs.YtmbdghclhpboaaaGreat.Ev
namespace Go.Proofs.YtmbdghclhpboaaaGreat.Ev
open Go.RowKit
theorem RowP.agg{xs:List Value}{off size:Nat}{K:AV→Prop}(cs:List Value)(h1:off+size≤xs.length)(h2:(xs.drop off).take size=cs)(k:K (.agg (cs.map .lit))):RowP xs off size true K:=
 ⟨.agg (cs.map .lit),by simp only[h1,if_true,Option.some.injEq,AV.agg.injEq];rw[←List.map_drop,←List.map_take,h2],k⟩
theorem RowP.one{xs:List Value}{off size:Nat}{K:AV→Prop}(x:Value)(h:xs[off]?=some x)(k:K (.lit x)):RowP xs off size false K:=
 ⟨.lit x,by simp[h],k⟩
theorem flat_len{α:Type}{enc:α→List Value}{k:Nat}(hk:∀a,(enc a).length=k):∀l:List α,(l.flatMap enc).length=l.length * k
 | []=>by simp
 | a::l=>by simp only[List.flatMap_cons,List.length_append,List.length_cons,hk,flat_len hk l,Nat.add_mul];omega
theorem flat_at{α:Type}{enc:α→List Value}{k:Nat}(hk:∀a,(enc a).length=k):∀(l:List α) (i:Nat) (hi:i<l.length),((l.flatMap enc).drop (i * k)).take k=enc l[i]
 | [],i,hi=>absurd hi (by simp)
 | a::l,0,_=>by
   simp only[Nat.zero_mul,List.drop_zero,List.flatMap_cons,List.getElem_cons_zero]
   rw[List.take_append_of_le_length (by rw[hk];exact Nat.le_refl _),List.take_of_length_le (by rw[hk];exact Nat.le_refl _)]
 | a::l,i+1,hi=>by
   have h1:(i+1) * k=(enc a).length+i * k:=by rw[hk,Nat.add_mul];omega
   rw[List.flatMap_cons,h1,List.drop_append,List.drop_of_length_le (Nat.le_add_right _ _),List.nil_append,Nat.add_sub_cancel_left]
   exact flat_at hk l i (by simpa using hi)
theorem RowP.elem{α:Type}{enc:α→List Value}{size:Nat}{K:AV→Prop}(hk:∀a,(enc a).length=size){l:List α}{i:Nat}(hi:i<l.length)(k:K (.agg ((enc l[i]).map .lit))):RowP (l.flatMap enc) (0+i * size) size true K:=
 RowP.agg (enc l[i]) (by
  rw[flat_len hk,Nat.zero_add]
  have:(i+1) * size≤l.length * size:=Nat.mul_le_mul_right _ hi
  rw[Nat.add_mul] at this
  omega) (by rw[Nat.zero_add];exact flat_at hk l i hi) k
theorem RowP.val{α:Type}{f:α→Value}{K:AV→Prop}{l:List α}{i:Nat}(hi:i<l.length)(k:K (.lit (f l[i]))):RowP (l.map f) (0+i * 1) 1 false K:=
 RowP.one (f l[i]) (by simp[hi]) k
def litsO:List AV→Option (List Value)
 | []=>some []
 | .lit x::l=>match litsO l with
   | some xs=>some (x::xs)
   | none=>none
 | _=>none
theorem litsO_ok:∀{l:List AV} {xs:List Value},litsO l=some xs→l=xs.map .lit
 | [],_,h=>by cases h;rfl
 | v::l,xs,h=>by
   cases v with
   | lit x=>
     simp only[litsO] at h
     split at h
     ·rename_i ys hy
      cases h
      simp[litsO_ok hy]
     ·cases h
   | _=>simp[litsO] at h
structure AppT(E:Env)(ty elem size:Nat):Prop where
 ty:∃r,E.ty ty=some r∧r.und=.slice elem
 el:∃er z,E.ty elem=some er∧er.info.size=size∧er.info.zero=some z∧(ofValue z).cells.length=size∧er.info.bytes≤65536
section
variable{E:Env}{P:Program}{m:Bool}{S:List Nat}{t:Tmps}{cl:Call}{ty elem size:Nat}{H:List AObj}{K:AV→List AObj→Prop}
theorem first_one{ox:Nat}{c:Cap}{l:List AV}{e:TypeId}(hl:H.length≤lim)(hx:H[ox]?=some (.cells l e))(hn:Nat.beq l.length size=true):firstA (hp H) size (0+1) (.slice ox 0 1 c)=some l:=by
 have hn:=Nat.eq_of_beq_eq_true hn
 simp only[firstA]
 rw[hp_get hl,hx]
 simp only[Option.map_some,vw,Nat.zero_add,Nat.one_mul,List.drop_zero]
 rw[show Nat.ble size l.length=true from Nat.ble_eq_true_of_le (by omega)]
 simp only[Bool.true_and]
 first
  | (rw[show Nat.ble 1 1=true from rfl];simp only[];rw[List.take_of_length_le (by omega)])
  | rw[List.take_of_length_le (by omega)]
theorem AppP.nil(hA:AppT E ty elem size){ox:Nat}{c:Cap}{l:List AV}{e:TypeId}{ys:List Value}(hlim:Nat.blt H.length lim=true)(hx:H[ox]?=some (.cells l e))(hl:litsO l=some ys)(hn:Nat.beq l.length size=true)(h1:l.all AV.one=true)
  (k:snocK H (.row ys elem) fun H'=>natF (cnt H 0) fun n=>K (.slice n 0 1 (.grown size)) H'):AppP E P m S t cl ty (.lit (.slice none 0 0)) (.slice ox 0 1 c) H K:=by
 obtain ⟨r,hr,hu⟩:=hA.ty
 obtain ⟨er,z,he,hs,hz,hc,hb⟩:=hA.el
 have hlt:=blt_t hlim
 rw[snocK_eq,natF_eq,cnt_eq,Nat.zero_add] at k
 refine ⟨.inl ⟨.slice H.length 0 (0+(0+1)) (.grown size),{ heap:=(hp H).heap.put H.length (.cells l elem),next:=H.length+1 },_,?_,?_,?_,ent_snoc rfl,k⟩⟩
 ·have hf:=first_one (size:=size) (c:=c) (Nat.le_of_lt hlt) hx hn
  simp only[appendA,hr,hu,he,lenOfA,hs,hf,hz]
  have e1:firstA (hp H) size 0 (.lit (.slice none 0 0))=some []:=rfl
  rw[e1]
  simp only[fixT,Bool.not_false,Bool.and_true]
  rw[show Nat.ble ((0+(0+1)) * er.info.bytes) 140737488355328=true from Nat.ble_eq_true_of_le (by omega),show Nat.ble (0+(0+1)) 4611686018427387904=true from rfl,show Nat.ble er.info.bytes 65536=true from Nat.ble_eq_true_of_le hb,show Nat.blt (hp H).next lim=true from hlim,hc,h1]
  rw[show Nat.beq size size=true from Nat.beq_refl _,show Nat.beq ([]:List AV).length (0 * size)=true by rw[Nat.zero_mul];rfl,show Nat.beq l.length ((0+1) * size)=true by rw[Nat.zero_add,Nat.one_mul];exact hn]
  rfl
 ·refine ⟨by simp,fun o=>?_⟩
  simp only[]
  rw[T.get_put _ _ _ _ (Nat.le_of_lt hlt),hp_get (Nat.le_of_lt hlt)]
  by_cases e:o=H.length
  ·subst e
   rw[if_pos rfl]
   simp[vw,litsO_ok hl]
  ·rw[if_neg e]
   rcases Nat.lt_or_ge o H.length with h5|h5
   ·rw[List.getElem?_append_left h5]
   ·rw[List.getElem?_eq_none h5,List.getElem?_eq_none (by simp;omega)]
 ·simp[newOk]
theorem AppP.own(hA:AppT E ty elem size){o len ox:Nat}{c:Cap}{l:List AV}{e:TypeId}{xs ys:List Value}(hlim:Nat.blt H.length lim=true)(ho:H[o]?=some (.row xs elem))(hx:H[ox]?=some (.cells l e))(hl:litsO l=some ys)(hn:Nat.beq l.length size=true)(h1:l.all AV.one=true)
  (hxs:xs.length=len * size) (hlen:len+1≤2147483648)
  (k:setK H o .dead fun H1=>snocK H1 (.row (xs++ys) elem) fun H'=>natF (cnt H 0) fun n=>K (.slice n 0 (len+1) (.grown size)) H'):AppP E P m S t cl ty (.slice o 0 len (.grown size)) (.slice ox 0 1 c) H K:=by
 obtain ⟨r,hr,hu⟩:=hA.ty
 obtain ⟨er,z,he,hs,hz,hc,hb⟩:=hA.el
 have hlt:=blt_t hlim
 have hol:=(List.getElem?_eq_some_iff.1 ho).1
 rw[setK_eq,snocK_eq,natF_eq,cnt_eq,Nat.zero_add] at k
 refine ⟨.inl ⟨.slice H.length 0 (len+(0+1)) (.grown size),{ heap:=((hp H).heap.put o .dead).put H.length (.cells (xs.map .lit++l) elem),next:=H.length+1 },_,?_,?_,?_,(Ent.of_eq (rss_set (ob:=.dead) ho rfl).symm).trans (ent_snoc (ob:=.row (xs++ys) elem) rfl),k⟩⟩
 ·have hf:=first_one (size:=size) (c:=c) (Nat.le_of_lt hlt) hx hn
  have e1:firstA (hp H) size len (.slice o 0 len (.grown size))=some (xs.map .lit):=by
   cases len with
   | zero=>
     have:xs=[]:=List.eq_nil_of_length_eq_zero (by omega)
     subst this
     rfl
   | succ len=>
     simp only[firstA]
     rw[hp_get (Nat.le_of_lt hlt),ho]
     simp only[Option.map_some,vw,Nat.zero_add,List.drop_zero,List.length_map]
     rw[show Nat.ble ((len+1) * size) xs.length=true from Nat.ble_eq_true_of_le (by omega),show Nat.ble (len+1) (len+1)=true from Nat.ble_eq_true_of_le (Nat.le_refl _)]
     simp only[Bool.and_self]
     rw[List.take_of_length_le (by simp;omega)]
  simp only[appendA,hr,hu,he,lenOfA,hs,hf,e1,hz]
  simp only[fixT,Bool.not_false,Bool.and_true]
  rw[show Nat.ble ((len+(0+1)) * er.info.bytes) 140737488355328=true from Nat.ble_eq_true_of_le (Nat.le_trans (Nat.mul_le_mul (Nat.le_trans (by omega) hlen) hb) (by decide)),show Nat.ble (len+(0+1)) 4611686018427387904=true from Nat.ble_eq_true_of_le (by omega),show Nat.ble er.info.bytes 65536=true from Nat.ble_eq_true_of_le hb,show Nat.blt (hp H).next lim=true from hlim,hc,h1]
  rw[show Nat.beq size size=true from Nat.beq_refl _,show Nat.beq (xs.map AV.lit).length (len * size)=true by rw[List.length_map,hxs];exact Nat.beq_refl _,show Nat.beq l.length ((0+1) * size)=true by rw[Nat.zero_add,Nat.one_mul];exact hn]
  simp only[Bool.and_self,hp_get (Nat.le_of_lt hlt),ho,Option.map_some,vw,isCells,Nat.beq_refl]
  rfl
 ·refine ⟨by simp,fun q=>?_⟩
  simp only[]
  rw[T.get_put _ _ _ _ (Nat.le_of_lt hlt),T.get_put _ _ _ _ (by omega),hp_get (Nat.le_of_lt hlt)]
  by_cases e:q=H.length
  ·subst e
   rw[if_pos rfl]
   simp[vw,litsO_ok hl]
  ·rw[if_neg e]
   rcases Nat.lt_or_ge q H.length with h5|h5
   ·rw[List.getElem?_append_left (by simpa using h5),List.getElem?_set]
    by_cases e2:q=o
    ·subst e2
     simp[hol,vw]
    ·rw[if_neg e2,if_neg (Ne.symm e2)]
   ·rw[if_neg (by omega),List.getElem?_eq_none h5,List.getElem?_eq_none (by simp;omega)]
 ·simp[newOk]
end
def toAV:Value→AV
 | .tuple xs=>.tuple (xs.toList.map .lit)
 | .agg xs=>.agg (xs.toList.map .lit)
 | v=>.lit v
theorem flats_lits:∀xs:List Value,AV.flats (xs.map .lit)=some xs
 | []=>rfl
 | x::xs=>by simp only[List.map_cons,AV.flats,AV.flat,flats_lits xs]
theorem toAV_flat(x:Value):(toAV x).flat=some x:=by
 unfold toAV
 split<;>simp only[AV.flat,flats_lits,Array.toArray_toList]
theorem CallS.of_calls{P:Program}{S:List Nat}{E:Env}(hE:EnvOk P E){f:Nat}{fn:Func}(hf:E.fn f=some fn){args:List AV}{xs:List Value}{x:Value}{H:List AObj}{K:AV→List AObj→Prop}(ha:AV.flats args=some xs)
  (c:∀w:World,Calls P f xs.toArray w (fun e w'=>e=.returned x∧Below w.heap.size w w')) (k:K (toAV x) H):CallS P S f args H K:=⟨fun F γ w ys hR hpl hrs hys=>by
 have e:=flats_conc args xs ys.toList ha hys
 obtain rfl:ys=xs.toArray:=by rw[←e]
 obtain ⟨F1,hR1,hb1⟩:=reframe hR hrs
 refine ⟨(hE.fn f fn hf).2 _ w,fun R hRet=>(c w).mono ?_⟩
 rintro r w' ⟨rfl,hb⟩
 obtain ⟨h1,h2⟩:=hb1 _ _ _ (hR1.grown hb)
 exact hRet _ H γ x w' k (conc_flat _ x (toAV_flat x)) ⟨h1,.refl γ _,hpl,h2 H (.refl _)⟩⟩
structure RdS(P:Program)(n k m:Nat)(b:Code)(t:Tmps)(H:List AObj)(Q:AExit→Tmps→List AObj→Prop):Prop where
 out:∀(F:Frz) (γ:Gam) (w:World) (a:Act) (R:Exit→Act→World→Prop),Rl F γ H w→ConcT γ n t a →
  (∀e t' H' γ' a' w',Q e t' H'→Rl F γ' H' w'→ConcT γ' n t' a'→Old k γ γ'→R e.ex a' w')→Code.rounds P b R m a w
theorem RdS.step{P:Program}{E:Env}(hE:EnvOk P E){n k m:Nat}(hn:Nat.ble n lim=true){b:Code}{t:Tmps}{H:List AObj}{Q:AExit→Tmps→List AObj→Prop}(h:WpC E P n k b t H (fun e t' H'=>match e with
   | .normal=>RdS P n k m b t' H' Q
   | .exit id=>Q (.exit id) t' H'
   | .goto l=>Q (.goto l) t' H'
   | .ret=>Q .ret t' H')):RdS P n k (m+1) b t H Q:=⟨fun F γ w a R hR hT hQ=>by
 rw[rounds_succ]
 refine (WpC_ok hE (Nat.le_of_ble_eq_true hn) b _ _ _ h).out F γ w a _ hR hT fun e t' H' γ' a' w' hq hR' hT' hS'=>?_
 cases e with
 | normal=>exact hq.out F γ' w' a' R hR' hT' fun e2 t2 H2 γ2 a2 w2 h1 h2 h3 h4=>hQ e2 t2 H2 γ2 a2 w2 h1 h2 h3 (hS'.trans h4)
 | exit id=>exact hQ _ t' H' γ' a' w' hq hR' hT' hS'
 | goto l=>exact hQ _ t' H' γ' a' w' hq hR' hT' hS'
 | ret=>exact hQ _ t' H' γ' a' w' hq hR' hT' hS'⟩
theorem RdS.loop{P:Program}{n k:Nat}(m:Nat){b:Code}{t:Tmps}{H:List AObj}{Q:AExit→Tmps→List AObj→Prop}(h:RdS P n k m b t H Q):WpS P n k (.loop b) t H Q:=
 ⟨fun F γ w a R hR hT hQ=>wp_loop_rounds m (h.out F γ w a R hR hT hQ)⟩
end Go.Proofs.YtmbdghclhpboaaaGreat.Ev

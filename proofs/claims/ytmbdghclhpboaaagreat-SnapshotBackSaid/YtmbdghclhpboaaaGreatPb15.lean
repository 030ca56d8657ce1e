/- Part of the proof: SyH SyI SyJ. Conditions: as each states. -/
import Derived.Test.YtmbdghclhpboaaaGreatPb14
set_option linter.all false
namespace Go.Proofs.YtmbdghclhpboaaaGreat.Ev
mutual
def renK(g:Nat→Nat):AV→(AV→Prop)→Prop
 | .lit v,K=>K (.lit v)
 | .ptr o off,K=>natF (g o) fun o=>K (.ptr o off)
 | .slice o off len cap,K=>natF (g o) fun o=>K (.slice o off len cap)
 | .map o,K=>natF (g o) fun o=>K (.map o)
 | .func fn a b,K=>rensK g a fun a=>rensK g b fun b=>K (.func fn a b)
 | .iface t v,K=>renK g v fun v=>K (.iface t v)
 | .agg l,K=>rensK g l fun l=>K (.agg l)
 | .tuple l,K=>rensK g l fun l=>K (.tuple l)
def rensK(g:Nat→Nat):List AV→(List AV→Prop)→Prop
 | [],K=>K []
 | v::l,K=>renK g v fun v=>rensK g l fun l=>K (v::l)
end
mutual
theorem renK_eq(g:Nat→Nat):∀(v:AV) (K:AV→Prop),renK g v K=K (v.ren g)
 | .lit v,K=>rfl
 | .ptr o off,K=>by simp only[renK,natF_eq,AV.ren]
 | .slice o off len cap,K=>by simp only[renK,natF_eq,AV.ren]
 | .map o,K=>by simp only[renK,natF_eq,AV.ren]
 | .func fn a b,K=>by simp only[renK,rensK_eq g a,rensK_eq g b,AV.ren]
 | .iface t v,K=>by simp only[renK,renK_eq g v,AV.ren]
 | .agg l,K=>by simp only[renK,rensK_eq g l,AV.ren]
 | .tuple l,K=>by simp only[renK,rensK_eq g l,AV.ren]
theorem rensK_eq(g:Nat→Nat):∀(l:List AV) (K:List AV→Prop),rensK g l K=K (AV.rens g l)
 | [],K=>rfl
 | v::l,K=>by simp only[rensK,renK_eq g v,rensK_eq g l,AV.rens]
end
def renEsK(g:Nat→Nat):List (AV×AV×Nat)→(List (AV×AV×Nat)→Prop)→Prop
 | [],K=>K []
 | (k,v,b)::l,K=>renK g k fun k=>renK g v fun v=>renEsK g l fun l=>K ((k,v,b)::l)
theorem renEsK_eq(g:Nat→Nat):∀(l:List (AV×AV×Nat)) (K:List (AV×AV×Nat)→Prop),renEsK g l K=K (renEs g l)
 | [],K=>rfl
 | (k,v,b)::l,K=>by simp only[renEsK,renK_eq,renEsK_eq g l,renEs]
def obK(g:Nat→Nat):AObj→(AObj→Prop)→Prop
 | .cells l e,K=>rensK g l fun l=>K (.cells l e)
 | .map es c,K=>renEsK g es fun es=>K (.map es c)
 | .iter m a b c,K=>natF (g m) fun m=>K (.iter m a b c)
 | ob,K=>K ob
theorem obK_eq(g:Nat→Nat)(ob:AObj)(K:AObj→Prop):obK g ob K=K (ob.ren g):=by
 cases ob<;>first|rfl|simp only[obK,AObj.ren,rensK_eq,renEsK_eq,natF_eq]
mutual
def AV.clo(p:Nat→Bool):AV→Bool
 | .lit _=>true
 | .ptr o _=>p o
 | .slice o _ _ _=>p o
 | .map o=>p o
 | .func _ a b=>AV.clos p a&&AV.clos p b
 | .iface _ v=>AV.clo p v
 | .agg l=>AV.clos p l
 | .tuple l=>AV.clos p l
def AV.clos(p:Nat→Bool):List AV→Bool
 | []=>true
 | v::l=>AV.clo p v&&AV.clos p l
end
def cloEs(p:Nat→Bool):List (AV×AV×Nat)→Bool
 | []=>true
 | (k,v,_)::l=>k.clo p&&v.clo p&&cloEs p l
def AObj.clo(p:Nat→Bool):AObj→Bool
 | .cells l _=>AV.clos p l
 | .map es _=>cloEs p es
 | .iter m _ _ _=>p m
 | _=>true
section
variable{p:Nat→Bool}{g h:Nat→Nat}(hp':∀o,p o=true→h (g o)=o)
include hp'
mutual
theorem clo_ren:∀(v:AV),v.clo p=true→(v.ren g).ren h=v
 | .lit v,_=>rfl
 | .ptr o off,k=>by simp only[AV.ren,hp' o k]
 | .slice o off len cap,k=>by simp only[AV.ren,hp' o k]
 | .map o,k=>by simp only[AV.ren,hp' o k]
 | .func fn a b,k=>by
   simp only[AV.clo,Bool.and_eq_true] at k
   simp only[AV.ren,clos_ren a k.1,clos_ren b k.2]
 | .iface t v,k=>by simp only[AV.ren,clo_ren v k]
 | .agg l,k=>by simp only[AV.ren,clos_ren l k]
 | .tuple l,k=>by simp only[AV.ren,clos_ren l k]
theorem clos_ren:∀(l:List AV),AV.clos p l=true→AV.rens h (AV.rens g l)=l
 | [],_=>rfl
 | v::l,k=>by
   simp only[AV.clos,Bool.and_eq_true] at k
   simp only[AV.rens,clo_ren v k.1,clos_ren l k.2]
end
theorem cloEs_ren:∀(l:List (AV×AV×Nat)),cloEs p l=true→renEs h (renEs g l)=l
 | [],_=>rfl
 | (a,b,_)::l,k=>by
   simp only[cloEs,Bool.and_eq_true] at k
   simp only[renEs,clo_ren hp' a k.1.1,clo_ren hp' b k.1.2,cloEs_ren l k.2]
theorem cloO_ren(ob:AObj)(k:ob.clo p=true):(ob.ren g).ren h=ob:=by
 cases ob<;>first|rfl|(simp only[AObj.clo] at k;simp only[AObj.ren,clos_ren hp' _ k])|(simp only[AObj.clo] at k;simp only[AObj.ren,cloEs_ren hp' _ k])|(simp only[AObj.clo] at k;simp only[AObj.ren,hp' _ k])
end
def gU(ρ ks:List Nat)(n i:Nat):Nat:=match ρ[i]? with
 | some o=>o
 | none=>match idxOf i ks 0 with
   | some q=>n+q
   | none=>big
def newK(g:Nat→Nat)(p:Nat→Bool)(H0':List AObj):List Nat→(List AObj→Prop)→Prop
 | [],K=>K []
 | j::ks,K=>match H0'[j]? with
   | some ob0=>match ob0.clo p with
     | true=>obK g ob0 fun ob'=>newK g p H0' ks fun l=>K (ob'::l)
     | false=>False
   | none=>False
def backK(g:Nat→Nat)(p:Nat→Bool)(ρ ks:List Nat)(H0':List AObj):Nat→List AObj→(List AObj→Prop)→Prop
 | _,[],K=>newK g p H0' ks K
 | o,ob::H,K=>match idxOf o ρ 0 with
   | some i=>match H0'[i]? with
     | some ob0=>match ob0.clo p with
       | true=>obK g ob0 fun ob'=>backK g p ρ ks H0' (o+1) H fun H'=>K (ob'::H')
       | false=>False
     | none=>False
   | none=>backK g p ρ ks H0' (o+1) H fun H'=>K (ob::H')
def pU(ρ ks:List Nat)(n o:Nat):Bool:=Nat.beq (hOf n ρ ks (gU ρ ks n o)) o
def useK(ρ ks:List Nat)(H H0':List AObj)(v0:AV)(K:AV→List AObj→Prop):Prop:=
 natF (cnt H 0) fun n=>match nodupB ks&&ks.all (fun j=>Nat.ble ρ.length j)&&Nat.ble (n+ks.length) lim&&v0.clo (pU ρ ks n) with
  | true=>renK (gU ρ ks n) v0 fun v=>backK (gU ρ ks n) (pU ρ ks n) ρ ks H0' 0 H fun H'=>K v H'
  | false=>False
theorem obE_clo{p:Nat→Bool}{g h:Nat→Nat}(hp':∀o,p o=true→h (g o)=o){ob:AObj}(k:ob.clo p=true):ObE ob ((ob.ren g).ren h):=by
 rw[cloO_ren hp' ob k]
 exact objE_self ob
section
variable{g h:Nat→Nat}{p:Nat→Bool}{H0':List AObj}(hp':∀o,p o=true→h (g o)=o)
include hp'
theorem newK_ok{ρ:List Nat}:∀{ks:List Nat} {o:Nat} {K:List AObj→Prop},newK g p H0' ks K→∃l,BackO h ρ H0' o [] l ks∧K l
 | [],o,K,k=>⟨[],tU,k⟩
 | j::ks,o,K,k=>by
   simp only[newK] at k
   split at k
   ·rename_i ob0 ho
    split at k
    ·rename_i hc
     rw[obK_eq] at k
     obtain ⟨l,h1,h2⟩:=newK_ok (ρ:=ρ) (o:=o+1) k
     exact ⟨ob0.ren g::l,⟨⟨ob0,ho,obE_clo hp' hc⟩,h1⟩,h2⟩
    ·exact k.elim
   ·exact k.elim
theorem backK_ok{ρ ks:List Nat}:∀{H:List AObj} {o:Nat} {K:List AObj→Prop},backK g p ρ ks H0' o H K→∃l,BackO h ρ H0' o H l ks∧K l
 | [],o,K,k=>newK_ok hp' k
 | ob::H,o,K,k=>by
   simp only[backK] at k
   split at k
   ·rename_i i hi
    split at k
    ·rename_i ob0 ho
     split at k
     ·rename_i hc
      rw[obK_eq] at k
      obtain ⟨l,h1,h2⟩:=backK_ok k
      refine ⟨ob0.ren g::l,⟨?_,h1⟩,h2⟩
      rw[hi]
      exact ⟨ob0,ho,obE_clo hp' hc⟩
     ·exact k.elim
    ·exact k.elim
   ·rename_i hi
    obtain ⟨l,h1,h2⟩:=backK_ok k
    refine ⟨ob::l,⟨?_,h1⟩,h2⟩
    rw[hi]
    exact objE_self ob
end
theorem CallS.use{P:Program}{S:List Nat}{f:Nat}{args0 args:List AV}{H0 H:List AObj}{K0 K:AV→List AObj→Prop}(c:CallP P f args0 H0 K0)(ρ:List Nat)(hargs:args=AV.rens (gOf ρ) args0)(hchk:(nodupB ρ&&Nat.ble H0.length lim&&ρ.all (fun i=>!memN S i))=true)(hobjs:SubO (gOf ρ) H ρ H0)
  (hK:∀v0 H0',K0 v0 H0'→∃ks,useK ρ ks H H0' v0 K):CallS P S f args H K:=by
 refine c.sub ρ hargs hchk hobjs fun v0 H0' h0=>?_
 obtain ⟨ks,h1⟩:=hK v0 H0' h0
 unfold useK at h1
 rw[natF_eq,cnt_eq,Nat.zero_add] at h1
 split at h1
 ·rename_i hc
  simp only[Bool.and_eq_true] at hc
  obtain ⟨⟨⟨c1,c2⟩,c3⟩,c4⟩:=hc
  have hpu:∀o,pU ρ ks H.length o=true→hOf H.length ρ ks (gU ρ ks H.length o)=o:=fun o ho=>Nat.eq_of_beq_eq_true ho
  rw[renK_eq] at h1
  obtain ⟨l,b1,b2⟩:=backK_ok hpu h1
  have hl:=backO_len b1
  refine ⟨_,l,ks,⟨?_,(clo_ren hpu v0 c4).symm,b1⟩,b2⟩
  rw[hl]
  simp only[Bool.and_eq_true]
  exact ⟨⟨c1,c2⟩,c3⟩
 ·exact h1.elim
structure HeapAt(γ:Gam)(H:List AObj)(w:World)(S:Nat→Prop):Prop where
 rel:Rel γ (hp H) w
 live:∀o p,γ o=some (some p)→(hp H).heap.get o≠some .dead
 pl:∀o,o<H.length→γ o≠none
 res:∃T,stars (rss H) w T∧(∀b,T b→∀o p,γ o=some (some p)→p.block≠b)∧∀b,S b↔(T b∨∃o p,γ o=some (some p)∧p.block=b)
theorem HeapAt.lt{γ:Gam}{H:List AObj}{w:World}{S:Nat→Prop}(h:HeapAt γ H w S){b:Nat}(hb:S b):b<w.heap.size:=by
 obtain ⟨T,h1,_,h3⟩:=h.res
 rcases (h3 b).1 hb with h4|⟨o,p,h4,rfl⟩
 ·exact stars_lt h1 h4
 ·obtain ⟨ob,k1,k2⟩:=h.rel.obj o p h4
  exact k2.lt fun e=>h.live o p h4 (by rw[k1,e])
theorem HeapAt.keep{γ:Gam}{H:List AObj}{w w':World}{S:Nat→Prop}(h:HeapAt γ H w S)(hk:∀b,S b→w'.heap[b]?=w.heap[b]?):HeapAt γ H w' S:=by
 obtain ⟨T,h1,h2,h3⟩:=h.res
 refine ⟨⟨h.rel.dom,fun o p hp=>?_,h.rel.gone,h.rel.inj,h.rel.lim⟩,h.live,h.pl,T,stars_keep h1 fun b hb=>hk b ((h3 b).2 (.inl hb)),h2,h3⟩
 obtain ⟨ob,k1,k2⟩:=h.rel.obj o p hp
 exact ⟨ob,k1,k2.mono (.refl γ) (hk _ ((h3 _).2 (.inr ⟨o,p,hp,rfl⟩)))⟩
def at0(γ:Gam)(o:Nat)(a:Addr):Prop:=∃p,γ o=some (some p)∧a=⟨p.block,p.base,none⟩
def AtR(a:Addr)(o:Nat)(H:List AObj):Res:=
 ⟨fun w S=>∃γ,at0 γ o a∧HeapAt γ H w S,fun ⟨_,_,h⟩ hb=>h.lt hb,fun ⟨γ,h1,h⟩ hk=>⟨γ,h1,h.keep hk⟩⟩
def clr1:AObj→AObj
 | .res _=>.dead
 | ob=>ob
theorem vw_clr(ob:AObj):vw (clr1 ob)=vw ob:=by cases ob<;>rfl
theorem ofL_clr:∀(H:List AObj) (k:Nat) (t:T AObj),ofL k (H.map clr1) t=ofL k H t
 | [],_,_=>rfl
 | a::H,k,t=>by simp only[List.map_cons,ofL,vw_clr,ofL_clr H]
theorem hp_clr(H:List AObj):hp (H.map clr1)=hp H:=by unfold hp;rw[ofL_clr,List.length_map]
def deadO(H:List AObj)(o:Nat):Bool:=match H[o]? with
 | some .dead=>true
 | some (.res _)=>true
 | none=>true
 | _=>false
theorem deadO_f{H:List AObj}{o:Nat}(h:deadO H o=false):∃ob,H[o]?=some ob∧vw ob≠.dead:=by
 unfold deadO at h
 split at h<;>first|cases h|skip
 rename_i x _ _ _
 cases hx:H[o]? with
 | none=>simp_all
 | some ob=>
   refine ⟨ob,rfl,?_⟩
   cases ob<;>simp_all [vw]
structure InOk(ρ:List Nat)(o:Nat)(H' H1:List AObj)(v:AV):Prop where
 chk:(nodupB ρ&&Nat.ble H1.length lim&&!deadO H' o)=true
 fix:ρ[o]?=some o
 objs:SubO (gOf ρ) (H'.map clr1) ρ (H1.map clr1)
 ent:Ent (rss H') (rss H1)
 val:∀g,v.ren g=v
theorem conc_free{v:AV}(hv:∀g,v.ren g=v){γ γ':Gam}{c c':Nat}(h:γ c=none)(h':γ' c'=none){x:Value}(k:Conc γ v x):Conc γ' v x:=by
 have e1:=conc_ren (γ:=γ) (g:=fun _=>c) v x
 have e2:=conc_ren (γ:=γ') (g:=fun _=>c') v x
 rw[hv] at e1 e2
 rw[h] at e1
 rw[h'] at e2
 exact e2.2 (e1.1 k)
theorem concs_free{l:List AV}(hv:∀g,AV.rens g l=l){γ γ':Gam}{c c':Nat}(h:γ c=none)(h':γ' c'=none){xs:List Value}(k:Concs γ l xs):Concs γ' l xs:=by
 have e1:=concs_ren (γ:=γ) (g:=fun _=>c) l xs
 have e2:=concs_ren (γ:=γ') (g:=fun _=>c') l xs
 rw[hv] at e1 e2
 rw[h] at e1
 rw[h'] at e2
 exact e2.2 (e1.1 k)
theorem HeapAt.rl{F:Frz}{γ γ0:Gam}{σ:AS}{H0:List AObj}{w:World}{S:Nat→Prop}(h:HeapAt γ0 H0 w S)(hF:Frame F γ w)(hS:∀b,S b→¬F.fz b):RelL F γ0 (hp H0) w∧Rs F γ0 H0 w:=by
 obtain ⟨T,h1,h2,h3⟩:=h.res
 exact ⟨⟨h.rel,h.live,hF.os,hF.tape,hF.output,hF.size,hF.old,hF.block,fun o p hp=>hS _ ((h3 _).2 (.inr ⟨o,p,hp,rfl⟩))⟩,T,h1,fun b hb=>⟨hS b ((h3 b).2 (.inl hb)),h2 b hb⟩⟩
theorem heapAt_of{F:Frz}{γ:Gam}{H H1:List AObj}{w:World}{ρ:List Nat}(hR:RelL F γ (hp H) w)(hs:Rs F γ H w)(hpl:∀o,o<H.length→γ o≠none)(hn:nodupB ρ=true)(hl:Nat.ble H1.length lim=true)(ho:SubO (gOf ρ) (H.map clr1) ρ (H1.map clr1))(he:Ent (rss H) (rss H1)) :
  ∃S,HeapAt (fun o=>γ (gOf ρ o)) H1 w S∧∀b,S b→¬F.fz b:=by
 have h1:RelL F (fun o=>γ (gOf ρ o)) (hp H1) w:=by
  rw[←hp_clr H1]
  exact RelL.sub (by rw[hp_clr];exact hR) ho hn (by rw[List.length_map];exact hl)
 have hlen:=subO_len ho
 rw[List.length_map] at hlen
 obtain ⟨T,k1,k2⟩:=(hs.ent he).out
 refine ⟨fun b=>T b∨∃o p,γ (gOf ρ o)=some (some p)∧p.block=b,⟨h1.toRel,h1.live,fun o hlt=>?_,T,k1,fun b hb o p hp=>(k2 b hb).2 _ p hp,fun b=>Iff.rfl⟩,fun b hb=>?_⟩
 ·obtain ⟨j,ob',e1,e2,_⟩:=subO_get ho o _ (List.getElem?_eq_getElem (by rw[List.length_map];exact hlt))
  rw[List.getElem?_eq_getElem (by omega)] at e1
  cases e1
  rw[gOf_lt (show o<ρ.length by omega)]
  have:=(List.getElem?_eq_some_iff.1 e2).1
  rw[List.length_map] at this
  exact hpl _ this
 ·rcases hb with hb|⟨o,p,hp,rfl⟩
  ·exact (k2 b hb).1
  ·exact h1.frame.own o p hp
theorem CallS.inR{P:Program}{f:Nat}{a:Addr}{o:Nat}{rest:List AV}{H0:List AObj}{K' K:AV→List AObj→Prop}(c:CallP P f (.ptr o 0::rest) H0 K')(hrest:∀g,AV.rens g rest=rest)
  (hk:∀v H',K' v H'→∃ρ H1,InOk ρ o H' H1 v∧K v [.res (AtR a o H1)]):CallP P f (.lit (.pointer (some a))::rest) [.res (AtR a o H0)] K:=⟨fun F γ w xs hR hpl hrs hxs=>by
 obtain ⟨T,⟨S1,S2,⟨γ0,⟨p0,hp0,ha⟩,hat⟩,hS2,_,hT⟩,hT2⟩:=hrs.out
 have hS:∀b,S1 b→¬F.fz b:=fun b hb=>(hT2 b ((hT b).2 (.inl hb))).1
 obtain ⟨hR0,hrs0⟩:=hat.rl (σ:=hp H0) hR.frame hS
 have hbig:=big_none hR
 have hbig0:=big_none hR0
 have hxs0:Concs γ0 (.ptr o 0::rest) xs.toList:=by
  simp only[Concs] at hxs ⊢
  obtain ⟨x,ys,e,h1,h2⟩:=hxs
  refine ⟨x,ys,e,?_,concs_free hrest hbig hbig0 h2⟩
  rw[conc_lit_iff] at h1
  subst h1
  simp only[Conc]
  exact ⟨a,rfl,by unfold atP;rw[hp0,ha];simp⟩
 obtain ⟨c1,c2⟩:=c.out F γ0 w xs hR0 (fun o ho _=>hat.pl o ho) hrs0 hxs0
 refine ⟨c1,fun R hRet=>c2 R fun v H' γ' x w' k1 k2 k3=>?_⟩
 obtain ⟨ρ,H1,hok,hKv⟩:=hk v H' k1
 have hchk:=hok.chk
 simp only[Bool.and_eq_true,Bool.not_eq_true'] at hchk
 obtain ⟨S',b1,b2⟩:=heapAt_of k3.rel k3.rs (fun o ho=>k3.pl o ho (by simp)) hchk.1.1 hchk.1.2 hok.objs hok.ent
 have hgo:gOf ρ o=o:=by
  unfold gOf List.getD
  rw[hok.fix]
  rfl
 have hpo:γ' o=some (some p0):=by
  rcases k3.step.ext o _ hp0 with h|h
  ·exact h
  ·exfalso
   have e:=k3.rel.gone o h
   obtain ⟨ob,e1,e2⟩:=deadO_f hchk.2
   rw[hp_get k3.rel.lim,e1] at e
   exact e2 (Option.some.inj e)
 have hnone:∀o p,γ o≠some (some p):=fun o p hp=>by
  have h1:=hR.next_lt (o:=o) (by rw[hp];simp)
  have h2:o<1:=h1
  obtain rfl:o=0:=by omega
  exact hR.live 0 p hp (by rw[hp_get (by show 1≤lim;unfold lim;omega)];rfl)
 refine hRet v [.res (AtR a o H1)] γ x w' hKv (conc_free hok.val (big_none k3.rel) hbig k2) ⟨⟨⟨hR.dom,fun o p hp=>absurd hp (hnone o p),fun o ho=>?_,hR.inj,hR.lim⟩,fun o p hp=>absurd hp (hnone o p),?_⟩,⟨.refl γ,fun o _ h=>h,Nat.le_refl _,fun o ho h=>?_⟩,fun q hq hS=>hpl q hq hS,⟨S',⟨S',fun _=>False,⟨fun o=>γ' (gOf ρ o),⟨p0,by show γ' (gOf ρ o)=_;rw[hgo];exact hpo,ha⟩,b1⟩,fun _ h=>h,fun _ _ h=>h,fun b=>by simp⟩,fun b hb=>⟨b2 b hb,fun o p hp=>absurd hp (hnone o p)⟩⟩⟩
 ·have h1:=hR.next_lt (o:=o) (by rw[ho];simp)
  have h2:o<1:=h1
  obtain rfl:o=0:=by omega
  rw[hp_get (by show 1≤lim;unfold lim;omega)]
  rfl
 ·exact k3.rel.frame.less fun o p hp=>absurd hp (hnone o p)
 ·have h2:o<1:=ho
  obtain rfl:o=0:=by omega
  rw[hp_get (by show 1≤lim;unfold lim;omega),hp_get (by show 1≤lim;unfold lim;omega)]
  rfl⟩
structure LowOk(ρ0 ρ:List Nat)(q o:Nat)(H' H0 H1:List AObj)(u:List AV):Prop where
 chk:(nodupB (ρ0++ρ)&&fixB H0.length ρ0 0&&Nat.beq ρ0.length H0.length&&Nat.blt H0.length lim&&Nat.ble H1.length lim&&!deadO H' q)=true
 fix:ρ[o]?=some q
 old:SubO (gOf ρ0) (H'.map clr1) ρ0 (H0.map clr1)
 objs:SubO (gOf ρ) (H'.map clr1) ρ (H1.map clr1)
 ent:Ent (rss H') (rss H0++rss H1)
 val:∀g,AV.rens g u=u
def ctxV(x:AV):List AV→AV
 | []=>x
 | u=>.tuple (x::u)
theorem CallS.lower{P:Program}{f:Nat}{args:List AV}{H0:List AObj}{K' K:AV→List AObj→Prop}(c:CallP P f args H0 K')
  (hk:∀v H',K' v H'→∃ρ0 ρ q o H1 u,LowOk ρ0 ρ q o H' H0 H1 u∧v=ctxV (.ptr q 0) u∧∀a,K (ctxV (.lit (.pointer (some a))) u) (H0++[.res (AtR a o H1)])):CallP P f args H0 K:=⟨fun F γ w xs hR hpl hrs hxs=>by
 obtain ⟨c1,c2⟩:=c.out F γ w xs hR hpl hrs hxs
 refine ⟨c1,fun R hRet=>c2 R fun v H' γ' x w' k1 k2 k3=>?_⟩
 obtain ⟨ρ0,ρ,q,o,H1,u,hok,rfl,hKv⟩:=hk v H' k1
 have hchk:=hok.chk
 simp only[Bool.and_eq_true,Bool.not_eq_true'] at hchk
 obtain ⟨⟨⟨⟨⟨n1,n2⟩,n3⟩,n4⟩,n5⟩,n6⟩:=hchk
 have n3:=Nat.eq_of_beq_eq_true n3
 have n4:H0.length<lim:=Nat.le_of_ble_eq_true n4
 have hnd:=nodupB_ok n1
 rw[List.nodup_append] at hnd
 obtain ⟨d1,d2,d3⟩:=hnd
 have hbig:=big_none k3.rel
 have hgo:gOf ρ o=q:=by
  unfold gOf List.getD
  rw[hok.fix]
  rfl
 obtain ⟨ob,e1,e2⟩:=deadO_f n6
 have hlq:=(List.getElem?_eq_some_iff.1 e1).1
 have hpq:∃p,γ' q=some (some p):=by
  cases hg:γ' q with
  | none=>exact absurd hg (k3.pl q hlq (by simp))
  | some p=>
    cases p with
    | some p=>exact ⟨p,rfl⟩
    | none=>
      exfalso
      have e:=k3.rel.gone q hg
      rw[hp_get k3.rel.lim,e1] at e
      exact e2 (Option.some.inj e)
 obtain ⟨p,hp'⟩:=hpq
 have hnb:nodupB ρ0=true∧nodupB ρ=true:=by
  have conv:∀{l:List Nat},l.Nodup→nodupB l=true:=by
   intro l
   induction l with
   | nil=>intro _;rfl
   | cons x l ih=>
     intro h
     obtain ⟨h1,h2⟩:=List.nodup_cons.1 h
     simp only[nodupB,ih h2,Bool.and_true,List.all_eq_true]
     intro j hj
     cases hb:Nat.beq x j with
     | false=>rfl
     | true=>exact absurd (by rw[Nat.eq_of_beq_eq_true hb];exact hj) h1
  exact ⟨conv d1,conv d2⟩
 have r0:RelL F (fun o=>γ' (gOf ρ0 o)) (hp H0) w':=by
  rw[←hp_clr H0]
  exact RelL.sub (by rw[hp_clr];exact k3.rel) hok.old hnb.1 (by rw[List.length_map];exact Nat.ble_eq_true_of_le (Nat.le_of_lt n4))
 have r1:RelL F (fun o=>γ' (gOf ρ o)) (hp H1) w':=by
  rw[←hp_clr H1]
  exact RelL.sub (by rw[hp_clr];exact k3.rel) hok.objs hnb.2 (by rw[List.length_map];exact n5)
 have hlen:=subO_len hok.objs
 rw[List.length_map] at hlen
 obtain ⟨T,t1,t2⟩:=(k3.rs.ent (H':=H0++H1) (by unfold rss at *;rw[List.map_append];exact hok.ent)).out
 unfold rss at t1
 rw[List.map_append] at t1
 obtain ⟨T0,T1,s0,s1,sd,sT⟩:=stars_append.1 t1
 have hat:HeapAt (fun o=>γ' (gOf ρ o)) H1 w' (fun b=>T1 b∨∃o p,γ' (gOf ρ o)=some (some p)∧p.block=b):=by
  refine ⟨r1.toRel,r1.live,fun o hlt=>?_,T1,s1,fun b hb o p hp=>(t2 b ((sT b).2 (.inr hb))).2 _ p hp,fun b=>Iff.rfl⟩
  obtain ⟨j,ob',e1,e2,_⟩:=subO_get hok.objs o _ (List.getElem?_eq_getElem (by rw[List.length_map];exact hlt))
  rw[List.getElem?_eq_getElem (by omega)] at e1
  cases e1
  simp only[gOf_lt (show o<ρ.length by omega)]
  have:=(List.getElem?_eq_some_iff.1 e2).1
  rw[List.length_map] at this
  exact k3.pl _ this (by simp)
 have hfix:∀i,i<H0.length→gOf ρ0 i=i:=fun i hi=>by
  have:=fixB_ok n2 i hi
  unfold gOf List.getD
  rw[this]
  simp
 have hin:∀i p,γ' (gOf ρ i)=some (some p)→gOf ρ i∈ρ:=fun i p hp=>by
  rcases Nat.lt_or_ge i ρ.length with h|h
  ·rw[gOf_lt h];exact List.getElem_mem h
  ·rw[gOf_ge h,hbig] at hp;cases hp
 let γ2:Gam:=fun i=>if i<H0.length then γ' i else if i=H0.length then some none else none
 have hg2:∀i,i<H0.length→γ2 i=γ' i:=fun i hi=>by show (if i<H0.length then _ else _)=_;rw[if_pos hi]
 have hg2n:γ2 H0.length=some none:=by show (if H0.length<H0.length then _ else _)=_;rw[if_neg (by omega),if_pos rfl]
 have hg2x:∀i,H0.length<i→γ2 i=none:=fun i hi=>by show (if i<H0.length then _ else _)=_;rw[if_neg (by omega),if_neg (by omega)]
 have hg2s:∀i p,γ2 i=some (some p)→i<H0.length∧γ' i=some (some p):=fun i p h=>by
  rcases Nat.lt_trichotomy i H0.length with h1|rfl|h1
  ·exact ⟨h1,by rw[←hg2 i h1];exact h⟩
  ·rw[hg2n] at h;cases h
  ·rw[hg2x i h1] at h;cases h
 have hl2:(H0++[AObj.res (AtR ⟨p.block,p.base,none⟩ o H1)]).length≤lim:=by simp;omega
 have hget:∀i,i<H0.length→(hp (H0++[AObj.res (AtR ⟨p.block,p.base,none⟩ o H1)])).heap.get i=(hp H0).heap.get i:=fun i hi=>by
  rw[hp_get hl2,hp_get (Nat.le_of_lt n4),List.getElem?_append_left hi]
 have hgetn:(hp (H0++[AObj.res (AtR ⟨p.block,p.base,none⟩ o H1)])).heap.get H0.length=some .dead:=by
  rw[hp_get hl2]
  simp[vw]
 have hext:Ext (fun o=>γ' (gOf ρ0 o)) γ2:=fun i r hr=>by
  have hr:γ' (gOf ρ0 i)=some r:=hr
  rcases Nat.lt_or_ge i H0.length with h1|h1
  ·rw[hg2 i h1]
   rw[hfix i h1] at hr
   exact .inl hr
  ·rw[gOf_ge (by omega),hbig] at hr
   cases hr
 refine hRet _ _ γ2 x w' (hKv ⟨p.block,p.base,none⟩) ?_ ⟨⟨⟨fun i hi=>?_,fun i r hr=>?_,fun i hi=>?_,fun i i' r r' h1 h2 e=>?_,hl2⟩,fun i r hr=>?_,?_⟩,⟨fun i r hr=>?_,fun i hi hg=>absurd hg (hpl i hi (by simp)),by show H0.length≤(H0++[_]).length;simp,fun i hi hg=>absurd hg (hpl i hi (by simp))⟩,fun i hi _=>?_,?_⟩
 ·
  have hcx:Conc γ' (.ptr q 0) (.pointer (some ⟨p.block,p.base,none⟩)):=by
   simp only[Conc]
   exact ⟨_,rfl,by unfold atP;rw[hp'];simp⟩
  have only:∀y,Conc γ' (.ptr q 0) y→y=.pointer (some ⟨p.block,p.base,none⟩):=fun y hy=>by
   simp only[Conc] at hy
   obtain ⟨a,rfl,hy⟩:=hy
   unfold atP at hy
   rw[hp'] at hy
   rw[hy]
   simp
  have hz:γ2 big=none:=hg2x _ (by unfold big;omega)
  cases hu:u with
  | nil=>
    rw[hu] at k2
    simp only[ctxV] at k2 ⊢
    rw[only x k2]
    exact conc_lit γ2 _
  | cons y ys=>
    rw[hu] at k2
    have hv:=hok.val
    rw[hu] at hv
    simp only[ctxV,Conc,Concs] at k2 ⊢
    obtain ⟨arr,rfl,z,zs,e,h1,h2⟩:=k2
    rw[only z h1] at e
    have h3:=concs_free (l:=y::ys) hv hbig hz (by simp only[Concs];exact h2)
    simp only[Concs] at h3
    exact ⟨arr,rfl,_,zs,e,rfl,h3⟩
 ·rw[show (hp (H0++[AObj.res (AtR ⟨p.block,p.base,none⟩ o H1)])).next=H0.length+1 by simp[hp]] at hi
  exact hg2x i (by omega)
 ·obtain ⟨h1,h2⟩:=hg2s i r hr
  obtain ⟨ob,h3,h4⟩:=r0.obj i r (by show γ' (gOf ρ0 i)=_;rw[hfix i h1];exact h2)
  exact ⟨ob,by rw[hget i h1];exact h3,h4.mono hext rfl⟩
 ·rcases Nat.lt_trichotomy i H0.length with h1|rfl|h1
  ·rw[hget i h1]
   exact r0.gone i (by show γ' (gOf ρ0 i)=_;rw[hfix i h1,←hg2 i h1];exact hi)
  ·exact hgetn
  ·rw[hg2x i h1] at hi;cases hi
 ·obtain ⟨_,a1⟩:=hg2s i r h1
  obtain ⟨_,a2⟩:=hg2s i' r' h2
  exact k3.rel.inj i i' r r' a1 a2 e
 ·obtain ⟨h1,h2⟩:=hg2s i r hr
  rw[hget i h1]
  exact r0.live i r (by show γ' (gOf ρ0 i)=_;rw[hfix i h1];exact h2)
 ·exact k3.rel.frame.less fun i r hr=>⟨i,r,(hg2s i r hr).2,rfl⟩
 ·rcases Nat.lt_or_ge i H0.length with h1|h1
  ·rw[hg2 i h1];exact k3.step.ext i r hr
  ·rw[hR.dom i h1] at hr;cases hr
 ·simp only[List.length_append,List.length_cons,List.length_nil] at hi
  rcases Nat.lt_or_ge i H0.length with h1|h1
  ·rw[hg2 i h1];exact k3.pl i (Nat.lt_of_lt_of_le h1 k3.step.le) (by simp)
  ·obtain rfl:i=H0.length:=by omega
   rw[hg2n];simp
 ·refine ⟨fun b=>T0 b∨(T1 b∨∃o p,γ' (gOf ρ o)=some (some p)∧p.block=b),?_,fun b hb=>?_⟩
  ·unfold rss
   rw[List.map_append]
   refine stars_append.2 ⟨T0,_,s0,⟨_,fun _=>False,⟨fun o=>γ' (gOf ρ o),⟨p,by show γ' (gOf ρ o)=_;rw[hgo];exact hp',rfl⟩,hat⟩,fun _ h=>h,fun _ _ h=>h,fun b=>⟨fun h=>.inl h,fun h=>h.elim id False.elim⟩⟩,fun b h0 h1=>?_,fun b=>Iff.rfl⟩
   rcases h1 with h1|⟨i,r,hr,rfl⟩
   ·exact sd b h0 h1
   ·exact (t2 _ ((sT _).2 (.inl h0))).2 _ r hr rfl
  ·rcases hb with hb|hb|⟨i,r,hr,rfl⟩
   ·exact ⟨(t2 b ((sT b).2 (.inl hb))).1,fun i r hr=>(t2 b ((sT b).2 (.inl hb))).2 i r (hg2s i r hr).2⟩
   ·exact ⟨(t2 b ((sT b).2 (.inr hb))).1,fun i r hr=>(t2 b ((sT b).2 (.inr hb))).2 i r (hg2s i r hr).2⟩
   ·refine ⟨k3.rel.frame.own _ r hr,fun i' r' hr' e=>?_⟩
    obtain ⟨a1,a2⟩:=hg2s i' r' hr'
    have:=k3.rel.inj _ _ _ _ a2 hr e
    subst this
    have m1:=hin i r hr
    have m2:gOf ρ i∈ρ0:=by
     rw[←hfix _ a1,gOf_lt (by omega)]
     exact List.getElem_mem _
    exact d3 _ m2 _ m1 rfl⟩
theorem stars_perm{L M:List Res}(h:L.Perm M):∀{w:World} {S:Nat→Prop},stars L w S→stars M w S:=by
 induction h with
 | nil=>exact fun h=>h
 | cons x _ ih=>exact fun ⟨S1,S2,h1,h2,h3⟩=>⟨S1,S2,h1,ih h2,h3⟩
 | swap x y l=>exact fun h=>stars_swap h
 | trans _ _ i1 i2=>exact fun h=>i2 (i1 h)
theorem Ent.perm{L M:List Res}(h:L.Perm M):Ent L M:=fun _ T ht=>⟨T,fun _ h=>h,stars_perm h ht⟩
theorem Ent.nils(L:List Res):Ent L (resNil::L):=fun _ T ht=>⟨T,fun _ h=>h,fun _=>False,T,fun _ h=>h,ht,fun _ h _=>h,fun b=>by simp⟩
theorem Ent.cons{L M:List Res}(R:Res)(h:Ent L M):Ent (R::L) (R::M):=fun w T ⟨S1,S2,h1,h2,hd,hT⟩=>by
 obtain ⟨T',h3,h4⟩:=h w S2 h2
 exact ⟨fun b=>S1 b∨T' b,fun b hb=>(hT b).2 (hb.imp id (h3 b)),S1,T',h1,h4,fun b x y=>hd b x (h3 b y),fun b=>Iff.rfl⟩
theorem Ent.imp{R R':Res}{L:List Res}(h:∀w S,R.at_ w S→R'.at_ w S):Ent (R::L) (R'::L):=fun w T ⟨S1,S2,h1,h2,h3⟩=>⟨T,fun _ h=>h,S1,S2,h w S1 h1,h2,h3⟩
theorem Ent.all(L:List Res):Ent L []:=fun _ _ _=>⟨fun _=>False,fun _ h=>h.elim,fun _ h=>h⟩
structure Pre(H H2:List AObj):Prop where
 out:∀F γ w,RelL F γ (hp H) w→Rs F γ H w→∃γ2,RelL F γ2 (hp H2) w∧Rs F γ2 H2 w∧Step γ (hp H) γ2 (hp H2)∧∀o,o<H2.length→(o<H.length∧γ2 o=γ o)∨γ2 o≠none
theorem hp_vw:∀{H H2:List AObj},H.map vw=H2.map vw→hp H=hp H2:=fun {H H2} h=>by
 have:∀(H:List AObj) (k:Nat) (t:T AObj),ofL k H t=ofL k (H.map vw) t:=by
  intro H
  induction H with
  | nil=>intro k t;rfl
  | cons a H ih=>
    intro k t
    have e:vw (vw a)=vw a:=by cases a<;>rfl
    simp only[List.map_cons,ofL,e,ih]
 unfold hp
 rw[this H,this H2,h]
 have:=congrArg List.length h
 simp only[List.length_map] at this
 rw[this]
theorem Pre.same{H H2:List AObj}(hv:H.map vw=H2.map vw)(he:Ent (rss H) (rss H2)):Pre H H2:=⟨fun F γ w hR hs=>by
 have hl:H.length=H2.length:=by simpa using congrArg List.length hv
 exact ⟨γ,by rw[←hp_vw hv];exact hR,hs.ent he,by rw[←hp_vw hv];exact .refl γ _,fun o ho=>.inl ⟨by omega,rfl⟩⟩⟩
theorem Pre.more{H:List AObj}{R:Res}(hl:Nat.blt H.length lim=true)(he:Ent (rss H) (rss H++[R])):Pre H (H++[.res R]):=⟨fun F γ w hR hs=>by
 have hl:=blt_t hl
 let γ2:Gam:=fun i=>if i=H.length then some none else γ i
 have g1:∀i,i≠H.length→γ2 i=γ i:=fun i h=>if_neg h
 have g2:γ2 H.length=some none:=if_pos rfl
 have g3:γ H.length=none:=hR.dom _ (Nat.le_refl _)
 have gs:∀i p,γ2 i=some (some p)→γ i=some (some p)∧i<H.length:=fun i p h=>by
  by_cases e:i=H.length
  ·rw[e,g2] at h;cases h
  ·rw[g1 i e] at h;exact ⟨h,hR.next_lt (by rw[h];simp)⟩
 have hext:Ext γ γ2:=fun i p h=>by
  by_cases e:i=H.length
  ·rw[e,g3] at h;cases h
  ·rw[g1 i e];exact .inl h
 have hl2:(H++[AObj.res R]).length≤lim:=by simp;omega
 have hget:∀i,i<H.length→(hp (H++[AObj.res R])).heap.get i=(hp H).heap.get i:=fun i hi=>by rw[hp_get hl2,hp_get (Nat.le_of_lt hl),List.getElem?_append_left hi]
 refine ⟨γ2,⟨⟨fun i hi=>?_,fun i p h=>?_,fun i h=>?_,fun i j p q h1 h2 e=>hR.inj i j p q (gs i p h1).1 (gs j q h2).1 e,hl2⟩,fun i p h=>?_,hR.frame.less fun i p h=>⟨i,p,(gs i p h).1,rfl⟩⟩,?_,⟨hext,fun i hi h=>by rw[g1 i (by have:i<H.length:=hi;omega)];exact h,by show H.length≤(H++[_]).length;simp,fun i hi _=>hget i hi⟩,fun i hi=>?_⟩
 ·have hi:(H++[AObj.res R]).length≤i:=hi
  simp at hi
  rw[g1 i (by omega)]
  exact hR.dom i (by show H.length≤i;omega)
 ·obtain ⟨h1,h2⟩:=gs i p h
  obtain ⟨ob,h3,h4⟩:=hR.obj i p h1
  exact ⟨ob,by rw[hget i h2];exact h3,h4.mono hext rfl⟩
 ·by_cases e:i=H.length
  ·rw[e,hp_get hl2];simp[vw]
  ·rw[g1 i e] at h
   have:=hR.next_lt (o:=i) (by rw[h];simp)
   rw[hget i this]
   exact hR.gone i h
 ·obtain ⟨h1,h2⟩:=gs i p h
  rw[hget i h2]
  exact hR.live i p h1
 ·obtain ⟨T,h1,h2⟩:=hs.out
  obtain ⟨T',h3,h4⟩:=he w T h1
  exact ⟨T',by unfold rss;rw[List.map_append];exact h4,fun b hb=>⟨(h2 b (h3 b hb)).1,fun i p h=>(h2 b (h3 b hb)).2 i p (gs i p h).1⟩⟩
 ·simp at hi
  by_cases e:i=H.length
  ·exact .inr (by rw[e,g2];simp)
  ·exact .inl ⟨by omega,g1 i e⟩⟩
theorem Pre.trans{H H2 H3:List AObj}(h:Pre H H2)(k:Pre H2 H3):Pre H H3:=⟨fun F γ w hR hs=>by
 obtain ⟨γ2,a1,a2,a3,a4⟩:=h.out F γ w hR hs
 obtain ⟨γ3,b1,b2,b3,b4⟩:=k.out F γ2 w a1 a2
 refine ⟨γ3,b1,b2,a3.trans b3,fun o ho=>?_⟩
 rcases b4 o ho with ⟨h1,h2⟩|h1
 ·rcases a4 o h1 with ⟨h3,h4⟩|h3
  ·exact .inl ⟨h3,h2.trans h4⟩
  ·exact .inr (by rw[h2];exact h3)
 ·exact .inr h1⟩
theorem CallS.pre{P:Program}{S:List Nat}{f:Nat}{args:List AV}{H H2:List AObj}{K:AV→List AObj→Prop}(h:Pre H H2)(c:CallS P S f args H2 K):CallS P S f args H K:=⟨fun F γ w xs hR hpl hrs hxs=>by
 obtain ⟨γ2,a1,a2,a3,a4⟩:=h.out F γ w hR hrs
 obtain ⟨c1,c2⟩:=c.out F γ2 w xs a1 (fun o ho hS=>by
  rcases a4 o ho with ⟨h1,h2⟩|h1
  ·rw[h2];exact hpl o h1 hS
  ·exact h1) a2 (hxs.mono a3.ext _ _)
 exact ⟨c1,fun R hRet=>c2 R fun v H' γ' x w' k1 k2 k3=>hRet v H' γ' x w' k1 k2 ⟨k3.rel,a3.trans k3.step,k3.pl,k3.rs⟩⟩⟩
theorem WpS.pre{P:Program}{n k:Nat}{c:Code}{t:Tmps}{H H2:List AObj}{Q:AExit→Tmps→List AObj→Prop}(h:Pre H H2)(hc:WpS P n k c t H2 Q):WpS P n k c t H Q:=⟨fun F γ w a R hR hT hQ=>by
 obtain ⟨γ2,a1,a2,a3,a4⟩:=h.out F γ w hR.rel hR.rs
 exact hc.out F γ2 w a R ⟨a1,fun o ho=>by
  rcases a4 o ho with ⟨h1,h2⟩|h1
  ·rw[h2];exact hR.pl o h1
  ·exact h1,a2⟩ (hT.mono a3.ext) fun e t' H' γ' a' w' h1 h2 h3 h4=>hQ e t' H' γ' a' w' h1 h2 h3 ((Old.of_ext a3.ext k).trans h4)⟩
theorem CallS.post{P:Program}{f:Nat}{args:List AV}{H:List AObj}{K K':AV→List AObj→Prop}(c:CallS P [] f args H K)(hk:∀v H1,K v H1→∃H2,Pre H1 H2∧K' v H2):CallS P [] f args H K':=⟨fun F γ w xs hR hpl hrs hxs=>by
 obtain ⟨c1,c2⟩:=c.out F γ w xs hR hpl hrs hxs
 refine ⟨c1,fun R hRet=>c2 R fun v H' γ' x w' k1 k2 k3=>?_⟩
 obtain ⟨H2,h,hv⟩:=hk v H' k1
 obtain ⟨γ2,a1,a2,a3,a4⟩:=h.out F γ' w' k3.rel k3.rs
 exact hRet v H2 γ2 x w' hv (k2.mono a3.ext _ _) ⟨a1,k3.step.trans a3,fun o ho hS=>by
  rcases a4 o ho with ⟨h1,h2⟩|h1
  ·rw[h2];exact k3.pl o h1 hS
  ·exact h1,a2⟩⟩
section
variable{P:Program}{E:Env}(hE:EnvOk P E){S:List Nat}{t:Tmps}{H:List AObj}{K:AV→List AObj→Prop}
include hE
theorem OpP.idxL{ty elem:TypeId}{r er:TyRow}{x i:Operand}{a:Addr}{n k:Nat}{c:Nat}(hr:E.ty ty=some r)(hu:r.und=.slice elem)(he:E.ty elem=some er)(hx:opnd t x=some (.lit (.slice (some a) n c)))(hi:opnd t i=some (.lit (.int .i64 (k:Int))))(hk:k<n)(h:K (.lit (.pointer (some (a.add (k * er.info.size))))) H):OpP E P true S t H (.indexAddr ty x i) K:=
 ⟨.inr ⟨rfl,⟨fun F γ w ρ hR hpl hrs hρ o ho=>by
  have h1:=hρ x _ (by simp[Op.operands]) hx
  have h2:=hρ i _ (by simp[Op.operands]) hi
  rw[conc_lit_iff] at h1 h2
  refine ⟨_,H,γ,.value (.pointer (some (a.add (k * er.info.size)))),w,?_,.inl ⟨_,rfl,conc_lit γ _⟩,h,hR,.refl γ _,hpl,hrs⟩
  obtain ⟨dst,op,type,pos,after,guard⟩:=o
  simp only[] at ho
  subst ho
  simp only[execOp]
  refine run_v ?_
  rw[h1,h2]
  unfold Instr.indexAt
  have hin:(0≤(k:Int)∧(k:Int)<(n:Int)):=⟨by omega,by omega⟩
  simp only[asIntOf,Instr.sureAddr,Sem.run_bind,run_und hE hr w,Result.andThen_ok,hu,Sem.run_pure,hin,and_self,if_true,run_size hE he w,Int.toNat_natCast]⟩⟩⟩
omit hE in
theorem OpP.loadR{ty:TypeId}{ad:Operand}{a:Addr}{i:Nat}{R:Res}{x:Value}{v:AV}(hi:H[i]?=some (.res R))(hl:∀w S,R.at_ w S→(loadVar ty a).run P w=.ok x w)(hx:opnd t ad=some (.lit (.pointer (some a))))(hv:v.flat=some x)(h:K v H):OpP E P true S t H (.load ty ad) K:=
 ⟨.inr ⟨rfl,⟨fun F γ w ρ hR hpl hrs hρ o' ho=>by
  have h1:=hρ ad _ (by simp[Op.operands]) hx
  rw[conc_lit_iff] at h1
  obtain ⟨T,hT,_⟩:=hrs.out
  have hti:(rss H)[i]?=some R:=by unfold rss;rw[List.getElem?_map,hi];rfl
  obtain ⟨S1,S2,b1,_,_,_⟩:=stars_at hT hti
  refine ⟨v,H,γ,.value x,w,?_,.inl ⟨x,rfl,conc_flat v x hv⟩,h,hR,.refl γ _,hpl,hrs⟩
  obtain ⟨dst,op,type,pos,after,guard⟩:=o'
  simp only[] at ho
  subst ho
  simp only[execOp]
  refine run_v ?_
  rw[h1]
  simp only[Instr.loadAt,Instr.sureAddr,Sem.run_bind,Sem.run_pure,Result.andThen_ok,hl w S1 b1]⟩⟩⟩
end
def RdL{α:Type}(P:Program)(R:Res)(ty:TypeId)(size:Nat)(a:Addr)(enc:α→Value)(l:List α):Prop:=∀w S,R.at_ w S→∀k (h:k<l.length),(loadVar ty (a.add (k * size))).run P w=.ok (enc l[k]) w
def RdV{α:Type}(P:Program)(R:Res)(ty:TypeId)(size:Nat)(oa:Option Addr)(enc:α→Value)(l:List α):Prop:=l≠[]→∃a,oa=some a∧RdL P R ty size a enc l
theorem RdV.at{α:Type}{P:Program}{R:Res}{ty:TypeId}{size:Nat}{oa:Option Addr}{enc:α→Value}{l:List α}(h:RdV P R ty size oa enc l){k:Nat}(hk:k<l.length):∃a,oa=some a∧RdL P R ty size a enc l:=h (by rintro rfl;simp at hk)
theorem RdS.sub{P:Program}{n k m:Nat}{b:Code}{t:Tmps}{H:List AObj}{Q:AExit→Tmps→List AObj→Prop}(ρ:List Nat){l:List (Nat×AV)}{H0:List AObj}(hs:Sub k ρ t H l H0)(h:RdS P n k m b (tp l) H0 Q):RdS P n k m b t H Q:=
 ⟨fun F γ w a R hR hT hQ=>h.out F _ w a R (hs.rl hR) (hs.ct hT) fun e t' H' γ' a' w' h1 h2 h3 h4=>hQ e t' H' γ' a' w' h1 h2 h3 ((hs.old γ).trans h4)⟩
theorem Ent.snocNil(L:List Res):Ent L (L++[resNil]):=(Ent.nils L).trans (Ent.perm (by simpa using (List.perm_append_comm (l₁:=[resNil]) (l₂:=L))))
def picks(L:List Res):List (Option Nat)→List Res
 | []=>[]
 | none::σ=>resNil::picks L σ
 | some i::σ=>L.getD i resNil::picks L σ
def somes:List (Option Nat)→List Nat
 | []=>[]
 | none::σ=>somes σ
 | some i::σ=>i::somes σ
theorem picks_set{L:List Res}{i:Nat}:∀{σ:List (Option Nat)},i∉somes σ→picks (L.set i resNil) σ=picks L σ
 | [],_=>rfl
 | none::σ,h=>by simp only[picks,picks_set (σ:=σ) h]
 | some j::σ,h=>by
   simp only[somes,List.mem_cons,not_or] at h
   simp only[picks,picks_set h.2]
   congr 1
   simp only[List.getD_eq_getElem?_getD,List.getElem?_set]
   rw[if_neg h.1]
theorem Ent.picks:∀(L:List Res) (σ:List (Option Nat)),nodupB (somes σ)=true→Ent L (picks L σ)
 | L,[],_=>Ent.all L
 | L,none::σ,h=>(Ent.picks L σ h).trans (Ent.nils _)
 | L,some i::σ,h=>fun w T ht=>by
   have hn:=List.nodup_cons.1 (nodupB_ok h)
   have h2:nodupB (somes σ)=true:=by
    simp only[somes,nodupB,Bool.and_eq_true] at h
    exact h.2
   cases hi:L[i]? with
   | none=>
     simp only[Ev.picks,List.getD_eq_getElem?_getD,hi,Option.getD_none]
     exact ((Ent.picks L σ h2).trans (Ent.nils _)) w T ht
   | some r=>
     obtain ⟨S1,S2,h3,h4,h5,h6⟩:=stars_at ht hi
     obtain ⟨T',k1,k2⟩:=Ent.picks (L.set i resNil) σ h2 w S2 h4
     rw[picks_set hn.1] at k2
     simp only[Ev.picks,List.getD_eq_getElem?_getD,hi,Option.getD_some]
     exact ⟨fun b=>S1 b∨T' b,fun b hb=>(h6 b).2 (hb.imp id (k1 b)),S1,T',h3,k2,fun b x y=>h5 b x (k1 b y),fun b=>Iff.rfl⟩
end Go.Proofs.YtmbdghclhpboaaaGreat.Ev

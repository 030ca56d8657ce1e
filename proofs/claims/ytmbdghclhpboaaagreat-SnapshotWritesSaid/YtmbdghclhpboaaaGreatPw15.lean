/- Part of the proof: SyH SyI SyJ. Conditions: as each states. -/
import Derived.Test.YtmbdghclhpboaaaGreatPw14
set_option linter.all false
namespace Go.Proofs.YtmbdghclhpboaaaGreat.Ev
mutual
def pO(g:Nat->Nat):AV->(AV->Prop)->Prop
 | .lit v,K=>K (.lit v)
 | .ptr o off,K=>oc (g o) fun o=>K (.ptr o off)
 | .slice o off len cap,K=>oc (g o) fun o=>K (.slice o off len cap)
 | .map o,K=>oc (g o) fun o=>K (.map o)
 | .func fn a b,K=>sD g a fun a=>sD g b fun b=>K (.func fn a b)
 | .iface t v,K=>pO g v fun v=>K (.iface t v)
 | .agg l,K=>sD g l fun l=>K (.agg l)
 | .tuple l,K=>sD g l fun l=>K (.tuple l)
def sD(g:Nat->Nat):List AV->(List AV->Prop)->Prop
 | [],K=>K []
 | v::l,K=>pO g v fun v=>sD g l fun l=>K (v::l)
end
mutual
theorem wQ(g:Nat->Nat):∀(v:AV) (K:AV->Prop),pO g v K=K (v.cG g)
 | .lit v,K=>rfl
 | .ptr o off,K=>by simp only[pO,iE,AV.cG]
 | .slice o off len cap,K=>by simp only[pO,iE,AV.cG]
 | .map o,K=>by simp only[pO,iE,AV.cG]
 | .func fn a b,K=>by simp only[pO,nE g a,nE g b,AV.cG]
 | .iface t v,K=>by simp only[pO,wQ g v,AV.cG]
 | .agg l,K=>by simp only[pO,nE g l,AV.cG]
 | .tuple l,K=>by simp only[pO,nE g l,AV.cG]
theorem nE(g:Nat->Nat):∀(l:List AV) (K:List AV->Prop),sD g l K=K (AV.ff g l)
 | [],K=>rfl
 | v::l,K=>by simp only[sD,wQ g v,nE g l,AV.ff]
end
def zF(g:Nat->Nat):List (AV×AV×Nat)->(List (AV×AV×Nat)->Prop)->Prop
 | [],K=>K []
 | (k,v,b)::l,K=>pO g k fun k=>pO g v fun v=>zF g l fun l=>K ((k,v,b)::l)
theorem BF(g:Nat->Nat):∀(l:List (AV×AV×Nat)) (K:List (AV×AV×Nat)->Prop),zF g l K=K (pe g l)
 | [],K=>rfl
 | (k,v,b)::l,K=>by simp only[zF,wQ,BF g l,pe]
def Rg(g:Nat->Nat):af->(af->Prop)->Prop
 | .cells l e,K=>sD g l fun l=>K (.cells l e)
 | .map es c,K=>zF g es fun es=>K (.map es c)
 | .iter m a b c,K=>oc (g m) fun m=>K (.iter m a b c)
 | ob,K=>K ob
theorem KN(g:Nat->Nat)(ob:af)(K:af->Prop):Rg g ob K=K (ob.cG g):=by
 cases ob<;>first|rfl|simp only[Rg,af.cG,nE,BF,iE]
mutual
def AV.uG(p:Nat->Bool):AV->Bool
 | .lit _=>true
 | .ptr o _=>p o
 | .slice o _ _ _=>p o
 | .map o=>p o
 | .func _ a b=>AV.yj p a&&AV.yj p b
 | .iface _ v=>AV.uG p v
 | .agg l=>AV.yj p l
 | .tuple l=>AV.yj p l
def AV.yj(p:Nat->Bool):List AV->Bool
 | []=>true
 | v::l=>AV.uG p v&&AV.yj p l
end
def El(p:Nat->Bool):List (AV×AV×Nat)->Bool
 | []=>true
 | (k,v,_)::l=>k.uG p&&v.uG p&&El p l
def af.uG(p:Nat->Bool):af->Bool
 | .cells l _=>AV.yj p l
 | .map es _=>El p es
 | .iter m _ _ _=>p m
 | _=>true
section
variable{p:Nat->Bool}{g h:Nat->Nat}(bN:∀o,p o=true->h (g o)=o)
include bN
mutual
theorem rI:∀(v:AV),v.uG p=true->(v.cG g).cG h=v
 | .lit v,_=>rfl
 | .ptr o off,k=>by simp only[AV.cG,bN o k]
 | .slice o off len cap,k=>by simp only[AV.cG,bN o k]
 | .map o,k=>by simp only[AV.cG,bN o k]
 | .func fn a b,k=>by
   simp only[AV.uG,Bool.and_eq_true] at k;simp only[AV.cG,nB a k.1,nB b k.2]
 | .iface t v,k=>by simp only[AV.cG,rI v k]
 | .agg l,k=>by simp only[AV.cG,nB l k]
 | .tuple l,k=>by simp only[AV.cG,nB l k]
theorem nB:∀(l:List AV),AV.yj p l=true->AV.ff h (AV.ff g l)=l
 | [],_=>rfl
 | v::l,k=>by
   simp only[AV.yj,Bool.and_eq_true] at k;simp only[AV.ff,rI v k.1,nB l k.2]
end
theorem Ac:∀(l:List (AV×AV×Nat)),El p l=true->pe h (pe g l)=l
 | [],_=>rfl
 | (a,b,_)::l,k=>by
   simp only[El,Bool.and_eq_true] at k;simp only[pe,rI bN a k.1.1,rI bN b k.1.2,Ac l k.2]
theorem Ls(ob:af)(k:ob.uG p=true):(ob.cG g).cG h=ob:=by
 cases ob<;>first|rfl|(simp only[af.uG] at k;simp only[af.cG,nB bN _ k])|(simp only[af.uG] at k;simp only[af.cG,Ac bN _ k])|(simp only[af.uG] at k;simp only[af.cG,bN _ k])
end
def gU(ρ ks:List Nat)(n i:Nat):Nat:=match ρ[i]? with
 | some o=>o
 | none=>match idxOf i ks 0 with
   | some q=>n+q
   | none=>vJ
def KL(g:Nat->Nat)(p:Nat->Bool)(fO:List af):List Nat->(List af->Prop)->Prop
 | [],K=>K []
 | j::ks,K=>match fO[j]? with
   | some hO=>match hO.uG p with
     | true=>Rg g hO fun cT=>KL g p fO ks fun l=>K (cT::l)
     | false=>False
   | none=>False
def zV(g:Nat->Nat)(p:Nat->Bool)(ρ ks:List Nat)(fO:List af):Nat->List af->(List af->Prop)->Prop
 | _,[],K=>KL g p fO ks K
 | o,ob::H,K=>match idxOf o ρ 0 with
   | some i=>match fO[i]? with
     | some hO=>match hO.uG p with
       | true=>Rg g hO fun cT=>zV g p ρ ks fO (o+1) H fun H'=>K (cT::H')
       | false=>False
     | none=>False
   | none=>zV g p ρ ks fO (o+1) H fun H'=>K (ob::H')
def pU(ρ ks:List Nat)(n o:Nat):Bool:=Nat.beq (EA n ρ ks (gU ρ ks n o)) o
def D6(ρ ks:List Nat)(H fO:List af)(v0:AV)(K:AV->List af->Prop):Prop:=
 oc (qb H 0) fun n=>match eg ks&&ks.all (fun j=>Nat.ble ρ.length j)&&Nat.ble (n+ks.length) aU&&v0.uG (pU ρ ks n) with
  | true=>pO (gU ρ ks n) v0 fun v=>zV (gU ρ ks n) (pU ρ ks n) ρ ks fO 0 H fun H'=>K v H'
  | false=>False
theorem Hn{p:Nat->Bool}{g h:Nat->Nat}(bN:∀o,p o=true->h (g o)=o){ob:af}(k:ob.uG p=true):rh ob ((ob.cG g).cG h):=by
 rw[Ls bN ob k];exact ve ob
section
variable{g h:Nat->Nat}{p:Nat->Bool}{fO:List af}(bN:∀o,p o=true->h (g o)=o)
include bN
theorem Hj{ρ:List Nat}:∀{ks:List Nat} {o:Nat} {K:List af->Prop},KL g p fO ks K->∃l,pX h ρ fO o [] l ks/\K l
 | [],o,K,k=>⟨[],tU,k⟩
 | j::ks,o,K,k=>by
   simp only[KL] at k;split at k
   ·rename_i hO ho;split at k
    ·rename_i hc;rw[KN] at k;obtain ⟨l,h1,h2⟩:=Hj (ρ:=ρ) (o:=o+1) k;exact ⟨hO.cG g::l,⟨⟨hO,ho,Hn bN hc⟩,h1⟩,h2⟩
    ·exact k.elim
   ·exact k.elim
theorem xh{ρ ks:List Nat}:∀{H:List af} {o:Nat} {K:List af->Prop},zV g p ρ ks fO o H K->∃l,pX h ρ fO o H l ks/\K l
 | [],o,K,k=>Hj bN k
 | ob::H,o,K,k=>by
   simp only[zV] at k;split at k
   ·rename_i i hi;split at k
    ·rename_i hO ho;split at k
     ·rename_i hc;rw[KN] at k;obtain ⟨l,h1,h2⟩:=xh k;refine ⟨hO.cG g::l,⟨?_,h1⟩,h2⟩;rw[hi];exact ⟨hO,ho,Hn bN hc⟩
     ·exact k.elim
    ·exact k.elim
   ·rename_i hi;obtain ⟨l,h1,h2⟩:=xh k;refine ⟨ob::l,⟨?_,h1⟩,h2⟩;rw[hi];exact ve ob
end
theorem ag.use{P:Program}{S:List Nat}{f:Nat}{args0 args:List AV}{H0 H:List af}{K0 K:AV->List af->Prop}(c:nJ P f args0 H0 K0)(ρ:List Nat)(gR:args=AV.ff (ef ρ) args0)(lp:(eg ρ&&Nat.ble H0.length aU&&ρ.all (fun i=>!n8 S i))=true)(pa:nL (ef ρ) H ρ H0)
  (hK:∀v0 fO,K0 v0 fO->∃ks,D6 ρ ks H fO v0 K):ag P S f args H K:=by
 refine c.sub ρ gR lp pa fun v0 fO h0=>?_;obtain ⟨ks,h1⟩:=hK v0 fO h0;unfold D6 at h1;rw[iE,lf,Nat.zero_add] at h1;split at h1
 ·rename_i hc;simp only[Bool.and_eq_true] at hc;obtain ⟨⟨⟨c1,c2⟩,c3⟩,c4⟩:=hc;have Xt:∀o,pU ρ ks H.length o=true->EA H.length ρ ks (gU ρ ks H.length o)=o:=fun o ho=>Nat.eq_of_beq_eq_true ho;rw[wQ] at h1;obtain ⟨l,b1,b2⟩:=xh Xt h1;have hl:=p7 b1;refine ⟨_,l,ks,⟨?_,(rI Xt v0 c4).symm,b1⟩,b2⟩;rw[hl];simp only[Bool.and_eq_true];exact ⟨⟨c1,c2⟩,c3⟩
 ·exact h1.elim
structure mh(γ:aK)(H:List af)(w:World)(S:Nat->Prop):Prop where
 rel:Rel γ (hp H) w
 live:∀o p,γ o=some (some p)->(hp H).heap.get o≠some .dead
 pl:∀o,o<H.length->γ o≠none
 res:∃T,bw (cC H) w T/\(∀b,T b->∀o p,γ o=some (some p)->p.block≠b)/\∀b,S b↔(T b\/∃o p,γ o=some (some p)/\p.block=b)
theorem mh.lt{γ:aK}{H:List af}{w:World}{S:Nat->Prop}(h:mh γ H w S){b:Nat}(hb:S b):b<w.heap.size:=by
 obtain ⟨T,h1,_,h3⟩:=h.res;rcases (h3 b).1 hb with h4|⟨o,p,h4,rfl⟩
 ·exact iJ h1 h4
 ·obtain ⟨ob,k1,k2⟩:=h.rel.obj o p h4;exact k2.lt fun e=>h.live o p h4 (by rw[k1,e])
theorem mh.lP{γ:aK}{H:List af}{w w':World}{S:Nat->Prop}(h:mh γ H w S)(hk:∀b,S b->w'.heap[b]?=w.heap[b]?):mh γ H w' S:=by
 obtain ⟨T,h1,h2,h3⟩:=h.res;refine ⟨⟨h.rel.jv,fun o p hp=>?_,h.rel.gone,h.rel.inj,h.rel.aU⟩,h.live,h.pl,T,il h1 fun b hb=>hk b ((h3 b).2 (.inl hb)),h2,h3⟩;obtain ⟨ob,k1,k2⟩:=h.rel.obj o p hp;exact ⟨ob,k1,k2.mono (.refl γ) (hk _ ((h3 _).2 (.inr ⟨o,p,hp,rfl⟩)))⟩
def YB(γ:aK)(o:Nat)(a:Addr):Prop:=∃p,γ o=some (some p)/\a=⟨p.block,p.base,none⟩
def AtR(a:Addr)(o:Nat)(H:List af):aH:=
 ⟨fun w S=>∃γ,YB γ o a/\mh γ H w S,fun ⟨_,_,h⟩ hb=>h.lt hb,fun ⟨γ,h1,h⟩ hk=>⟨γ,h1,h.lP hk⟩⟩
def qU:af->af
 | .res _=>.dead
 | ob=>ob
theorem Sn(ob:af):vw (qU ob)=vw ob:=by cases ob<;>rfl
theorem Ho:∀(H:List af) (k:Nat) (t:T af),CC k (H.map qU) t=CC k H t
 | [],_,_=>rfl
 | a::H,k,t=>by simp only[List.map_cons,CC,Sn,Ho H]
theorem ti(H:List af):hp (H.map qU)=hp H:=by unfold hp;rw[Ho,List.length_map]
def Ep(H:List af)(o:Nat):Bool:=match H[o]? with
 | some .dead=>true
 | some (.res _)=>true
 | none=>true
 | _=>false
theorem Gg{H:List af}{o:Nat}(h:Ep H o=false):∃ob,H[o]?=some ob/\vw ob≠.dead:=by
 unfold Ep at h;split at h<;>first|cases h|skip
 rename_i x _ _ _;cases hx:H[o]? with
 | none=>simp_all
 | some ob=>
   refine ⟨ob,rfl,?_⟩;cases ob<;>simp_all [vw]
structure CJ(ρ:List Nat)(o:Nat)(H' H1:List af)(v:AV):Prop where
 FY:(eg ρ&&Nat.ble H1.length aU&&!Ep H' o)=true
 fix:ρ[o]?=some o
 uu:nL (ef ρ) (H'.map qU) ρ (H1.map qU)
 Ai:bc (cC H') (cC H1)
 val:∀g,v.cG g=v
theorem IZ{v:AV}(hv:∀g,v.cG g=v){γ aq:aK}{c c':Nat}(h:γ c=none)(h':aq c'=none){x:Value}(k:an γ v x):an aq v x:=by
 have e1:=eJ (γ:=γ) (g:=fun _=>c) v x;have e2:=eJ (γ:=aq) (g:=fun _=>c') v x;rw[hv] at e1 e2;rw[h] at e1;rw[h'] at e2;exact e2.2 (e1.1 k)
theorem yl{l:List AV}(hv:∀g,AV.ff g l=l){γ aq:aK}{c c':Nat}(h:γ c=none)(h':aq c'=none){xs:List Value}(k:az γ l xs):az aq l xs:=by
 have e1:=eK (γ:=γ) (g:=fun _=>c) l xs;have e2:=eK (γ:=aq) (g:=fun _=>c') l xs;rw[hv] at e1 e2;rw[h] at e1;rw[h'] at e2;exact e2.2 (e1.1 k)
theorem mh.rl{F:di}{γ γ0:aK}{σ:AS}{H0:List af}{w:World}{S:Nat->Prop}(h:mh γ0 H0 w S)(hF:Frame F γ w)(hS:∀b,S b->¬F.fz b):aL F γ0 (hp H0) w/\Rs F γ0 H0 w:=by
 obtain ⟨T,h1,h2,h3⟩:=h.res;exact ⟨⟨h.rel,h.live,hF.os,hF.tape,hF.output,hF.size,hF.fV,hF.block,fun o p hp=>hS _ ((h3 _).2 (.inr ⟨o,p,hp,rfl⟩))⟩,T,h1,fun b hb=>⟨hS b ((h3 b).2 (.inl hb)),h2 b hb⟩⟩
theorem Je{F:di}{γ:aK}{H H1:List af}{w:World}{ρ:List Nat}(hR:aL F γ (hp H) w)(hs:Rs F γ H w)(cx:∀o,o<H.length->γ o≠none)(hn:eg ρ=true)(hl:Nat.ble H1.length aU=true)(ho:nL (ef ρ) (H.map qU) ρ (H1.map qU))(he:bc (cC H) (cC H1)) :
  ∃S,mh (fun o=>γ (ef ρ o)) H1 w S/\∀b,S b->¬F.fz b:=by
 have h1:aL F (fun o=>γ (ef ρ o)) (hp H1) w:=by
  rw[<-ti H1];exact aL.sub (by rw[ti];exact hR) ho hn (by rw[List.length_map];exact hl)
 have hlen:=nI ho;rw[List.length_map] at hlen;obtain ⟨T,k1,k2⟩:=(hs.Ai he).out;refine ⟨fun b=>T b\/∃o p,γ (ef ρ o)=some (some p)/\p.block=b,⟨h1.toRel,h1.live,fun o ah=>?_,T,k1,fun b hb o p hp=>(k2 b hb).2 _ p hp,fun b=>Iff.rfl⟩,fun b hb=>?_⟩
 ·obtain ⟨j,cT,e1,e2,_⟩:=nH ho o _ (List.getElem?_eq_getElem (by rw[List.length_map];exact ah));rw[List.getElem?_eq_getElem (by omega)] at e1;cases e1
  rw[lj (show o<ρ.length by omega)];have:=(List.getElem?_eq_some_iff.1 e2).1;rw[List.length_map] at this;exact cx _ this
 ·rcases hb with hb|⟨o,p,hp,rfl⟩
  ·exact (k2 b hb).1
  ·exact h1.frame.own o p hp
theorem ag.Cy{P:Program}{f:Nat}{a:Addr}{o:Nat}{rest:List AV}{H0:List af}{K' K:AV->List af->Prop}(c:nJ P f (.ptr o 0::rest) H0 K')(qk:∀g,AV.ff g rest=rest)
  (hk:∀v H',K' v H'->∃ρ H1,CJ ρ o H' H1 v/\K v [.res (AtR a o H1)]):nJ P f (.lit (.pointer (some a))::rest) [.res (AtR a o H0)] K:=⟨fun F γ w xs hR cx cJ gw=>by
 obtain ⟨T,⟨S1,S2,⟨γ0,⟨p0,Xo,ha⟩,dj⟩,ri,_,hT⟩,lY⟩:=cJ.out;have hS:∀b,S1 b->¬F.fz b:=fun b hb=>(lY b ((hT b).2 (.inl hb))).1;obtain ⟨Cl,GZ⟩:=dj.rl (σ:=hp H0) hR.frame hS;have qW:=lT hR;have ED:=lT Cl;have Om:az γ0 (.ptr o 0::rest) xs.toList:=by
  simp only[az] at gw ⊢;obtain ⟨x,ys,e,h1,h2⟩:=gw;refine ⟨x,ys,e,?_,yl qk qW ED h2⟩;rw[al] at h1;subst h1;simp only[an];exact ⟨a,rfl,by unfold gz;rw[Xo,ha];simp⟩
 obtain ⟨c1,c2⟩:=c.out F γ0 w xs Cl (fun o ho _=>dj.pl o ho) GZ Om;refine ⟨c1,fun R fj=>c2 R fun v H' aq x w' k1 k2 k3=>?_⟩;obtain ⟨ρ,H1,fw,Un⟩:=hk v H' k1;have lp:=fw.FY;simp only[Bool.and_eq_true,Bool.not_eq_true'] at lp;obtain ⟨S',b1,b2⟩:=Je k3.rel k3.rs (fun o ho=>k3.pl o ho (by simp)) lp.1.1 lp.1.2 fw.uu fw.Ai;have EJ:ef ρ o=o:=by
  unfold ef List.getD;rw[fw.fix];rfl
 have Cr:aq o=some (some p0):=by
  rcases k3.step.ext o _ Xo with h|h
  ·exact h
  ·exfalso;have e:=k3.rel.gone o h;obtain ⟨ob,e1,e2⟩:=Gg lp.2;rw[aT k3.rel.aU,e1] at e;exact e2 (Option.some.inj e)
 have EM:∀o p,γ o≠some (some p):=fun o p hp=>by
  have h1:=hR.iF (o:=o) (by rw[hp];simp);have h2:o<1:=h1;obtain rfl:o=0:=by omega
  exact hR.live 0 p hp (by rw[aT (by show 1<=aU;unfold aU;omega)];rfl)
 refine fj v [.res (AtR a o H1)] γ x w' Un (IZ fw.val (lT k3.rel) qW k2) ⟨⟨⟨hR.jv,fun o p hp=>absurd hp (EM o p),fun o ho=>?_,hR.inj,hR.aU⟩,fun o p hp=>absurd hp (EM o p),?_⟩,⟨.refl γ,fun o _ h=>h,Nat.le_refl _,fun o ho h=>?_⟩,fun q hq hS=>cx q hq hS,⟨S',⟨S',fun _=>False,⟨fun o=>aq (ef ρ o),⟨p0,by show aq (ef ρ o)=_;rw[EJ];exact Cr,ha⟩,b1⟩,fun _ h=>h,fun _ _ h=>h,fun b=>by simp⟩,fun b hb=>⟨b2 b hb,fun o p hp=>absurd hp (EM o p)⟩⟩⟩
 ·have h1:=hR.iF (o:=o) (by rw[ho];simp);have h2:o<1:=h1;obtain rfl:o=0:=by omega
  rw[aT (by show 1<=aU;unfold aU;omega)];rfl
 ·exact k3.rel.frame.less fun o p hp=>absurd hp (EM o p)
 ·have h2:o<1:=ho;obtain rfl:o=0:=by omega
  rw[aT (by show 1<=aU;unfold aU;omega),aT (by show 1<=aU;unfold aU;omega)];rfl⟩
structure Ti(qQ ρ:List Nat)(q o:Nat)(H' H0 H1:List af)(u:List AV):Prop where
 FY:(eg (qQ++ρ)&&C8 H0.length qQ 0&&Nat.beq qQ.length H0.length&&Nat.blt H0.length aU&&Nat.ble H1.length aU&&!Ep H' q)=true
 fix:ρ[o]?=some q
 fV:nL (ef qQ) (H'.map qU) qQ (H0.map qU)
 uu:nL (ef ρ) (H'.map qU) ρ (H1.map qU)
 Ai:bc (cC H') (cC H0++cC H1)
 val:∀g,AV.ff g u=u
def Kx(x:AV):List AV->AV
 | []=>x
 | u=>.tuple (x::u)
theorem ag.lower{P:Program}{f:Nat}{args:List AV}{H0:List af}{K' K:AV->List af->Prop}(c:nJ P f args H0 K')
  (hk:∀v H',K' v H'->∃qQ ρ q o H1 u,Ti qQ ρ q o H' H0 H1 u/\v=Kx (.ptr q 0) u/\∀a,K (Kx (.lit (.pointer (some a))) u) (H0++[.res (AtR a o H1)])):nJ P f args H0 K:=⟨fun F γ w xs hR cx cJ gw=>by
 obtain ⟨c1,c2⟩:=c.out F γ w xs hR cx cJ gw;refine ⟨c1,fun R fj=>c2 R fun v H' aq x w' k1 k2 k3=>?_⟩;obtain ⟨qQ,ρ,q,o,H1,u,fw,rfl,Un⟩:=hk v H' k1;have lp:=fw.FY;simp only[Bool.and_eq_true,Bool.not_eq_true'] at lp;obtain ⟨⟨⟨⟨⟨n1,n2⟩,n3⟩,n4⟩,n5⟩,n6⟩:=lp;have n3:=Nat.eq_of_beq_eq_true n3;have n4:H0.length<aU:=Nat.le_of_ble_eq_true n4;have mP:=jj n1;rw[List.nodup_append] at mP;obtain ⟨d1,d2,d3⟩:=mP;have qW:=lT k3.rel;have EJ:ef ρ o=q:=by
  unfold ef List.getD;rw[fw.fix];rfl
 obtain ⟨ob,e1,e2⟩:=Gg n6;have Za:=(List.getElem?_eq_some_iff.1 e1).1;have Zh:∃p,aq q=some (some p):=by
  cases hg:aq q with
  | none=>exact absurd hg (k3.pl q Za (by simp))
  | some p=>
    cases p with
    | some p=>exact ⟨p,rfl⟩
    | none=>
      exfalso;have e:=k3.rel.gone q hg;rw[aT k3.rel.aU,e1] at e;exact e2 (Option.some.inj e)
 obtain ⟨p,bN⟩:=Zh;have QU:eg qQ=true/\eg ρ=true:=by
  have conv:∀{l:List Nat},l.Nodup->eg l=true:=by
   intro l;induction l with
   | nil=>intro _;rfl
   | cons x l ih=>
     intro h;obtain ⟨h1,h2⟩:=List.nodup_cons.1 h;simp only[eg,ih h2,Bool.and_true,List.all_eq_true];intro j hj;cases hb:Nat.beq x j with
     | false=>rfl
     | true=>exact absurd (by rw[Nat.eq_of_beq_eq_true hb];exact hj) h1
  exact ⟨conv d1,conv d2⟩
 have r0:aL F (fun o=>aq (ef qQ o)) (hp H0) w':=by
  rw[<-ti H0];exact aL.sub (by rw[ti];exact k3.rel) fw.fV QU.1 (by rw[List.length_map];exact Nat.ble_eq_true_of_le (Nat.le_of_lt n4))
 have r1:aL F (fun o=>aq (ef ρ o)) (hp H1) w':=by
  rw[<-ti H1];exact aL.sub (by rw[ti];exact k3.rel) fw.uu QU.2 (by rw[List.length_map];exact n5)
 have hlen:=nI fw.uu;rw[List.length_map] at hlen;obtain ⟨T,t1,t2⟩:=(k3.rs.Ai (H':=H0++H1) (by unfold cC at *;rw[List.map_append];exact fw.Ai)).out;unfold cC at t1;rw[List.map_append] at t1;obtain ⟨T0,T1,s0,s1,sd,sT⟩:=dX.1 t1;have dj:mh (fun o=>aq (ef ρ o)) H1 w' (fun b=>T1 b\/∃o p,aq (ef ρ o)=some (some p)/\p.block=b):=by
  refine ⟨r1.toRel,r1.live,fun o ah=>?_,T1,s1,fun b hb o p hp=>(t2 b ((sT b).2 (.inr hb))).2 _ p hp,fun b=>Iff.rfl⟩;obtain ⟨j,cT,e1,e2,_⟩:=nH fw.uu o _ (List.getElem?_eq_getElem (by rw[List.length_map];exact ah));rw[List.getElem?_eq_getElem (by omega)] at e1;cases e1
  simp only[lj (show o<ρ.length by omega)];have:=(List.getElem?_eq_some_iff.1 e2).1;rw[List.length_map] at this;exact k3.pl _ this (by simp)
 have GQ:∀i,i<H0.length->ef qQ i=i:=fun i hi=>by
  have:=At n2 i hi;unfold ef List.getD;rw[this];simp
 have im:∀i p,aq (ef ρ i)=some (some p)->ef ρ i∈ρ:=fun i p hp=>by
  rcases Nat.lt_or_ge i ρ.length with h|h
  ·rw[lj h];exact List.getElem_mem h
  ·rw[vV h,qW] at hp;cases hp
 let gF:aK:=fun i=>if i<H0.length then aq i else if i=H0.length then some none else none
 have Cp:∀i,i<H0.length->gF i=aq i:=fun i hi=>by show (if i<H0.length then _ else _)=_;rw[if_pos hi]
 have SJ:gF H0.length=some none:=by show (if H0.length<H0.length then _ else _)=_;rw[if_neg (by omega),if_pos rfl]
 have KG:∀i,H0.length<i->gF i=none:=fun i hi=>by show (if i<H0.length then _ else _)=_;rw[if_neg (by omega),if_neg (by omega)]
 have yz:∀i p,gF i=some (some p)->i<H0.length/\aq i=some (some p):=fun i p h=>by
  rcases Nat.lt_trichotomy i H0.length with h1|rfl|h1
  ·exact ⟨h1,by rw[<-Cp i h1];exact h⟩
  ·rw[SJ] at h;cases h
  ·rw[KG i h1] at h;cases h
 have gd:(H0++[af.res (AtR ⟨p.block,p.base,none⟩ o H1)]).length<=aU:=by simp;omega
 have dd:∀i,i<H0.length->(hp (H0++[af.res (AtR ⟨p.block,p.base,none⟩ o H1)])).heap.get i=(hp H0).heap.get i:=fun i hi=>by
  rw[aT gd,aT (Nat.le_of_lt n4),List.getElem?_append_left hi]
 have UC:(hp (H0++[af.res (AtR ⟨p.block,p.base,none⟩ o H1)])).heap.get H0.length=some .dead:=by
  rw[aT gd];simp[vw]
 have lN:Ext (fun o=>aq (ef qQ o)) gF:=fun i r hr=>by
  have hr:aq (ef qQ i)=some r:=hr;rcases Nat.lt_or_ge i H0.length with h1|h1
  ·rw[Cp i h1];rw[GQ i h1] at hr;exact .inl hr
  ·rw[vV (by omega),qW] at hr;cases hr
 refine fj _ _ gF x w' (Un ⟨p.block,p.base,none⟩) ?_ ⟨⟨⟨fun i hi=>?_,fun i r hr=>?_,fun i hi=>?_,fun i i' r r' h1 h2 e=>?_,gd⟩,fun i r hr=>?_,?_⟩,⟨fun i r hr=>?_,fun i hi hg=>absurd hg (cx i hi (by simp)),by show H0.length<=(H0++[_]).length;simp,fun i hi hg=>absurd hg (cx i hi (by simp))⟩,fun i hi _=>?_,?_⟩
 ·have kA:an aq (.ptr q 0) (.pointer (some ⟨p.block,p.base,none⟩)):=by
   simp only[an];exact ⟨_,rfl,by unfold gz;rw[bN];simp⟩
  have only:∀y,an aq (.ptr q 0) y->y=.pointer (some ⟨p.block,p.base,none⟩):=fun y hy=>by
   simp only[an] at hy;obtain ⟨a,rfl,hy⟩:=hy;unfold gz at hy;rw[bN] at hy;rw[hy];simp
  have hz:gF vJ=none:=KG _ (by unfold vJ;omega);cases hu:u with
  | nil=>
    rw[hu] at k2;simp only[Kx] at k2 ⊢;rw[only x k2];exact aM gF _
  | cons y ys=>
    rw[hu] at k2;have hv:=fw.val;rw[hu] at hv;simp only[Kx,an,az] at k2 ⊢;obtain ⟨arr,rfl,z,zs,e,h1,h2⟩:=k2;rw[only z h1] at e;have h3:=yl (l:=y::ys) hv qW hz (by simp only[az];exact h2);simp only[az] at h3;exact ⟨arr,rfl,_,zs,e,rfl,h3⟩
 ·rw[show (hp (H0++[af.res (AtR ⟨p.block,p.base,none⟩ o H1)])).next=H0.length+1 by simp[hp]] at hi;exact KG i (by omega)
 ·obtain ⟨h1,h2⟩:=yz i r hr;obtain ⟨ob,h3,h4⟩:=r0.obj i r (by show aq (ef qQ i)=_;rw[GQ i h1];exact h2);exact ⟨ob,by rw[dd i h1];exact h3,h4.mono lN rfl⟩
 ·rcases Nat.lt_trichotomy i H0.length with h1|rfl|h1
  ·rw[dd i h1];exact r0.gone i (by show aq (ef qQ i)=_;rw[GQ i h1,<-Cp i h1];exact hi)
  ·exact UC
  ·rw[KG i h1] at hi;cases hi
 ·obtain ⟨_,a1⟩:=yz i r h1;obtain ⟨_,a2⟩:=yz i' r' h2;exact k3.rel.inj i i' r r' a1 a2 e
 ·obtain ⟨h1,h2⟩:=yz i r hr;rw[dd i h1];exact r0.live i r (by show aq (ef qQ i)=_;rw[GQ i h1];exact h2)
 ·exact k3.rel.frame.less fun i r hr=>⟨i,r,(yz i r hr).2,rfl⟩
 ·rcases Nat.lt_or_ge i H0.length with h1|h1
  ·rw[Cp i h1];exact k3.step.ext i r hr
  ·rw[hR.jv i h1] at hr;cases hr
 ·simp only[List.length_append,List.length_cons,List.length_nil] at hi;rcases Nat.lt_or_ge i H0.length with h1|h1
  ·rw[Cp i h1];exact k3.pl i (Nat.lt_of_lt_of_le h1 k3.step.le) (by simp)
  ·obtain rfl:i=H0.length:=by omega
   rw[SJ];simp
 ·refine ⟨fun b=>T0 b\/(T1 b\/∃o p,aq (ef ρ o)=some (some p)/\p.block=b),?_,fun b hb=>?_⟩
  ·unfold cC;rw[List.map_append];refine dX.2 ⟨T0,_,s0,⟨_,fun _=>False,⟨fun o=>aq (ef ρ o),⟨p,by show aq (ef ρ o)=_;rw[EJ];exact bN,rfl⟩,dj⟩,fun _ h=>h,fun _ _ h=>h,fun b=>⟨fun h=>.inl h,fun h=>h.elim id False.elim⟩⟩,fun b h0 h1=>?_,fun b=>Iff.rfl⟩;rcases h1 with h1|⟨i,r,hr,rfl⟩
   ·exact sd b h0 h1
   ·exact (t2 _ ((sT _).2 (.inl h0))).2 _ r hr rfl
  ·rcases hb with hb|hb|⟨i,r,hr,rfl⟩
   ·exact ⟨(t2 b ((sT b).2 (.inl hb))).1,fun i r hr=>(t2 b ((sT b).2 (.inl hb))).2 i r (yz i r hr).2⟩
   ·exact ⟨(t2 b ((sT b).2 (.inr hb))).1,fun i r hr=>(t2 b ((sT b).2 (.inr hb))).2 i r (yz i r hr).2⟩
   ·refine ⟨k3.rel.frame.own _ r hr,fun i' r' Oe e=>?_⟩;obtain ⟨a1,a2⟩:=yz i' r' Oe;have:=k3.rel.inj _ _ _ _ a2 hr e;subst this;have m1:=im i r hr;have m2:ef ρ i∈qQ:=by
     rw[<-GQ _ a1,lj (by omega)];exact List.getElem_mem _
    exact d3 _ m2 _ m1 rfl⟩
theorem Iu{L M:List aH}(h:L.Perm M):∀{w:World} {S:Nat->Prop},bw L w S->bw M w S:=by
 induction h with
 | nil=>exact fun h=>h
 | cons x _ ih=>exact fun ⟨S1,S2,h1,h2,h3⟩=>⟨S1,S2,h1,ih h2,h3⟩
 | swap x y l=>exact fun h=>Iv h
 | trans _ _ i1 i2=>exact fun h=>i2 (i1 h)
theorem bc.perm{L M:List aH}(h:L.Perm M):bc L M:=fun _ T ht=>⟨T,fun _ h=>h,Iu h ht⟩
theorem bc.Hl(L:List aH):bc L (aA::L):=fun _ T ht=>⟨T,fun _ h=>h,fun _=>False,T,fun _ h=>h,ht,fun _ h _=>h,fun b=>by simp⟩
theorem bc.cons{L M:List aH}(R:aH)(h:bc L M):bc (R::L) (R::M):=fun w T ⟨S1,S2,h1,h2,hd,hT⟩=>by
 obtain ⟨T',h3,h4⟩:=h w S2 h2;exact ⟨fun b=>S1 b\/T' b,fun b hb=>(hT b).2 (hb.imp id (h3 b)),S1,T',h1,h4,fun b x y=>hd b x (h3 b y),fun b=>Iff.rfl⟩
theorem bc.imp{R R':aH}{L:List aH}(h:∀w S,R.at_ w S->R'.at_ w S):bc (R::L) (R'::L):=fun w T ⟨S1,S2,h1,h2,h3⟩=>⟨T,fun _ h=>h,S1,S2,h w S1 h1,h2,h3⟩
theorem bc.all(L:List aH):bc L []:=fun _ _ _=>⟨fun _=>False,fun _ h=>h.elim,fun _ h=>h⟩
structure fP(H H2:List af):Prop where
 out:∀F γ w,aL F γ (hp H) w->Rs F γ H w->∃gF,aL F gF (hp H2) w/\Rs F gF H2 w/\Step γ (hp H) gF (hp H2)/\∀o,o<H2.length->(o<H.length/\gF o=γ o)\/gF o≠none
theorem Jn:∀{H H2:List af},H.map vw=H2.map vw->hp H=hp H2:=fun {H H2} h=>by
 have:∀(H:List af) (k:Nat) (t:T af),CC k H t=CC k (H.map vw) t:=by
  intro H;induction H with
  | nil=>intro k t;rfl
  | cons a H ih=>
    intro k t;have e:vw (vw a)=vw a:=by cases a<;>rfl
    simp only[List.map_cons,CC,e,ih]
 unfold hp;rw[this H,this H2,h];have:=congrArg List.length h;simp only[List.length_map] at this;rw[this]
theorem fP.same{H H2:List af}(hv:H.map vw=H2.map vw)(he:bc (cC H) (cC H2)):fP H H2:=⟨fun F γ w hR hs=>by
 have hl:H.length=H2.length:=by simpa using congrArg List.length hv
 exact ⟨γ,by rw[<-Jn hv];exact hR,hs.Ai he,by rw[<-Jn hv];exact .refl γ _,fun o ho=>.inl ⟨by omega,rfl⟩⟩⟩
theorem fP.more{H:List af}{R:aH}(hl:Nat.blt H.length aU=true)(he:bc (cC H) (cC H++[R])):fP H (H++[.res R]):=⟨fun F γ w hR hs=>by
 have hl:=gA hl;let gF:aK:=fun i=>if i=H.length then some none else γ i
 have g1:∀i,i≠H.length->gF i=γ i:=fun i h=>if_neg h;have g2:gF H.length=some none:=if_pos rfl;have g3:γ H.length=none:=hR.jv _ (Nat.le_refl _);have gs:∀i p,gF i=some (some p)->γ i=some (some p)/\i<H.length:=fun i p h=>by
  by_cases e:i=H.length
  ·rw[e,g2] at h;cases h
  ·rw[g1 i e] at h;exact ⟨h,hR.iF (by rw[h];simp)⟩
 have lN:Ext γ gF:=fun i p h=>by
  by_cases e:i=H.length
  ·rw[e,g3] at h;cases h
  ·rw[g1 i e];exact .inl h
 have gd:(H++[af.res R]).length<=aU:=by simp;omega
 have dd:∀i,i<H.length->(hp (H++[af.res R])).heap.get i=(hp H).heap.get i:=fun i hi=>by rw[aT gd,aT (Nat.le_of_lt hl),List.getElem?_append_left hi]
 refine ⟨gF,⟨⟨fun i hi=>?_,fun i p h=>?_,fun i h=>?_,fun i j p q h1 h2 e=>hR.inj i j p q (gs i p h1).1 (gs j q h2).1 e,gd⟩,fun i p h=>?_,hR.frame.less fun i p h=>⟨i,p,(gs i p h).1,rfl⟩⟩,?_,⟨lN,fun i hi h=>by rw[g1 i (by have:i<H.length:=hi;omega)];exact h,by show H.length<=(H++[_]).length;simp,fun i hi _=>dd i hi⟩,fun i hi=>?_⟩
 ·have hi:(H++[af.res R]).length<=i:=hi;simp at hi;rw[g1 i (by omega)];exact hR.jv i (by show H.length<=i;omega)
 ·obtain ⟨h1,h2⟩:=gs i p h;obtain ⟨ob,h3,h4⟩:=hR.obj i p h1;exact ⟨ob,by rw[dd i h2];exact h3,h4.mono lN rfl⟩
 ·by_cases e:i=H.length
  ·rw[e,aT gd];simp[vw]
  ·rw[g1 i e] at h;have:=hR.iF (o:=i) (by rw[h];simp);rw[dd i this];exact hR.gone i h
 ·obtain ⟨h1,h2⟩:=gs i p h;rw[dd i h2];exact hR.live i p h1
 ·obtain ⟨T,h1,h2⟩:=hs.out;obtain ⟨T',h3,h4⟩:=he w T h1;exact ⟨T',by unfold cC;rw[List.map_append];exact h4,fun b hb=>⟨(h2 b (h3 b hb)).1,fun i p h=>(h2 b (h3 b hb)).2 i p (gs i p h).1⟩⟩
 ·simp at hi;by_cases e:i=H.length
  ·exact .inr (by rw[e,g2];simp)
  ·exact .inl ⟨by omega,g1 i e⟩⟩
theorem fP.trans{H H2 H3:List af}(h:fP H H2)(k:fP H2 H3):fP H H3:=⟨fun F γ w hR hs=>by
 obtain ⟨gF,a1,a2,a3,a4⟩:=h.out F γ w hR hs;obtain ⟨VP,b1,b2,b3,b4⟩:=k.out F gF w a1 a2;refine ⟨VP,b1,b2,a3.trans b3,fun o ho=>?_⟩;rcases b4 o ho with ⟨h1,h2⟩|h1
 ·rcases a4 o h1 with ⟨h3,h4⟩|h3
  ·exact .inl ⟨h3,h2.trans h4⟩
  ·exact .inr (by rw[h2];exact h3)
 ·exact .inr h1⟩
theorem ag.pre{P:Program}{S:List Nat}{f:Nat}{args:List AV}{H H2:List af}{K:AV->List af->Prop}(h:fP H H2)(c:ag P S f args H2 K):ag P S f args H K:=⟨fun F γ w xs hR cx cJ gw=>by
 obtain ⟨gF,a1,a2,a3,a4⟩:=h.out F γ w hR cJ;obtain ⟨c1,c2⟩:=c.out F gF w xs a1 (fun o ho hS=>by
  rcases a4 o ho with ⟨h1,h2⟩|h1
  ·rw[h2];exact cx o h1 hS
  ·exact h1) a2 (gw.mono a3.ext _ _)
 exact ⟨c1,fun R fj=>c2 R fun v H' aq x w' k1 k2 k3=>fj v H' aq x w' k1 k2 ⟨k3.rel,a3.trans k3.step,k3.pl,k3.rs⟩⟩⟩
theorem aJ.pre{P:Program}{n k:Nat}{c:Code}{t:ax}{H H2:List af}{Q:fp->ax->List af->Prop}(h:fP H H2)(hc:aJ P n k c t H2 Q):aJ P n k c t H Q:=⟨fun F γ w a R hR hT hQ=>by
 obtain ⟨gF,a1,a2,a3,a4⟩:=h.out F γ w hR.rel hR.rs;exact hc.out F gF w a R ⟨a1,fun o ho=>by
  rcases a4 o ho with ⟨h1,h2⟩|h1
  ·rw[h2];exact hR.pl o h1
  ·exact h1,a2⟩ (hT.mono a3.ext) fun e t' H' aq a' w' h1 h2 h3 h4=>hQ e t' H' aq a' w' h1 h2 h3 ((Old.zD a3.ext k).trans h4)⟩
theorem ag.post{P:Program}{f:Nat}{args:List AV}{H:List af}{K K':AV->List af->Prop}(c:ag P [] f args H K)(hk:∀v H1,K v H1->∃H2,fP H1 H2/\K' v H2):ag P [] f args H K':=⟨fun F γ w xs hR cx cJ gw=>by
 obtain ⟨c1,c2⟩:=c.out F γ w xs hR cx cJ gw;refine ⟨c1,fun R fj=>c2 R fun v H' aq x w' k1 k2 k3=>?_⟩;obtain ⟨H2,h,hv⟩:=hk v H' k1;obtain ⟨gF,a1,a2,a3,a4⟩:=h.out F aq w' k3.rel k3.rs;exact fj v H2 gF x w' hv (k2.mono a3.ext _ _) ⟨a1,k3.step.trans a3,fun o ho hS=>by
  rcases a4 o ho with ⟨h1,h2⟩|h1
  ·rw[h2];exact k3.pl o h1 hS
  ·exact h1,a2⟩⟩
section
variable{P:Program}{E:Env}(hE:ch P E){S:List Nat}{t:ax}{H:List af}{K:AV->List af->Prop}
include hE
theorem ai.bJ{ty elem:TypeId}{r er:cZ}{x i:Operand}{a:Addr}{n k:Nat}{c:Nat}(hr:E.ty ty=some r)(hu:r.bg=.slice elem)(he:E.ty elem=some er)(hx:aE t x=some (.lit (.slice (some a) n c)))(hi:aE t i=some (.lit (.int .i64 (k:Int))))(hk:k<n)(h:K (.lit (.pointer (some (a.add (k * er.info.size))))) H):ai E P true S t H (.indexAddr ty x i) K:=
 ⟨.inr ⟨rfl,⟨fun F γ w ρ hR cx cJ bD o ho=>by
  have h1:=bD x _ (by simp[Op.operands]) hx;have h2:=bD i _ (by simp[Op.operands]) hi;rw[al] at h1 h2;refine ⟨_,H,γ,.value (.pointer (some (a.add (k * er.info.size)))),w,?_,.inl ⟨_,rfl,aM γ _⟩,h,hR,.refl γ _,cx,cJ⟩;obtain ⟨dst,op,type,pos,after,guard⟩:=o;simp only[] at ho;subst ho;simp only[execOp];refine dh ?_;rw[h1,h2];unfold Instr.indexAt;have im:(0<=(k:Int)/\(k:Int)<(n:Int)):=⟨by omega,by omega⟩;simp only[asIntOf,Instr.sureAddr,Sem.run_bind,ba hE hr w,Result.andThen_ok,hu,Sem.run_pure,im,and_self,if_true,bT hE he w,Int.toNat_natCast]⟩⟩⟩
theorem ai.jW{ty:TypeId}{r fr:cZ}{fs:Array Field}{fd:Field}{x:Operand}{a:Addr}{f:Nat}(hr:E.ty ty=some r)(hu:r.bg=.struct fs)(hf:fs[f]?=some fd)(EI:E.ty fd.type=some fr)(hz:Nat.beq fr.info.size 0=false)(hx:aE t x=some (.lit (.pointer (some a))))(h:K (.lit (.pointer (some (a.add fd.offset)))) H):ai E P true S t H (.fieldAddr ty x f) K:=
 ⟨.inr ⟨rfl,⟨fun F γ w ρ hR cx cJ bD o ho=>by
  have h1:=bD x _ (by simp[Op.operands]) hx;rw[al] at h1;refine ⟨_,H,γ,.value (.pointer (some (a.add fd.offset))),w,?_,.inl ⟨_,rfl,aM γ _⟩,h,hR,.refl γ _,cx,cJ⟩;obtain ⟨dst,op,type,pos,after,guard⟩:=o;simp only[] at ho;subst ho;have hz:=Nat.ne_of_beq_eq_false hz;simp only[execOp];refine dh ?_;rw[h1];unfold Instr.fieldAt fieldPlace;simp only[Sem.run_bind,ba hE hr w,Result.andThen_ok,hu,hf,Instr.sureAddr,Sem.run_pure,bT hE EI w,if_neg hz]⟩⟩⟩
omit hE in
theorem ai.aR{ty:TypeId}{ad:Operand}{a:Addr}{i:Nat}{R:aH}{x:Value}{v:AV}(hi:H[i]?=some (.res R))(hl:∀w S,R.at_ w S->(loadVar ty a).run P w=.ok x w)(hx:aE t ad=some (.lit (.pointer (some a))))(hv:v.flat=some x)(h:K v H):ai E P true S t H (.load ty ad) K:=
 ⟨.inr ⟨rfl,⟨fun F γ w ρ hR cx cJ bD o' ho=>by
  have h1:=bD ad _ (by simp[Op.operands]) hx;rw[al] at h1;obtain ⟨T,hT,_⟩:=cJ.out;have AW:(cC H)[i]?=some R:=by unfold cC;rw[List.getElem?_map,hi];rfl
  obtain ⟨S1,S2,b1,_,_,_⟩:=db hT AW;refine ⟨v,H,γ,.value x,w,?_,.inl ⟨x,rfl,kx v x hv⟩,h,hR,.refl γ _,cx,cJ⟩;obtain ⟨dst,op,type,pos,after,guard⟩:=o';simp only[] at ho;subst ho;simp only[execOp];refine dh ?_;rw[h1];simp only[Instr.loadAt,Instr.sureAddr,Sem.run_bind,Sem.run_pure,Result.andThen_ok,hl w S1 b1]⟩⟩⟩
end
def kn{α:Type}(P:Program)(R:aH)(ty:TypeId)(size:Nat)(a:Addr)(enc:α->Value)(l:List α):Prop:=∀w S,R.at_ w S->∀k (h:k<l.length),(loadVar ty (a.add (k * size))).run P w=.ok (enc l[k]) w
def eG{α:Type}(P:Program)(R:aH)(ty:TypeId)(size:Nat)(oa:Option Addr)(enc:α->Value)(l:List α):Prop:=l≠[]->∃a,oa=some a/\kn P R ty size a enc l
theorem eG.at{α:Type}{P:Program}{R:aH}{ty:TypeId}{size:Nat}{oa:Option Addr}{enc:α->Value}{l:List α}(h:eG P R ty size oa enc l){k:Nat}(hk:k<l.length):∃a,oa=some a/\kn P R ty size a enc l:=h (by rintro rfl;simp at hk)
theorem bL.sub{P:Program}{n k m:Nat}{b:Code}{t:ax}{H:List af}{Q:fp->ax->List af->Prop}(ρ:List Nat){l:List (Nat×AV)}{H0:List af}(hs:Sub k ρ t H l H0)(h:bL P n k m b (tp l) H0 Q):bL P n k m b t H Q:=
 ⟨fun F γ w a R hR hT hQ=>h.out F _ w a R (hs.rl hR) (hs.ct hT) fun e t' H' aq a' w' h1 h2 h3 h4=>hQ e t' H' aq a' w' h1 h2 h3 ((hs.fV γ).trans h4)⟩
theorem bc.BR(L:List aH):bc L (L++[aA]):=(bc.Hl L).trans (bc.perm (by simpa using (List.perm_append_comm (l₁:=[aA]) (l₂:=L))))
def dx(L:List aH):List (Option Nat)->List aH
 | []=>[]
 | none::σ=>aA::dx L σ
 | some i::σ=>L.getD i aA::dx L σ
def vy:List (Option Nat)->List Nat
 | []=>[]
 | none::σ=>vy σ
 | some i::σ=>i::vy σ
theorem vg{L:List aH}{i:Nat}:∀{σ:List (Option Nat)},i∉vy σ->dx (L.set i aA) σ=dx L σ
 | [],_=>rfl
 | none::σ,h=>by simp only[dx,vg (σ:=σ) h]
 | some j::σ,h=>by
   simp only[vy,List.mem_cons,not_or] at h;simp only[dx,vg h.2];congr 1;simp only[List.getD_eq_getElem?_getD,List.getElem?_set];rw[if_neg h.1]
theorem bc.dx:∀(L:List aH) (σ:List (Option Nat)),eg (vy σ)=true->bc L (dx L σ)
 | L,[],_=>bc.all L
 | L,none::σ,h=>(bc.dx L σ h).trans (bc.Hl _)
 | L,some i::σ,h=>fun w T ht=>by
   have hn:=List.nodup_cons.1 (jj h);have h2:eg (vy σ)=true:=by
    simp only[vy,eg,Bool.and_eq_true] at h;exact h.2
   cases hi:L[i]? with
   | none=>
     simp only[Ev.dx,List.getD_eq_getElem?_getD,hi,Option.getD_none];exact ((bc.dx L σ h2).trans (bc.Hl _)) w T ht
   | some r=>
     obtain ⟨S1,S2,h3,h4,h5,h6⟩:=db ht hi;obtain ⟨T',k1,k2⟩:=bc.dx (L.set i aA) σ h2 w S2 h4;rw[vg hn.1] at k2;simp only[Ev.dx,List.getD_eq_getElem?_getD,hi,Option.getD_some];exact ⟨fun b=>S1 b\/T' b,fun b hb=>(h6 b).2 (hb.imp id (k1 b)),S1,T',h3,k2,fun b x y=>h5 b x (k1 b y),fun b=>Iff.rfl⟩
end Go.Proofs.YtmbdghclhpboaaaGreat.Ev

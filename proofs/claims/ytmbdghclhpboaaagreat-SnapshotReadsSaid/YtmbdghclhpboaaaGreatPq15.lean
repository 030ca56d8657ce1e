/- Part of the proof: SyH SyI SyJ. Conditions: as each states. -/
import Derived.Test.YtmbdghclhpboaaaGreatPq14
set_option linter.all false
namespace Go.Proofs.YtmbdghclhpboaaaGreat.Ev
mutual
def qB(g:Nat->Nat):AV->(AV->Prop)->Prop
 | .lit v,K=>K (.lit v)
 | .ptr o off,K=>oX (g o) fun o=>K (.ptr o off)
 | .slice o off len cap,K=>oX (g o) fun o=>K (.slice o off len cap)
 | .map o,K=>oX (g o) fun o=>K (.map o)
 | .func fn a b,K=>tL g a fun a=>tL g b fun b=>K (.func fn a b)
 | .iface t v,K=>qB g v fun v=>K (.iface t v)
 | .agg l,K=>tL g l fun l=>K (.agg l)
 | .tuple l,K=>tL g l fun l=>K (.tuple l)
def tL(g:Nat->Nat):List AV->(List AV->Prop)->Prop
 | [],K=>K []
 | v::l,K=>qB g v fun v=>tL g l fun l=>K (v::l)
end
mutual
theorem xF(g:Nat->Nat):∀(v:AV) (K:AV->Prop),qB g v K=K (v.cI g)
 | .lit v,K=>rfl
 | .ptr o off,K=>by simp only[qB,jh,AV.cI]
 | .slice o off len cap,K=>by simp only[qB,jh,AV.cI]
 | .map o,K=>by simp only[qB,jh,AV.cI]
 | .func fn a b,K=>by simp only[qB,oE g a,oE g b,AV.cI]
 | .iface t v,K=>by simp only[qB,xF g v,AV.cI]
 | .agg l,K=>by simp only[qB,oE g l,AV.cI]
 | .tuple l,K=>by simp only[qB,oE g l,AV.cI]
theorem oE(g:Nat->Nat):∀(l:List AV) (K:List AV->Prop),tL g l K=K (AV.eN g l)
 | [],K=>rfl
 | v::l,K=>by simp only[tL,xF g v,oE g l,AV.eN]
end
def AE(g:Nat->Nat):List (AV×AV×Nat)->(List (AV×AV×Nat)->Prop)->Prop
 | [],K=>K []
 | (k,v,b)::l,K=>qB g k fun k=>qB g v fun v=>AE g l fun l=>K ((k,v,b)::l)
theorem CI(g:Nat->Nat):∀(l:List (AV×AV×Nat)) (K:List (AV×AV×Nat)->Prop),AE g l K=K (pY g l)
 | [],K=>rfl
 | (k,v,b)::l,K=>by simp only[AE,xF,CI g l,pY]
def TN(g:Nat->Nat):ai->(ai->Prop)->Prop
 | .cells l e,K=>tL g l fun l=>K (.cells l e)
 | .map es c,K=>AE g es fun es=>K (.map es c)
 | .iter m a b c,K=>oX (g m) fun m=>K (.iter m a b c)
 | ob,K=>K ob
theorem Mu(g:Nat->Nat)(ob:ai)(K:ai->Prop):TN g ob K=K (ob.cI g):=by
 cases ob<;>first|rfl|simp only[TN,ai.cI,oE,CI,jh]
mutual
def AV.vg(p:Nat->Bool):AV->Bool
 | .lit _=>true
 | .ptr o _=>p o
 | .slice o _ _ _=>p o
 | .map o=>p o
 | .func _ a b=>AV.zh p a&&AV.zh p b
 | .iface _ v=>AV.vg p v
 | .agg l=>AV.zh p l
 | .tuple l=>AV.zh p l
def AV.zh(p:Nat->Bool):List AV->Bool
 | []=>true
 | v::l=>AV.vg p v&&AV.zh p l
end
def Fy(p:Nat->Bool):List (AV×AV×Nat)->Bool
 | []=>true
 | (k,v,_)::l=>k.vg p&&v.vg p&&Fy p l
def ai.vg(p:Nat->Bool):ai->Bool
 | .cells l _=>AV.zh p l
 | .map es _=>Fy p es
 | .iter m _ _ _=>p m
 | _=>true
section
variable{p:Nat->Bool}{g h:Nat->Nat}(bX:∀o,p o=true->h (g o)=o)
include bX
mutual
theorem sG:∀(v:AV),v.vg p=true->(v.cI g).cI h=v
 | .lit v,_=>rfl
 | .ptr o off,k=>by simp only[AV.cI,bX o k]
 | .slice o off len cap,k=>by simp only[AV.cI,bX o k]
 | .map o,k=>by simp only[AV.cI,bX o k]
 | .func fn a b,k=>by
   simp only[AV.vg,Bool.and_eq_true] at k;simp only[AV.cI,oB a k.1,oB b k.2]
 | .iface t v,k=>by simp only[AV.cI,sG v k]
 | .agg l,k=>by simp only[AV.cI,oB l k]
 | .tuple l,k=>by simp only[AV.cI,oB l k]
theorem oB:∀(l:List AV),AV.zh p l=true->AV.eN h (AV.eN g l)=l
 | [],_=>rfl
 | v::l,k=>by
   simp only[AV.zh,Bool.and_eq_true] at k;simp only[AV.eN,sG v k.1,oB l k.2]
end
theorem Bn:∀(l:List (AV×AV×Nat)),Fy p l=true->pY h (pY g l)=l
 | [],_=>rfl
 | (a,b,_)::l,k=>by
   simp only[Fy,Bool.and_eq_true] at k;simp only[pY,sG bX a k.1.1,sG bX b k.1.2,Bn l k.2]
theorem Nr(ob:ai)(k:ob.vg p=true):(ob.cI g).cI h=ob:=by
 cases ob<;>first|rfl|(simp only[ai.vg] at k;simp only[ai.cI,oB bX _ k])|(simp only[ai.vg] at k;simp only[ai.cI,Bn bX _ k])|(simp only[ai.vg] at k;simp only[ai.cI,bX _ k])
end
def gU(ρ ks:List Nat)(n i:Nat):Nat:=match ρ[i]? with
 | some o=>o
 | none=>match idxOf i ks 0 with
   | some q=>n+q
   | none=>wJ
def Mr(g:Nat->Nat)(p:Nat->Bool)(gv:List ai):List Nat->(List ai->Prop)->Prop
 | [],K=>K []
 | j::ks,K=>match gv[j]? with
   | some iM=>match iM.vg p with
     | true=>TN g iM fun dq=>Mr g p gv ks fun l=>K (dq::l)
     | false=>False
   | none=>False
def Ba(g:Nat->Nat)(p:Nat->Bool)(ρ ks:List Nat)(gv:List ai):Nat->List ai->(List ai->Prop)->Prop
 | _,[],K=>Mr g p gv ks K
 | o,ob::H,K=>match idxOf o ρ 0 with
   | some i=>match gv[i]? with
     | some iM=>match iM.vg p with
       | true=>TN g iM fun dq=>Ba g p ρ ks gv (o+1) H fun H'=>K (dq::H')
       | false=>False
     | none=>False
   | none=>Ba g p ρ ks gv (o+1) H fun H'=>K (ob::H')
def pU(ρ ks:List Nat)(n o:Nat):Bool:=Nat.beq (FI n ρ ks (gU ρ ks n o)) o
def Dg(ρ ks:List Nat)(H gv:List ai)(v0:AV)(K:AV->List ai->Prop):Prop:=
 oX (qT H 0) fun n=>match eG ks&&ks.all (fun j=>Nat.ble ρ.length j)&&Nat.ble (n+ks.length) aY&&v0.vg (pU ρ ks n) with
  | true=>qB (gU ρ ks n) v0 fun v=>Ba (gU ρ ks n) (pU ρ ks n) ρ ks gv 0 H fun H'=>K v H'
  | false=>False
theorem I2{p:Nat->Bool}{g h:Nat->Nat}(bX:∀o,p o=true->h (g o)=o){ob:ai}(k:ob.vg p=true):pL ob ((ob.cI g).cI h):=by
 rw[Nr bX ob k];exact vK ob
section
variable{g h:Nat->Nat}{p:Nat->Bool}{gv:List ai}(bX:∀o,p o=true->h (g o)=o)
include bX
theorem IY{ρ:List Nat}:∀{ks:List Nat} {o:Nat} {K:List ai->Prop},Mr g p gv ks K->∃l,qL h ρ gv o [] l ks/\K l
 | [],o,K,k=>⟨[],tU,k⟩
 | j::ks,o,K,k=>by
   simp only[Mr] at k;split at k
   ·rename_i iM ho;split at k
    ·rename_i hc;rw[Mu] at k;obtain ⟨l,h1,h2⟩:=IY (ρ:=ρ) (o:=o+1) k;exact ⟨iM.cI g::l,⟨⟨iM,ho,I2 bX hc⟩,h1⟩,h2⟩
    ·exact k.elim
   ·exact k.elim
theorem ye{ρ ks:List Nat}:∀{H:List ai} {o:Nat} {K:List ai->Prop},Ba g p ρ ks gv o H K->∃l,qL h ρ gv o H l ks/\K l
 | [],o,K,k=>IY bX k
 | ob::H,o,K,k=>by
   simp only[Ba] at k;split at k
   ·rename_i i hi;split at k
    ·rename_i iM ho;split at k
     ·rename_i hc;rw[Mu] at k;obtain ⟨l,h1,h2⟩:=ye k;refine ⟨iM.cI g::l,⟨?_,h1⟩,h2⟩;rw[hi];exact ⟨iM,ho,I2 bX hc⟩
     ·exact k.elim
    ·exact k.elim
   ·rename_i hi;obtain ⟨l,h1,h2⟩:=ye k;refine ⟨ob::l,⟨?_,h1⟩,h2⟩;rw[hi];exact vK ob
end
theorem aj.use{P:Program}{S:List Nat}{f:Nat}{args0 args:List AV}{H0 H:List ai}{K0 K:AV->List ai->Prop}(c:oJ P f args0 H0 K0)(ρ:List Nat)(iD:args=AV.eN (eB ρ) args0)(lV:(eG ρ&&Nat.ble H0.length aY&&ρ.all (fun i=>!nZ S i))=true)(pT:nT (eB ρ) H ρ H0)
  (hK:∀v0 gv,K0 v0 gv->∃ks,Dg ρ ks H gv v0 K):aj P S f args H K:=by
 refine c.sub ρ iD lV pT fun v0 gv h0=>?_;obtain ⟨ks,h1⟩:=hK v0 gv h0;unfold Dg at h1;rw[jh,lQ,Nat.zero_add] at h1;split at h1
 ·rename_i hc;simp only[Bool.and_eq_true] at hc;obtain ⟨⟨⟨c1,c2⟩,c3⟩,c4⟩:=hc;have Z3:∀o,pU ρ ks H.length o=true->FI H.length ρ ks (gU ρ ks H.length o)=o:=fun o ho=>nQ1 ho;rw[xF] at h1;obtain ⟨l,b1,b2⟩:=ye Z3 h1;have hl:=qP b1;refine ⟨_,l,ks,⟨?_,(sG Z3 v0 c4).symm,b1⟩,b2⟩;rw[hl];simp only[Bool.and_eq_true];exact ⟨⟨c1,c2⟩,c3⟩
 ·exact h1.elim
structure ng(γ:aT)(H:List ai)(w:World)(S:Nat->Prop):Prop where
 rel:Rel γ (hp H) w
 live:∀o p,γ o=some (some p)->(hp H).heap.get o≠some .dead
 pl:∀o,o<H.length->γ o≠none
 res:∃T,bD (cz H) w T/\(∀b,T b->∀o p,γ o=some (some p)->p.block≠b)/\∀b,S b↔(T b\/∃o p,γ o=some (some p)/\p.block=b)
theorem ng.lt{γ:aT}{H:List ai}{w:World}{S:Nat->Prop}(h:ng γ H w S){b:Nat}(hb:S b):b<w.heap.size:=by
 obtain ⟨T,h1,_,h3⟩:=h.res;rcases (h3 b).1 hb with h4|⟨o,p,h4,rfl⟩
 ·exact jq h1 h4
 ·obtain ⟨ob,k1,k2⟩:=h.rel.obj o p h4;exact k2.lt fun e=>h.live o p h4 (by rw[k1,e])
theorem ng.mu{γ:aT}{H:List ai}{w w':World}{S:Nat->Prop}(h:ng γ H w S)(hk:∀b,S b->w'.heap[b]?=w.heap[b]?):ng γ H w' S:=by
 obtain ⟨T,h1,h2,h3⟩:=h.res;refine ⟨⟨h.rel.j6,fun o p hp=>?_,h.rel.gone,h.rel.inj,h.rel.aY⟩,h.live,h.pl,T,iV h1 fun b hb=>hk b ((h3 b).2 (.inl hb)),h2,h3⟩;obtain ⟨ob,k1,k2⟩:=h.rel.obj o p hp;exact ⟨ob,k1,k2.mono (.refl γ) (hk _ ((h3 _).2 (.inr ⟨o,p,hp,rfl⟩)))⟩
def at0(γ:aT)(o:Nat)(a:Addr):Prop:=∃p,γ o=some (some p)/\a=⟨p.block,p.base,none⟩
def AtR(a:Addr)(o:Nat)(H:List ai):aC:=
 ⟨fun w S=>∃γ,at0 γ o a/\ng γ H w S,fun ⟨_,_,h⟩ hb=>h.lt hb,fun ⟨γ,h1,h⟩ hk=>⟨γ,h1,h.mu hk⟩⟩
def ny:ai->ai
 | .res _=>.dead
 | ob=>ob
theorem GU(ob:ai):vw (ny ob)=vw ob:=by cases ob<;>rfl
theorem I3:∀(H:List ai) (k:Nat) (t:T ai),DJ k (H.map ny) t=DJ k H t
 | [],_,_=>rfl
 | a::H,k,t=>by simp only[List.map_cons,DJ,GU,I3 H]
theorem ur(H:List ai):hp (H.map ny)=hp H:=by unfold hp;rw[I3,List.length_map]
def FB(H:List ai)(o:Nat):Bool:=match H[o]? with
 | some .dead=>true
 | some (.res _)=>true
 | none=>true
 | _=>false
theorem HT{H:List ai}{o:Nat}(h:FB H o=false):∃ob,H[o]?=some ob/\vw ob≠.dead:=by
 unfold FB at h;split at h<;>first|cases h|skip
 rename_i x _ _ _;cases hx:H[o]? with
 | none=>simp_all
 | some ob=>
   refine ⟨ob,rfl,?_⟩;cases ob<;>simp_all [vw]
structure DP(ρ:List Nat)(o:Nat)(H' H1:List ai)(v:AV):Prop where
 Ht:(eG ρ&&Nat.ble H1.length aY&&!FB H' o)=true
 fix:ρ[o]?=some o
 u3:nT (eB ρ) (H'.map ny) ρ (H1.map ny)
 Bs:bj (cz H') (cz H1)
 val:∀g,v.cI g=v
theorem Kl{v:AV}(hv:∀g,v.cI g=v){γ ay:aT}{c c':Nat}(h:γ c=none)(h':ay c'=none){x:Value}(k:aw γ v x):aw ay v x:=by
 have e1:=fm (γ:=γ) (g:=fun _=>c) v x;have e2:=fm (γ:=ay) (g:=fun _=>c') v x;rw[hv] at e1 e2;rw[h] at e1;rw[h'] at e2;exact e2.2 (e1.1 k)
theorem zj{l:List AV}(hv:∀g,AV.eN g l=l){γ ay:aT}{c c':Nat}(h:γ c=none)(h':ay c'=none){xs:List Value}(k:aG γ l xs):aG ay l xs:=by
 have e1:=fp (γ:=γ) (g:=fun _=>c) l xs;have e2:=fp (γ:=ay) (g:=fun _=>c') l xs;rw[hv] at e1 e2;rw[h] at e1;rw[h'] at e2;exact e2.2 (e1.1 k)
theorem ng.rl{F:dN}{γ γ0:aT}{σ:AS}{H0:List ai}{w:World}{S:Nat->Prop}(h:ng γ0 H0 w S)(hF:Frame F γ w)(hS:∀b,S b->¬F.fz b):aU F γ0 (hp H0) w/\Rs F γ0 H0 w:=by
 obtain ⟨T,h1,h2,h3⟩:=h.res;exact ⟨⟨h.rel,h.live,hF.os,hF.tape,hF.output,hF.size,hF.gE,hF.block,fun o p hp=>hS _ ((h3 _).2 (.inr ⟨o,p,hp,rfl⟩))⟩,T,h1,fun b hb=>⟨hS b ((h3 b).2 (.inl hb)),h2 b hb⟩⟩
theorem KB{F:dN}{γ:aT}{H H1:List ai}{w:World}{ρ:List Nat}(hR:aU F γ (hp H) w)(hs:Rs F γ H w)(cE:∀o,o<H.length->γ o≠none)(hn:eG ρ=true)(hl:Nat.ble H1.length aY=true)(ho:nT (eB ρ) (H.map ny) ρ (H1.map ny))(he:bj (cz H) (cz H1)) :
  ∃S,ng (fun o=>γ (eB ρ o)) H1 w S/\∀b,S b->¬F.fz b:=by
 have h1:aU F (fun o=>γ (eB ρ o)) (hp H1) w:=by
  rw[<-ur H1];exact aU.sub (by rw[ur];exact hR) ho hn (by rw[List.length_map];exact hl)
 have hlen:=oI ho;rw[List.length_map] at hlen;obtain ⟨T,k1,k2⟩:=(hs.Bs he).out;refine ⟨fun b=>T b\/∃o p,γ (eB ρ o)=some (some p)/\p.block=b,⟨h1.toRel,h1.live,fun o an=>?_,T,k1,fun b hb o p hp=>(k2 b hb).2 _ p hp,fun b=>Iff.rfl⟩,fun b hb=>?_⟩
 ·obtain ⟨j,dq,e1,e2,_⟩:=oH ho o _ (List.getElem?_eq_getElem (by rw[List.length_map];exact an));rw[List.getElem?_eq_getElem (by omega)] at e1;cases e1
  rw[lT (show o<ρ.length by omega)];have:=(lE1.1 e2).1;rw[List.length_map] at this;exact cE _ this
 ·rcases hb with hb|⟨o,p,hp,rfl⟩
  ·exact (k2 b hb).1
  ·exact h1.frame.own o p hp
theorem aj.DG{P:Program}{f:Nat}{a:Addr}{o:Nat}{rest:List AV}{H0:List ai}{K' K:AV->List ai->Prop}(c:oJ P f (.ptr o 0::rest) H0 K')(ra:∀g,AV.eN g rest=rest)
  (hk:∀v H',K' v H'->∃ρ H1,DP ρ o H' H1 v/\K v [.res (AtR a o H1)]):oJ P f (.lit (.pointer (some a))::rest) [.res (AtR a o H0)] K:=⟨fun F γ w xs hR cE cK gV=>by
 obtain ⟨T,⟨S1,S2,⟨γ0,⟨p0,ZY,ha⟩,dO⟩,sg,_,hT⟩,mK⟩:=cK.out;have hS:∀b,S1 b->¬F.fz b:=fun b hb=>(mK b ((hT b).2 (.inl hb))).1;obtain ⟨Dt,IJ⟩:=dO.rl (σ:=hp H0) hR.frame hS;have rV:=mF hR;have FL:=mF Dt;have Qs:aG γ0 (.ptr o 0::rest) xs.toList:=by
  simp only[aG] at gV ⊢;obtain ⟨x,ys,e,h1,h2⟩:=gV;refine ⟨x,ys,e,?_,zj ra rV FL h2⟩;rw[au] at h1;subst h1;simp only[aw];exact ⟨a,rfl,by unfold gY;rw[ZY,ha];simp⟩
 obtain ⟨c1,c2⟩:=c.out F γ0 w xs Dt (fun o ho _=>dO.pl o ho) IJ Qs;refine ⟨c1,fun R fx=>c2 R fun v H' ay x w' k1 k2 k3=>?_⟩;obtain ⟨ρ,H1,eR,WY⟩:=hk v H' k1;have lV:=eR.Ht;simp only[Bool.and_eq_true,Bool.not_eq_true'] at lV;obtain ⟨S',b1,b2⟩:=KB k3.rel k3.rs (fun o ho=>k3.pl o ho (by simp)) lV.1.1 lV.1.2 eR.u3 eR.Bs;have kg:eB ρ o=o:=by
  unfold eB List.getD;rw[eR.fix];rfl
 have DA:ay o=some (some p0):=by
  rcases k3.step.ext o _ ZY with h|h
  ·exact h
  ·exfalso;have e:=k3.rel.gone o h;obtain ⟨ob,e1,e2⟩:=HT lV.2;rw[aZ k3.rel.aY,e1] at e;exact e2 (Option.some.inj e)
 have FX:∀o p,γ o≠some (some p):=fun o p hp=>by
  have h1:=hR.ji (o:=o) (by rw[hp];simp);have h2:o<1:=h1;obtain rfl:o=0:=by omega
  exact hR.live 0 p hp (by rw[aZ (by show 1<=aY;unfold aY;omega)];rfl)
 refine fx v [.res (AtR a o H1)] γ x w' WY (Kl eR.val (mF k3.rel) rV k2) ⟨⟨⟨hR.j6,fun o p hp=>absurd hp (FX o p),fun o ho=>?_,hR.inj,hR.aY⟩,fun o p hp=>absurd hp (FX o p),?_⟩,⟨.refl γ,fun o _ h=>h,Nat.le_refl _,fun o ho h=>?_⟩,fun q hq hS=>cE q hq hS,⟨S',⟨S',fun _=>False,⟨fun o=>ay (eB ρ o),⟨p0,by show ay (eB ρ o)=_;rw[kg];exact DA,ha⟩,b1⟩,fun _ h=>h,fun _ _ h=>h,fun b=>by simp⟩,fun b hb=>⟨b2 b hb,fun o p hp=>absurd hp (FX o p)⟩⟩⟩
 ·have h1:=hR.ji (o:=o) (by rw[ho];simp);have h2:o<1:=h1;obtain rfl:o=0:=by omega
  rw[aZ (by show 1<=aY;unfold aY;omega)];rfl
 ·exact k3.rel.frame.less fun o p hp=>absurd hp (FX o p)
 ·have h2:o<1:=ho;obtain rfl:o=0:=by omega
  rw[aZ (by show 1<=aY;unfold aY;omega),aZ (by show 1<=aY;unfold aY;omega)];rfl⟩
structure V2(rQ ρ:List Nat)(q o:Nat)(H' H0 H1:List ai)(u:List AV):Prop where
 Ht:(eG (rQ++ρ)&&Eb H0.length rQ 0&&Nat.beq rQ.length H0.length&&Nat.blt H0.length aY&&Nat.ble H1.length aY&&!FB H' q)=true
 fix:ρ[o]?=some q
 gE:nT (eB rQ) (H'.map ny) rQ (H0.map ny)
 u3:nT (eB ρ) (H'.map ny) ρ (H1.map ny)
 Bs:bj (cz H') (cz H0++cz H1)
 val:∀g,AV.eN g u=u
def L4(x:AV):List AV->AV
 | []=>x
 | u=>.tuple (x::u)
theorem aj.lower{P:Program}{f:Nat}{args:List AV}{H0:List ai}{K' K:AV->List ai->Prop}(c:oJ P f args H0 K')
  (hk:∀v H',K' v H'->∃rQ ρ q o H1 u,V2 rQ ρ q o H' H0 H1 u/\v=L4 (.ptr q 0) u/\∀a,K (L4 (.lit (.pointer (some a))) u) (H0++[.res (AtR a o H1)])):oJ P f args H0 K:=⟨fun F γ w xs hR cE cK gV=>by
 obtain ⟨c1,c2⟩:=c.out F γ w xs hR cE cK gV;refine ⟨c1,fun R fx=>c2 R fun v H' ay x w' k1 k2 k3=>?_⟩;obtain ⟨rQ,ρ,q,o,H1,u,eR,rfl,WY⟩:=hk v H' k1;have lV:=eR.Ht;simp only[Bool.and_eq_true,Bool.not_eq_true'] at lV;obtain ⟨⟨⟨⟨⟨n1,n2⟩,n3⟩,n4⟩,n5⟩,n6⟩:=lV;have n3:=nQ1 n3;have n4:H0.length<aY:=nB1 n4;have nN:=jT n1;rw[List.nodup_append] at nN;obtain ⟨d1,d2,d3⟩:=nN;have rV:=mF k3.rel;have kg:eB ρ o=q:=by
  unfold eB List.getD;rw[eR.fix];rfl
 obtain ⟨ob,e1,e2⟩:=HT n6;have hlq:=(lE1.1 e1).1;have hpq:∃p,ay q=some (some p):=by
  cases hg:ay q with
  | none=>exact absurd hg (k3.pl q hlq (by simp))
  | some p=>
    cases p with
    | some p=>exact ⟨p,rfl⟩
    | none=>
      exfalso;have e:=k3.rel.gone q hg;rw[aZ k3.rel.aY,e1] at e;exact e2 (Option.some.inj e)
 obtain ⟨p,bX⟩:=hpq;have Tt:eG rQ=true/\eG ρ=true:=by
  have conv:∀{l:List Nat},l.Nodup->eG l=true:=by
   intro l;induction l with
   | nil=>intro _;rfl
   | cons x l ih=>
     intro h;obtain ⟨h1,h2⟩:=List.nodup_cons.1 h;simp only[eG,ih h2,Bool.and_true,List.all_eq_true];intro j hj;cases hb:Nat.beq x j with
     | false=>rfl
     | true=>exact absurd (by rw[nQ1 hb];exact hj) h1
  exact ⟨conv d1,conv d2⟩
 have r0:aU F (fun o=>ay (eB rQ o)) (hp H0) w':=by
  rw[<-ur H0];exact aU.sub (by rw[ur];exact k3.rel) eR.gE Tt.1 (by rw[List.length_map];exact Nat.ble_eq_true_of_le (Nat.le_of_lt n4))
 have r1:aU F (fun o=>ay (eB ρ o)) (hp H1) w':=by
  rw[<-ur H1];exact aU.sub (by rw[ur];exact k3.rel) eR.u3 Tt.2 (by rw[List.length_map];exact n5)
 have hlen:=oI eR.u3;rw[List.length_map] at hlen;obtain ⟨T,t1,t2⟩:=(k3.rs.Bs (H':=H0++H1) (by unfold cz at *;rw[List.map_append];exact eR.Bs)).out;unfold cz at t1;rw[List.map_append] at t1;obtain ⟨T0,T1,s0,s1,sd,sT⟩:=dK.1 t1;have dO:ng (fun o=>ay (eB ρ o)) H1 w' (fun b=>T1 b\/∃o p,ay (eB ρ o)=some (some p)/\p.block=b):=by
  refine ⟨r1.toRel,r1.live,fun o an=>?_,T1,s1,fun b hb o p hp=>(t2 b ((sT b).2 (.inr hb))).2 _ p hp,fun b=>Iff.rfl⟩;obtain ⟨j,dq,e1,e2,_⟩:=oH eR.u3 o _ (List.getElem?_eq_getElem (by rw[List.length_map];exact an));rw[List.getElem?_eq_getElem (by omega)] at e1;cases e1
  simp only[lT (show o<ρ.length by omega)];have:=(lE1.1 e2).1;rw[List.length_map] at this;exact k3.pl _ this (by simp)
 have IB:∀i,i<H0.length->eB rQ i=i:=fun i hi=>by
  have:=BC n2 i hi;unfold eB List.getD;rw[this];simp
 have iX:∀i p,ay (eB ρ i)=some (some p)->eB ρ i∈ρ:=fun i p hp=>by
  rcases Nat.lt_or_ge i ρ.length with h|h
  ·rw[lT h];exact List.getElem_mem h
  ·rw[wW h,rV] at hp;cases hp
 let hY:aT:=fun i=>if i<H0.length then ay i else if i=H0.length then some none else none
 have Dz:∀i,i<H0.length->hY i=ay i:=fun i hi=>by show (if i<H0.length then _ else _)=_;rw[if_pos hi]
 have Vs:hY H0.length=some none:=by show (if H0.length<H0.length then _ else _)=_;rw[if_neg (by omega),if_pos rfl]
 have Me:∀i,H0.length<i->hY i=none:=fun i hi=>by show (if i<H0.length then _ else _)=_;rw[if_neg (by omega),if_neg (by omega)]
 have zz:∀i p,hY i=some (some p)->i<H0.length/\ay i=some (some p):=fun i p h=>by
  rcases Nat.lt_trichotomy i H0.length with h1|rfl|h1
  ·exact ⟨h1,by rw[<-Dz i h1];exact h⟩
  ·rw[Vs] at h;cases h
  ·rw[Me i h1] at h;cases h
 have hJ:(H0++[ai.res (AtR ⟨p.block,p.base,none⟩ o H1)]).length<=aY:=by simp;omega
 have dz:∀i,i<H0.length->(hp (H0++[ai.res (AtR ⟨p.block,p.base,none⟩ o H1)])).heap.get i=(hp H0).heap.get i:=fun i hi=>by
  rw[aZ hJ,aZ (Nat.le_of_lt n4),List.getElem?_append_left hi]
 have Xi:(hp (H0++[ai.res (AtR ⟨p.block,p.base,none⟩ o H1)])).heap.get H0.length=some .dead:=by
  rw[aZ hJ];simp[vw]
 have mn:Ext (fun o=>ay (eB rQ o)) hY:=fun i r hr=>by
  have hr:ay (eB rQ i)=some r:=hr;rcases Nat.lt_or_ge i H0.length with h1|h1
  ·rw[Dz i h1];rw[IB i h1] at hr;exact .inl hr
  ·rw[wW (by omega),rV] at hr;cases hr
 refine fx _ _ hY x w' (WY ⟨p.block,p.base,none⟩) ?_ ⟨⟨⟨fun i hi=>?_,fun i r hr=>?_,fun i hi=>?_,fun i i' r r' h1 h2 e=>?_,hJ⟩,fun i r hr=>?_,?_⟩,⟨fun i r hr=>?_,fun i hi hg=>absurd hg (cE i hi (by simp)),by show H0.length<=(H0++[_]).length;simp,fun i hi hg=>absurd hg (cE i hi (by simp))⟩,fun i hi _=>?_,?_⟩
 ·have ll:aw ay (.ptr q 0) (.pointer (some ⟨p.block,p.base,none⟩)):=by
   simp only[aw];exact ⟨_,rfl,by unfold gY;rw[bX];simp⟩
  have only:∀y,aw ay (.ptr q 0) y->y=.pointer (some ⟨p.block,p.base,none⟩):=fun y hy=>by
   simp only[aw] at hy;obtain ⟨a,rfl,hy⟩:=hy;unfold gY at hy;rw[bX] at hy;rw[hy];simp
  have hz:hY wJ=none:=Me _ (by unfold wJ;omega);cases hu:u with
  | nil=>
    rw[hu] at k2;simp only[L4] at k2 ⊢;rw[only x k2];exact aS hY _
  | cons y ys=>
    rw[hu] at k2;have hv:=eR.val;rw[hu] at hv;simp only[L4,aw,aG] at k2 ⊢;obtain ⟨arr,rfl,z,zs,e,h1,h2⟩:=k2;rw[only z h1] at e;have h3:=zj (l:=y::ys) hv rV hz (by simp only[aG];exact h2);simp only[aG] at h3;exact ⟨arr,rfl,_,zs,e,rfl,h3⟩
 ·rw[show (hp (H0++[ai.res (AtR ⟨p.block,p.base,none⟩ o H1)])).next=H0.length+1 by simp[hp]] at hi;exact Me i (by omega)
 ·obtain ⟨h1,h2⟩:=zz i r hr;obtain ⟨ob,h3,h4⟩:=r0.obj i r (by show ay (eB rQ i)=_;rw[IB i h1];exact h2);exact ⟨ob,by rw[dz i h1];exact h3,h4.mono mn rfl⟩
 ·rcases Nat.lt_trichotomy i H0.length with h1|rfl|h1
  ·rw[dz i h1];exact r0.gone i (by show ay (eB rQ i)=_;rw[IB i h1,<-Dz i h1];exact hi)
  ·exact Xi
  ·rw[Me i h1] at hi;cases hi
 ·obtain ⟨_,a1⟩:=zz i r h1;obtain ⟨_,a2⟩:=zz i' r' h2;exact k3.rel.inj i i' r r' a1 a2 e
 ·obtain ⟨h1,h2⟩:=zz i r hr;rw[dz i h1];exact r0.live i r (by show ay (eB rQ i)=_;rw[IB i h1];exact h2)
 ·exact k3.rel.frame.less fun i r hr=>⟨i,r,(zz i r hr).2,rfl⟩
 ·rcases Nat.lt_or_ge i H0.length with h1|h1
  ·rw[Dz i h1];exact k3.step.ext i r hr
  ·rw[hR.j6 i h1] at hr;cases hr
 ·simp only[List.length_append,List.length_cons,List.length_nil] at hi;rcases Nat.lt_or_ge i H0.length with h1|h1
  ·rw[Dz i h1];exact k3.pl i (Nat.lt_of_lt_of_le h1 k3.step.le) (by simp)
  ·obtain rfl:i=H0.length:=by omega
   rw[Vs];simp
 ·refine ⟨fun b=>T0 b\/(T1 b\/∃o p,ay (eB ρ o)=some (some p)/\p.block=b),?_,fun b hb=>?_⟩
  ·unfold cz;rw[List.map_append];refine dK.2 ⟨T0,_,s0,⟨_,fun _=>False,⟨fun o=>ay (eB ρ o),⟨p,by show ay (eB ρ o)=_;rw[kg];exact bX,rfl⟩,dO⟩,fun _ h=>h,fun _ _ h=>h,fun b=>⟨fun h=>.inl h,fun h=>h.elim id False.elim⟩⟩,fun b h0 h1=>?_,fun b=>Iff.rfl⟩;rcases h1 with h1|⟨i,r,hr,rfl⟩
   ·exact sd b h0 h1
   ·exact (t2 _ ((sT _).2 (.inl h0))).2 _ r hr rfl
  ·rcases hb with hb|hb|⟨i,r,hr,rfl⟩
   ·exact ⟨(t2 b ((sT b).2 (.inl hb))).1,fun i r hr=>(t2 b ((sT b).2 (.inl hb))).2 i r (zz i r hr).2⟩
   ·exact ⟨(t2 b ((sT b).2 (.inr hb))).1,fun i r hr=>(t2 b ((sT b).2 (.inr hb))).2 i r (zz i r hr).2⟩
   ·refine ⟨k3.rel.frame.own _ r hr,fun i' r' Ql e=>?_⟩;obtain ⟨a1,a2⟩:=zz i' r' Ql;have:=k3.rel.inj _ _ _ _ a2 hr e;subst this;have m1:=iX i r hr;have m2:eB ρ i∈rQ:=by
     rw[<-IB _ a1,lT (by omega)];exact List.getElem_mem _
    exact d3 _ m2 _ m1 rfl⟩
theorem JO{L M:List aC}(h:L.Perm M):∀{w:World} {S:Nat->Prop},bD L w S->bD M w S:=by
 induction h with
 | nil=>exact fun h=>h
 | cons x _ ih=>exact fun ⟨S1,S2,h1,h2,h3⟩=>⟨S1,S2,h1,ih h2,h3⟩
 | swap x y l=>exact fun h=>JP h
 | trans _ _ i1 i2=>exact fun h=>i2 (i1 h)
theorem bj.perm{L M:List aC}(h:L.Perm M):bj L M:=fun _ T ht=>⟨T,fun _ h=>h,JO h ht⟩
theorem bj.I0(L:List aC):bj L (aB::L):=fun _ T ht=>⟨T,fun _ h=>h,fun _=>False,T,fun _ h=>h,ht,fun _ h _=>h,fun b=>by simp⟩
theorem bj.cons{L M:List aC}(R:aC)(h:bj L M):bj (R::L) (R::M):=fun w T ⟨S1,S2,h1,h2,hd,hT⟩=>by
 obtain ⟨T',h3,h4⟩:=h w S2 h2;exact ⟨fun b=>S1 b\/T' b,fun b hb=>(hT b).2 (hb.imp id (h3 b)),S1,T',h1,h4,fun b x y=>hd b x (h3 b y),fun b=>Iff.rfl⟩
theorem bj.imp{R R':aC}{L:List aC}(h:∀w S,R.at_ w S->R'.at_ w S):bj (R::L) (R'::L):=fun w T ⟨S1,S2,h1,h2,h3⟩=>⟨T,fun _ h=>h,S1,S2,h w S1 h1,h2,h3⟩
theorem bj.all(L:List aC):bj L []:=fun _ _ _=>⟨fun _=>False,fun _ h=>h.elim,fun _ h=>h⟩
structure eg(H H2:List ai):Prop where
 out:∀F γ w,aU F γ (hp H) w->Rs F γ H w->∃hY,aU F hY (hp H2) w/\Rs F hY H2 w/\Step γ (hp H) hY (hp H2)/\∀o,o<H2.length->(o<H.length/\hY o=γ o)\/hY o≠none
theorem KK:∀{H H2:List ai},H.map vw=H2.map vw->hp H=hp H2:=fun {H H2} h=>by
 have:∀(H:List ai) (k:Nat) (t:T ai),DJ k H t=DJ k (H.map vw) t:=by
  intro H;induction H with
  | nil=>intro k t;rfl
  | cons a H ih=>
    intro k t;have e:vw (vw a)=vw a:=by cases a<;>rfl
    simp only[List.map_cons,DJ,e,ih]
 unfold hp;rw[this H,this H2,h];have:=congrArg List.length h;simp only[List.length_map] at this;rw[this]
theorem eg.same{H H2:List ai}(hv:H.map vw=H2.map vw)(he:bj (cz H) (cz H2)):eg H H2:=⟨fun F γ w hR hs=>by
 have hl:H.length=H2.length:=by simpa using congrArg List.length hv
 exact ⟨γ,by rw[<-KK hv];exact hR,hs.Bs he,by rw[<-KK hv];exact .refl γ _,fun o ho=>.inl ⟨by omega,rfl⟩⟩⟩
theorem eg.more{H:List ai}{R:aC}(hl:Nat.blt H.length aY=true)(he:bj (cz H) (cz H++[R])):eg H (H++[.res R]):=⟨fun F γ w hR hs=>by
 have hl:=gZ hl;let hY:aT:=fun i=>if i=H.length then some none else γ i
 have g1:∀i,i≠H.length->hY i=γ i:=fun i h=>if_neg h;have g2:hY H.length=some none:=if_pos rfl;have g3:γ H.length=none:=hR.j6 _ (Nat.le_refl _);have gs:∀i p,hY i=some (some p)->γ i=some (some p)/\i<H.length:=fun i p h=>by
  by_cases e:i=H.length
  ·rw[e,g2] at h;cases h
  ·rw[g1 i e] at h;exact ⟨h,hR.ji (by rw[h];simp)⟩
 have mn:Ext γ hY:=fun i p h=>by
  by_cases e:i=H.length
  ·rw[e,g3] at h;cases h
  ·rw[g1 i e];exact .inl h
 have hJ:(H++[ai.res R]).length<=aY:=by simp;omega
 have dz:∀i,i<H.length->(hp (H++[ai.res R])).heap.get i=(hp H).heap.get i:=fun i hi=>by rw[aZ hJ,aZ (Nat.le_of_lt hl),List.getElem?_append_left hi]
 refine ⟨hY,⟨⟨fun i hi=>?_,fun i p h=>?_,fun i h=>?_,fun i j p q h1 h2 e=>hR.inj i j p q (gs i p h1).1 (gs j q h2).1 e,hJ⟩,fun i p h=>?_,hR.frame.less fun i p h=>⟨i,p,(gs i p h).1,rfl⟩⟩,?_,⟨mn,fun i hi h=>by rw[g1 i (by have:i<H.length:=hi;omega)];exact h,by show H.length<=(H++[_]).length;simp,fun i hi _=>dz i hi⟩,fun i hi=>?_⟩
 ·have hi:(H++[ai.res R]).length<=i:=hi;simp at hi;rw[g1 i (by omega)];exact hR.j6 i (by show H.length<=i;omega)
 ·obtain ⟨h1,h2⟩:=gs i p h;obtain ⟨ob,h3,h4⟩:=hR.obj i p h1;exact ⟨ob,by rw[dz i h2];exact h3,h4.mono mn rfl⟩
 ·by_cases e:i=H.length
  ·rw[e,aZ hJ];simp[vw]
  ·rw[g1 i e] at h;have:=hR.ji (o:=i) (by rw[h];simp);rw[dz i this];exact hR.gone i h
 ·obtain ⟨h1,h2⟩:=gs i p h;rw[dz i h2];exact hR.live i p h1
 ·obtain ⟨T,h1,h2⟩:=hs.out;obtain ⟨T',h3,h4⟩:=he w T h1;exact ⟨T',by unfold cz;rw[List.map_append];exact h4,fun b hb=>⟨(h2 b (h3 b hb)).1,fun i p h=>(h2 b (h3 b hb)).2 i p (gs i p h).1⟩⟩
 ·simp at hi;by_cases e:i=H.length
  ·exact .inr (by rw[e,g2];simp)
  ·exact .inl ⟨by omega,g1 i e⟩⟩
theorem eg.trans{H H2 H3:List ai}(h:eg H H2)(k:eg H2 H3):eg H H3:=⟨fun F γ w hR hs=>by
 obtain ⟨hY,a1,a2,a3,a4⟩:=h.out F γ w hR hs;obtain ⟨Yw,b1,b2,b3,b4⟩:=k.out F hY w a1 a2;refine ⟨Yw,b1,b2,a3.trans b3,fun o ho=>?_⟩;rcases b4 o ho with ⟨h1,h2⟩|h1
 ·rcases a4 o h1 with ⟨h3,h4⟩|h3
  ·exact .inl ⟨h3,h2.trans h4⟩
  ·exact .inr (by rw[h2];exact h3)
 ·exact .inr h1⟩
theorem aj.pre{P:Program}{S:List Nat}{f:Nat}{args:List AV}{H H2:List ai}{K:AV->List ai->Prop}(h:eg H H2)(c:aj P S f args H2 K):aj P S f args H K:=⟨fun F γ w xs hR cE cK gV=>by
 obtain ⟨hY,a1,a2,a3,a4⟩:=h.out F γ w hR cK;obtain ⟨c1,c2⟩:=c.out F hY w xs a1 (fun o ho hS=>by
  rcases a4 o ho with ⟨h1,h2⟩|h1
  ·rw[h2];exact cE o h1 hS
  ·exact h1) a2 (gV.mono a3.ext _ _)
 exact ⟨c1,fun R fx=>c2 R fun v H' ay x w' k1 k2 k3=>fx v H' ay x w' k1 k2 ⟨k3.rel,a3.trans k3.step,k3.pl,k3.rs⟩⟩⟩
theorem aM.pre{P:Program}{n k:Nat}{c:Code}{t:aE}{H H2:List ai}{Q:fR->aE->List ai->Prop}(h:eg H H2)(hc:aM P n k c t H2 Q):aM P n k c t H Q:=⟨fun F γ w a R hR hT hQ=>by
 obtain ⟨hY,a1,a2,a3,a4⟩:=h.out F γ w hR.rel hR.rs;exact hc.out F hY w a R ⟨a1,fun o ho=>by
  rcases a4 o ho with ⟨h1,h2⟩|h1
  ·rw[h2];exact hR.pl o h1
  ·exact h1,a2⟩ (hT.mono a3.ext) fun e t' H' ay a' w' h1 h2 h3 h4=>hQ e t' H' ay a' w' h1 h2 h3 ((Old.AB a3.ext k).trans h4)⟩
theorem aj.post{P:Program}{f:Nat}{args:List AV}{H:List ai}{K K':AV->List ai->Prop}(c:aj P [] f args H K)(hk:∀v H1,K v H1->∃H2,eg H1 H2/\K' v H2):aj P [] f args H K':=⟨fun F γ w xs hR cE cK gV=>by
 obtain ⟨c1,c2⟩:=c.out F γ w xs hR cE cK gV;refine ⟨c1,fun R fx=>c2 R fun v H' ay x w' k1 k2 k3=>?_⟩;obtain ⟨H2,h,hv⟩:=hk v H' k1;obtain ⟨hY,a1,a2,a3,a4⟩:=h.out F ay w' k3.rel k3.rs;exact fx v H2 hY x w' hv (k2.mono a3.ext _ _) ⟨a1,k3.step.trans a3,fun o ho hS=>by
  rcases a4 o ho with ⟨h1,h2⟩|h1
  ·rw[h2];exact k3.pl o h1 hS
  ·exact h1,a2⟩⟩
section
variable{P:Program}{E:Env}(hE:cL P E){S:List Nat}{t:aE}{H:List ai}{K:AV->List ai->Prop}
include hE
theorem al.bC{ty elem:TypeId}{r er:dd}{x i:Operand}{a:Addr}{n k:Nat}{c:Nat}(hr:E.ty ty=some r)(hu:r.bp=.slice elem)(he:E.ty elem=some er)(hx:aL t x=some (.lit (.slice (some a) n c)))(hi:aL t i=some (.lit (.int .i64 (k:Int))))(hk:k<n)(h:K (.lit (.pointer (some (a.add (k * er.info.size))))) H):al E P true S t H (.indexAddr ty x i) K:=
 ⟨.inr ⟨rfl,⟨fun F γ w ρ hR cE cK bJ o ho=>by
  have h1:=bJ x _ (by simp[Op.operands]) hx;have h2:=bJ i _ (by simp[Op.operands]) hi;rw[au] at h1 h2;refine ⟨_,H,γ,.value (.pointer (some (a.add (k * er.info.size)))),w,?_,.inl ⟨_,rfl,aS γ _⟩,h,hR,.refl γ _,cE,cK⟩;obtain ⟨dst,op,type,pos,after,guard⟩:=o;simp only[] at ho;subst ho;simp only[execOp];refine dE ?_;rw[h1,h2];unfold Instr.indexAt;have iX:(0<=(k:Int)/\(k:Int)<(n:Int)):=⟨by omega,by omega⟩;simp only[asIntOf,Instr.sureAddr,Sem.run_bind,bn hE hr w,Result.andThen_ok,hu,Sem.run_pure,iX,and_self,if_true,bY hE he w,Int.toNat_natCast]⟩⟩⟩
theorem al.kN{ty:TypeId}{r fr:dd}{fs:Array Field}{fd:Field}{x:Operand}{a:Addr}{f:Nat}(hr:E.ty ty=some r)(hu:r.bp=.struct fs)(hf:fs[f]?=some fd)(FR:E.ty fd.type=some fr)(hz:Nat.beq fr.info.size 0=false)(hx:aL t x=some (.lit (.pointer (some a))))(h:K (.lit (.pointer (some (a.add fd.offset)))) H):al E P true S t H (.fieldAddr ty x f) K:=
 ⟨.inr ⟨rfl,⟨fun F γ w ρ hR cE cK bJ o ho=>by
  have h1:=bJ x _ (by simp[Op.operands]) hx;rw[au] at h1;refine ⟨_,H,γ,.value (.pointer (some (a.add fd.offset))),w,?_,.inl ⟨_,rfl,aS γ _⟩,h,hR,.refl γ _,cE,cK⟩;obtain ⟨dst,op,type,pos,after,guard⟩:=o;simp only[] at ho;subst ho;have hz:=Nat.ne_of_beq_eq_false hz;simp only[execOp];refine dE ?_;rw[h1];unfold Instr.fieldAt fieldPlace;simp only[Sem.run_bind,bn hE hr w,Result.andThen_ok,hu,hf,Instr.sureAddr,Sem.run_pure,bY hE FR w,if_neg hz]⟩⟩⟩
omit hE in
theorem al.aR{ty:TypeId}{ad:Operand}{a:Addr}{i:Nat}{R:aC}{x:Value}{v:AV}(hi:H[i]?=some (.res R))(hl:∀w S,R.at_ w S->(loadVar ty a).run P w=.ok x w)(hx:aL t ad=some (.lit (.pointer (some a))))(hv:v.flat=some x)(h:K v H):al E P true S t H (.load ty ad) K:=
 ⟨.inr ⟨rfl,⟨fun F γ w ρ hR cE cK bJ o' ho=>by
  have h1:=bJ ad _ (by simp[Op.operands]) hx;rw[au] at h1;obtain ⟨T,hT,_⟩:=cK.out;have yx:(cz H)[i]?=some R:=by unfold cz;rw[List.getElem?_map,hi];rfl
  obtain ⟨S1,S2,b1,_,_,_⟩:=db hT yx;refine ⟨v,H,γ,.value x,w,?_,.inl ⟨x,rfl,jF v x hv⟩,h,hR,.refl γ _,cE,cK⟩;obtain ⟨dst,op,type,pos,after,guard⟩:=o';simp only[] at ho;subst ho;simp only[execOp];refine dE ?_;rw[h1];simp only[Instr.loadAt,Instr.sureAddr,Sem.run_bind,Sem.run_pure,Result.andThen_ok,hl w S1 b1]⟩⟩⟩
end
def lg{α:Type}(P:Program)(R:aC)(ty:TypeId)(size:Nat)(a:Addr)(enc:α->Value)(l:List α):Prop:=∀w S,R.at_ w S->∀k (h:k<l.length),(loadVar ty (a.add (k * size))).run P w=.ok (enc l[k]) w
def cU{α:Type}(P:Program)(R:aC)(ty:TypeId)(size:Nat)(oa:Option Addr)(enc:α->Value)(l:List α):Prop:=l≠[]->∃a,oa=some a/\lg P R ty size a enc l
theorem cU.at{α:Type}{P:Program}{R:aC}{ty:TypeId}{size:Nat}{oa:Option Addr}{enc:α->Value}{l:List α}(h:cU P R ty size oa enc l){k:Nat}(hk:k<l.length):∃a,oa=some a/\lg P R ty size a enc l:=h (by rintro rfl;simp at hk)
theorem bS.sub{P:Program}{n k m:Nat}{b:Code}{t:aE}{H:List ai}{Q:fR->aE->List ai->Prop}(ρ:List Nat){l:List (Nat×AV)}{H0:List ai}(hs:Sub k ρ t H l H0)(h:bS P n k m b (tp l) H0 Q):bS P n k m b t H Q:=
 ⟨fun F γ w a R hR hT hQ=>h.out F _ w a R (hs.rl hR) (hs.ct hT) fun e t' H' ay a' w' h1 h2 h3 h4=>hQ e t' H' ay a' w' h1 h2 h3 ((hs.gE γ).trans h4)⟩
theorem bj.tX(L:List aC):bj L (L++[aB]):=(bj.I0 L).trans (bj.perm (by simpa using (List.perm_append_comm (l₁:=[aB]) (l₂:=L))))
def dT(L:List aC):List (Option Nat)->List aC
 | []=>[]
 | none::σ=>aB::dT L σ
 | some i::σ=>L.getD i aB::dT L σ
def wv:List (Option Nat)->List Nat
 | []=>[]
 | none::σ=>wv σ
 | some i::σ=>i::wv σ
theorem vM{L:List aC}{i:Nat}:∀{σ:List (Option Nat)},i∉wv σ->dT (L.set i aB) σ=dT L σ
 | [],_=>rfl
 | none::σ,h=>by simp only[dT,vM (σ:=σ) h]
 | some j::σ,h=>by
   simp only[wv,List.mem_cons,not_or] at h;simp only[dT,vM h.2];congr 1;simp only[List.getD_eq_getElem?_getD,List.getElem?_set];rw[if_neg h.1]
theorem bj.dT:∀(L:List aC) (σ:List (Option Nat)),eG (wv σ)=true->bj L (dT L σ)
 | L,[],_=>bj.all L
 | L,none::σ,h=>(bj.dT L σ h).trans (bj.I0 _)
 | L,some i::σ,h=>fun w T ht=>by
   have hn:=List.nodup_cons.1 (jT h);have h2:eG (wv σ)=true:=by
    simp only[wv,eG,Bool.and_eq_true] at h;exact h.2
   cases hi:L[i]? with
   | none=>
     simp only[Ev.dT,List.getD_eq_getElem?_getD,hi,Option.getD_none];exact ((bj.dT L σ h2).trans (bj.I0 _)) w T ht
   | some r=>
     obtain ⟨S1,S2,h3,h4,h5,h6⟩:=db ht hi;obtain ⟨T',k1,k2⟩:=bj.dT (L.set i aB) σ h2 w S2 h4;rw[vM hn.1] at k2;simp only[Ev.dT,List.getD_eq_getElem?_getD,hi,Option.getD_some];exact ⟨fun b=>S1 b\/T' b,fun b hb=>(h6 b).2 (hb.imp id (k1 b)),S1,T',h3,k2,fun b x y=>h5 b x (k1 b y),fun b=>Iff.rfl⟩

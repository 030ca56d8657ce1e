/- Part of the proof: SyD SyE. Conditions: as each states. -/
import Derived.Test.YtmbdghclhpboaaaGreatPq12
set_option linter.all false
namespace Go.Proofs.YtmbdghclhpboaaaGreat.Ev
def idxOf(o:Nat):List Nat->Nat->Option Nat
 | [],_=>none
 | j::ρ,i=>match Nat.beq o j with
   | true=>some i
   | false=>idxOf o ρ (i+1)
theorem jO{o:Nat}:∀{ρ:List Nat} {i j:Nat},idxOf o ρ i=some j->i<=j/\ρ[j - i]?=some o
 | [],i,j,h=>by simp[idxOf] at h
 | x::ρ,i,j,h=>by
   simp only[idxOf] at h;split at h
   ·rename_i hb;cases h
    simp[nQ1 hb]
   ·obtain ⟨h1,h2⟩:=jO h;refine ⟨by omega,?_⟩;rw[show j - i=(j - (i+1))+1 by omega,List.getElem?_cons_succ];exact h2
theorem tB{o:Nat}:∀{ρ:List Nat} {i:Nat},idxOf o ρ i=none->o∉ρ
 | [],_,_=>by simp
 | x::ρ,i,h=>by
   simp only[idxOf] at h;split at h
   ·cases h
   ·rename_i hb;intro hm;rcases List.mem_cons.1 hm with rfl|hm
    ·simp at hb
    ·exact tB h hm
def FI(n:Nat)(ρ ks:List Nat)(o:Nat):Nat:=match Nat.blt o n with
 | true=>match idxOf o ρ 0 with
   | some i=>i
   | none=>wJ
 | false=>ks.getD (o - n) wJ
def qL(h:Nat->Nat)(ρ:List Nat)(gv:List ai):Nat->List ai->List ai->List Nat->Prop
 | _,[],[],[]=>True
 | o,[],dq::H',j::ks=>(∃iM,gv[j]?=some iM/\pL iM (dq.cI h))/\qL h ρ gv (o+1) [] H' ks
 | o,ob::H,dq::H',ks=>(match idxOf o ρ 0 with
   | some i=>∃iM,gv[i]?=some iM/\pL iM (dq.cI h)
   | none=>pL ob dq)/\qL h ρ gv (o+1) H H' ks
 | _,_,_,_=>False
theorem qP{h:Nat->Nat}{ρ:List Nat}{gv:List ai}:∀{o:Nat} {H H':List ai} {ks:List Nat},qL h ρ gv o H H' ks->H'.length=H.length+ks.length
 | _,[],[],[],_=>rfl
 | o,[],_::H',j::ks,hb=>by have:=qP hb.2;simp at this ⊢;omega
 | o,_::H,_::H',ks,hb=>by have:=qP hb.2;simp at this ⊢;omega
 | _,[],[],_::_,hb=>hb.elim
 | _,[],_::_,[],hb=>hb.elim
 | _,_::_,[],_,hb=>hb.elim
theorem lh{h:Nat->Nat}{ρ:List Nat}{gv:List ai}:∀{o:Nat} {H H':List ai} {ks:List Nat},qL h ρ gv o H H' ks->∀(q:Nat) (dq:ai),H'[q]?=some dq ->
  (q<H.length->(match idxOf (o+q) ρ 0 with
   | some i=>∃iM,gv[i]?=some iM/\pL iM (dq.cI h)
   | none=>∃ob,H[q]?=some ob/\pL ob dq)) /\
  (H.length<=q->∃j iM,ks[q - H.length]?=some j/\gv[j]?=some iM/\pL iM (dq.cI h))
 | o,[],[],[],_,q,dq,hq=>by simp at hq
 | o,[],x::H',j::ks,hb,0,dq,hq=>by
   simp at hq;subst hq;refine ⟨fun h=>by simp at h,fun _=>?_⟩;obtain ⟨iM,h1,h2⟩:=hb.1;exact ⟨j,iM,by simp,h1,h2⟩
 | o,[],x::H',j::ks,hb,q+1,dq,hq=>by
   have:=(lh hb.2 q dq (by simpa using hq)).2 (by simp);exact ⟨fun h=>by simp at h,fun _=>by simpa using this⟩
 | o,y::H,x::H',ks,hb,0,dq,hq=>by
   simp at hq;subst hq;refine ⟨fun _=>?_,fun h=>by simp at h⟩;have h1:=hb.1;rw[Nat.add_zero];split at h1
   ·exact h1
   ·exact ⟨y,by simp,h1⟩
 | o,y::H,x::H',ks,hb,q+1,dq,hq=>by
   obtain ⟨h1,h2⟩:=lh hb.2 q dq (by simpa using hq);refine ⟨fun hl=>?_,fun hl=>?_⟩
   ·have:=h1 (by simpa using hl);rw[show o+(q+1)=o+1+q by omega];split at this
    ·exact this
    ·simpa using this
   ·have:=h2 (by simpa using hl);simpa using this
 | _,[],[],_::_,hb,_,_,_=>hb.elim
 | _,[],_::_,[],hb,_,_,_=>hb.elim
 | _,_::_,[],_,hb,_,_,_=>hb.elim
def vh(ρ:List Nat):Nat->List aC->List aC
 | _,[]=>[]
 | o,r::L=>(match idxOf o ρ 0 with
   | some _=>aB
   | none=>r)::vh ρ (o+1) L
theorem Bo{ρ:List Nat}:∀{L:List aC} {o q:Nat},(vh ρ o L)[q]?=(L[q]?).map fun r=>match idxOf (o+q) ρ 0 with
  | some _=>aB
  | none=>r
 | [],_,_=>by simp[vh]
 | r::L,o,0=>by simp[vh]
 | r::L,o,q+1=>by
   simp only[vh,List.getElem?_cons_succ];rw[Bo,show o+1+q=o+(q+1) by omega]
theorem uZ{o:Nat}:∀{ρ:List Nat} {i:Nat},o∈ρ->(idxOf o ρ i).isSome=true
 | x::ρ,i,h=>by
   simp only[idxOf];split
   ·rfl
   ·rename_i hb;rcases List.mem_cons.1 h with rfl|h
    ·simp at hb
    ·exact uZ h
theorem JH{ρ:List Nat}:∀{L:List aC} {q:Nat},(rI ρ L)[q]?=(L[q]?).map fun r=>match idxOf q ρ 0 with
  | some _=>aB
  | none=>r:=by
 have key:∀(ρ:List Nat) (L:List aC) (q:Nat),(rI ρ L)[q]?=if q∈ρ then (L[q]?).map fun _=>aB else L[q]?:=by
  intro ρ;induction ρ with
  | nil=>intro L q;simp[rI]
  | cons x ρ ih=>
    intro L q;simp only[rI];rw[ih,List.getElem?_set];by_cases e:x=q
    ·subst e;rcases Nat.lt_or_ge x L.length with h|h
     ·simp[h]
     ·simp[Nat.not_lt.2 h,List.getElem?_eq_none h]
    ·simp[e,Ne.symm e]
 intro L q;rw[key];by_cases h:q∈ρ
 ·rw[if_pos h];have:=uZ (i:=0) h;obtain ⟨i,hi⟩:=Option.isSome_iff_exists.1 this;rw[hi]
 ·rw[if_neg h];have:idxOf q ρ 0=none:=by
   cases hi:idxOf q ρ 0 with
   | none=>rfl
   | some i=>
     obtain ⟨_,hj⟩:=jO hi;exact absurd (List.mem_of_getElem? hj) h
  rw[this];simp
theorem JG(ρ:List Nat)(L:List aC):rI ρ L=vh ρ 0 L:=by
 apply List.ext_getElem?;intro q;rw[JH,Bo,Nat.zero_add]
theorem ug{h:Nat->Nat}{ρ:List Nat}{gv:List ai}{w:World}:∀{H':List ai} {o:Nat} {H:List ai} {ks:List Nat} {L0:List aC} {T0 T1:Nat->Prop},qL h ρ gv o H H' ks->ks.Nodup->(∀j∈ks,ρ.length<=j) ->
  (∀q i,o<=q->idxOf q ρ 0=some i->L0[i]?=(cz gv)[i]?)->(∀j∈ks,L0[j]?=(cz gv)[j]?)->bD L0 w T0->bD (vh ρ o (cz H)) w T1->(∀b,T0 b->T1 b->False)->∃T,(∀b,T b->T0 b\/T1 b)/\bD (cz H') w T
 | [],_,[],[],_,_,_,_,_,_,_,_,_,_,_=>⟨fun _=>False,fun _ h=>h.elim,fun _ h=>h⟩
 | dq::H',o,[],j::ks,L0,T0,T1,hb,hn,hk,hA,hB,h0,h1,hd=>by
   obtain ⟨⟨iM,a1,a2⟩,a3⟩:=hb;have hj:L0[j]?=some (iI iM):=by rw[hB j (by simp)];unfold cz;rw[List.getElem?_map,a1];rfl
   obtain ⟨S1,S2,b1,b2,b3,b4⟩:=db h0 hj;have nN:=List.nodup_cons.1 hn;obtain ⟨T,c1,c2⟩:=ug (L0:=L0.set j aB) a3 nN.2 (fun i hi=>hk i (List.mem_cons_of_mem _ hi)) (fun q i hq hi=>by
    rw[List.getElem?_set,if_neg]
    ·exact hA q i (by omega) hi
    ·intro e;obtain ⟨_,e1⟩:=jO hi;have:=(lE1.1 e1).1;have:=hk j (by simp);omega) (fun i hi=>by
    rw[List.getElem?_set,if_neg (fun e=>nN.1 (by rw[e];exact hi))];exact hB i (List.mem_cons_of_mem _ hi)) b2 h1 (fun b x y=>hd b ((b4 b).2 (.inr x)) y)
   have hr:=a2.eq.2 w S1 b1;rw[yW] at hr;refine ⟨fun b=>S1 b\/T b,fun b hb=>?_,S1,T,hr,c2,fun b x y=>?_,fun b=>Iff.rfl⟩
   ·rcases hb with hb|hb
    ·exact .inl ((b4 b).2 (.inl hb))
    ·exact (c1 b hb).imp (fun h=>(b4 b).2 (.inr h)) id
   ·rcases c1 b y with y|y
    ·exact b3 b x y
    ·exact hd b ((b4 b).2 (.inl x)) y
 | dq::H',o,ob::H,ks,L0,T0,T1,hb,hn,hk,hA,hB,h0,h1,hd=>by
   obtain ⟨a1,a3⟩:=hb;obtain ⟨A,B,d1,d2,d3,d4⟩:=h1;cases hi:idxOf o ρ 0 with
   | none=>
     rw[hi] at a1 d1;simp only[] at a1 d1;obtain ⟨T,c1,c2⟩:=ug a3 hn hk (fun q i hq=>hA q i (by omega)) hB h0 d2 (fun b x y=>hd b x ((d4 b).2 (.inr y)));refine ⟨fun b=>A b\/T b,fun b hb=>?_,A,T,a1.eq.2 w A d1,c2,fun b x y=>?_,fun b=>Iff.rfl⟩
     ·rcases hb with hb|hb
      ·exact .inr ((d4 b).2 (.inl hb))
      ·exact (c1 b hb).imp id (fun h=>(d4 b).2 (.inr h))
     ·rcases c1 b y with y|y
      ·exact hd b y ((d4 b).2 (.inl x))
      ·exact d3 b x y
   | some i=>
     rw[hi] at a1;simp only[] at a1;obtain ⟨iM,e1,e2⟩:=a1;have hj:L0[i]?=some (iI iM):=by rw[hA o i (Nat.le_refl _) hi];unfold cz;rw[List.getElem?_map,e1];rfl
     obtain ⟨S1,S2,b1,b2,b3,b4⟩:=db h0 hj;obtain ⟨_,e3⟩:=jO hi;rw[Nat.sub_zero] at e3;obtain ⟨T,c1,c2⟩:=ug (L0:=L0.set i aB) a3 hn hk (fun q i' hq kU=>by
      rw[List.getElem?_set,if_neg]
      ·exact hA q i' (by omega) kU
      ·intro e;obtain ⟨_,e4⟩:=jO kU;rw[Nat.sub_zero,<-e,e3] at e4;have:=Option.some.inj e4;omega) (fun j hj=>by
      rw[List.getElem?_set,if_neg]
      ·exact hB j hj
      ·intro e;have:=(lE1.1 e3).1;have:=hk j hj;omega) b2 d2 (fun b x y=>hd b ((b4 b).2 (.inr x)) ((d4 b).2 (.inr y)))
     have hr:=e2.eq.2 w S1 b1;rw[yW] at hr;refine ⟨fun b=>S1 b\/T b,fun b hb=>?_,S1,T,hr,c2,fun b x y=>?_,fun b=>Iff.rfl⟩
     ·rcases hb with hb|hb
      ·exact .inl ((b4 b).2 (.inl hb))
      ·exact (c1 b hb).imp (fun h=>(b4 b).2 (.inr h)) (fun h=>(d4 b).2 (.inr h))
     ·rcases c1 b y with y|y
      ·exact b3 b x y
      ·exact hd b ((b4 b).2 (.inl x)) ((d4 b).2 (.inr y))
 | [],_,[],_::_,_,_,_,hb,_,_,_,_,_,_,_=>hb.elim
 | _::_,_,[],[],_,_,_,hb,_,_,_,_,_,_,_=>hb.elim
 | [],_,_::_,_,_,_,_,hb,_,_,_,_,_,_,_=>hb.elim
structure YA(ρ ks:List Nat)(H H' gv:List ai)(v v0:AV):Prop where
 Ht:(eG ks&&ks.all (fun j=>Nat.ble ρ.length j)&&Nat.ble H'.length aY)=true
 val:v0=v.cI (FI H.length ρ ks)
 u3:qL (FI H.length ρ ks) ρ gv 0 H H' ks
theorem Is{n:Nat}{ρ ks:List Nat}{o:Nat}(h:o<n):FI n ρ ks o=match idxOf o ρ 0 with
  | some i=>i
  | none=>wJ:=by
 unfold FI;rw[show Nat.blt o n=true from Nat.ble_eq_true_of_le h]
theorem PQ{n:Nat}{ρ ks:List Nat}{o:Nat}(h:n<=o):FI n ρ ks o=ks.getD (o - n) wJ:=by
 unfold FI;cases hb:Nat.blt o n with
 | true=>exact absurd (gZ hb) (by omega)
 | false=>rfl
def zw(w:World)(γ:aT)(T:Nat->Prop):dN:=⟨w,fun b=>b<w.heap.size/\¬T b/\∀o p,γ o=some (some p)->p.block≠b⟩
theorem Ik(w:World)(γ:aT)(T:Nat->Prop):Frame (zw w γ T) γ w:=⟨rfl,rfl,rfl,Nat.le_refl _,fun b h=>h.1,fun _ _=>rfl,fun o p hp h=>h.2.2 o p hp rfl⟩
theorem aj.sub{P:Program}{S:List Nat}{f:Nat}{args0 args:List AV}{H0 H:List ai}{K0 K:AV->List ai->Prop}(c:oJ P f args0 H0 K0)(ρ:List Nat)(iD:args=AV.eN (eB ρ) args0)(lV:(eG ρ&&Nat.ble H0.length aY&&ρ.all (fun i=>!nZ S i))=true)(pT:nT (eB ρ) H ρ H0)
  (hK:∀v0 gv,K0 v0 gv->∃v H' ks,YA ρ ks H H' gv v v0/\K v H'):aj P S f args H K:=⟨fun F γ w xs hR cE cK gV=>by
 simp only[Bool.and_eq_true] at lV;have nN:=jT lV.1.1;have hlen:=oI pT;have hS:∀i,i<ρ.length->γ (eB ρ i)≠none:=fun i hi=>by
  have h5:=List.all_eq_true.1 lV.2 _ (List.getElem_mem hi);have h6:ρ[i]∉S:=fun hm=>by rw[uw.2 hm] at h5;cases h5
  obtain ⟨j,dq,a1,a2,_⟩:=oH pT i _ (List.getElem?_eq_getElem (by omega));rw[List.getElem?_eq_getElem hi] at a1;cases a1
  rw[lT hi];exact cE _ (lE1.1 a2).1 h6
 have hR0':=hR.sub pT lV.1.1 lV.1.2;obtain ⟨γ0,B7⟩:∃γ0:aT,γ0=fun o=>γ (eB ρ o):=⟨_,rfl⟩;rw[<-B7] at hR0';have Qj:∀o,o<H0.length->γ0 o≠none:=fun o ho=>by rw[B7];exact hS o (by omega)
 have nX:∀o p,γ0 o=some (some p)->∃q,γ q=some (some p):=fun o p hp=>⟨eB ρ o,by rw[B7] at hp;exact hp⟩;obtain ⟨T,t1,t2⟩:=cK.out;obtain ⟨T1,T2,p1,p2,p3,p4⟩:=wy pT nN (fun _ _=>rfl) w T t1;rw[JG] at p2;have Dt:aU (zw w γ0 T1) γ0 (hp H0) w:=⟨hR0'.toRel,hR0'.live,Ik _ _ _⟩;have IJ:Rs (zw w γ0 T1) γ0 H0 w:=⟨T1,p1,fun b hb=>⟨fun h=>h.2.1 hb,fun o p hp e=>(t2 b (p4 b (.inl hb))).2 _ p (by rw[B7] at hp;exact hp) e⟩⟩;have Qs:aG γ0 args0 xs.toList:=by
  rw[B7];rw[iD] at gV;exact (fp args0 _).1 gV
 obtain ⟨h1,h2⟩:=c.out (zw w γ0 T1) γ0 w xs Dt (fun o ho _=>Qj o ho) IJ Qs;refine ⟨h1,fun R fx=>h2 R fun v0 gv Dm x w' hk hx hA=>?_⟩;have fJ:Rl (zw w γ0 T1) Dm gv w':=hA.rl;have mn:=hA.step.ext;obtain ⟨v,H',ks,hb,ti⟩:=hK v0 gv hk;have Iz:=hb.Ht;simp only[Bool.and_eq_true] at Iz;have hlen':=qP hb.u3;have FL:=mF fJ.rel;obtain ⟨h,hh⟩:∃h,h=FI H.length ρ ks:=⟨_,rfl⟩;have rZ:=hb.val;have hobj':=hb.u3;rw[<-hh] at rZ hobj';obtain ⟨ay,Qv⟩:∃ay:aT,ay=fun o=>match Nat.blt o H.length,idxOf o ρ 0 with
   | true,none=>γ o
   | _,_=>Dm (h o):=⟨_,rfl⟩
 have g1:∀o,o<H.length->idxOf o ρ 0=none->ay o=γ o:=fun o ho hi=>by
  rw[Qv];simp only[show Nat.blt o H.length=true from Nat.ble_eq_true_of_le ho,hi]
 have g2:∀o i,o<H.length->idxOf o ρ 0=some i->ay o=Dm i/\h o=i/\i<ρ.length/\γ0 i=γ o:=fun o i ho hi=>by
  have e:h o=i:=by rw[hh,Is ho,hi]
  obtain ⟨_,hj⟩:=jO hi;rw[Nat.sub_zero] at hj;have an:=(lE1.1 hj).1;refine ⟨by rw[Qv];simp only[hi,e];cases Nat.blt o H.length<;>rfl,e,an,?_⟩;rw[B7];simp only[lT an];rw[List.getElem?_eq_getElem an] at hj;rw[Option.some.inj hj]
 have g3:∀o,H.length<=o->ay o=Dm (h o)/\h o=ks.getD (o - H.length) wJ:=fun o ho=>by
  have e:Nat.blt o H.length=false:=by
   cases hb:Nat.blt o H.length with
   | true=>exact absurd (gZ hb) (by omega)
   | false=>rfl
  exact ⟨by rw[Qv];simp only[e],by rw[hh,PQ ho]⟩
 have cls:∀o p,ay o=some p->(o<H.length/\idxOf o ρ 0=none/\γ o=some p)\/(Dm (h o)=some p/\o<H'.length/\((o<H.length/\h o<ρ.length/\ρ[h o]?=some o)\/(H.length<=o/\ks[o - H.length]?=some (h o)))):=fun o p hp=>by
  rcases Nat.lt_or_ge o H.length with ho|ho
  ·cases hi:idxOf o ρ 0 with
   | none=>exact .inl ⟨ho,rfl,by rw[<-g1 o ho hi];exact hp⟩
   | some i=>
     obtain ⟨e1,e2,e3,_⟩:=g2 o i ho hi;obtain ⟨_,hj⟩:=jO hi;rw[Nat.sub_zero] at hj;exact .inr ⟨by rw[e2,<-e1];exact hp,by omega,.inl ⟨ho,by omega,by rw[e2];exact hj⟩⟩
  ·obtain ⟨e1,e2⟩:=g3 o ho;rw[e1] at hp;refine .inr ⟨hp,?_⟩;rcases Nat.lt_or_ge (o - H.length) ks.length with NN|NN
   ·have e3:ks[o - H.length]?=some (h o):=by rw[e2,List.getElem?_eq_getElem NN];simp[List.getD,NN]
    exact ⟨by omega,.inr ⟨ho,e3⟩⟩
   ·have e3:h o=wJ:=by rw[e2];simp[List.getD,NN]
    rw[e3,FL] at hp;cases hp
 have P3:∀q p,Dm (h q)=some p->ay q=some p\/ay q=some none:=fun q p hq=>by
  rcases Nat.lt_or_ge q H.length with ho|ho
  ·cases hi:idxOf q ρ 0 with
   | none=>
     have e:h q=wJ:=by rw[hh,Is ho,hi]
     rw[e,FL] at hq;cases hq
   | some i=>
     obtain ⟨e1,e2,_,_⟩:=g2 q i ho hi;exact .inl (by rw[e1,<-e2];exact hq)
  ·exact .inl (by rw[(g3 q ho).1];exact hq)
 have hext':Ext γ ay:=fun o p hp=>by
  have ho:o<H.length:=by
   rcases Nat.lt_or_ge o H.length with h5|h5
   ·exact h5
   ·rw[hR.j6 o h5] at hp;cases hp
  cases hi:idxOf o ρ 0 with
  | none=>exact .inl (by rw[g1 o ho hi];exact hp)
  | some i=>
    obtain ⟨e1,_,_,e4⟩:=g2 o i ho hi;rw[e1];exact mn i p (by rw[e4];exact hp)
 have tu:∀o p,ay o=some p->∃dq,H'[o]?=some dq/\((o<H.length/\idxOf o ρ 0=none/\γ o=some p/\∃ob,H[o]?=some ob/\vw dq=vw ob)\/(Dm (h o)=some p/\∃iM,gv[h o]?=some iM/\vw iM=(vw dq).cI h)):=fun o p hp=>by
  rcases cls o p hp with ⟨ho,hi,bX⟩|⟨bX,an,hc⟩
  ·have pQ:H'[o]?=some H'[o]:=List.getElem?_eq_getElem (by omega);have:=(lh hobj' o _ pQ).1 ho;rw[Nat.zero_add,hi] at this;obtain ⟨ob,c1,c2⟩:=this;exact ⟨_,pQ,.inl ⟨ho,hi,bX,ob,c1,c2.eq.1.symm⟩⟩
  ·have pQ:H'[o]?=some H'[o]:=List.getElem?_eq_getElem an;refine ⟨_,pQ,.inr ⟨bX,?_⟩⟩;rcases hc with ⟨ho,_,hr⟩|⟨ho,hks⟩
   ·have:=(lh hobj' o _ pQ).1 ho;rw[Nat.zero_add] at this;cases hi:idxOf o ρ 0 with
    | none=>exact absurd (List.mem_of_getElem? hr) (tB hi)
    | some i=>
      rw[hi] at this;obtain ⟨iM,a1,a2⟩:=this;obtain ⟨_,e2,_,_⟩:=g2 o i ho hi;exact ⟨iM,by rw[e2];exact a1,by rw[a2.eq.1,GV]⟩
   ·obtain ⟨j,iM,a1,a2,a3⟩:=(lh hobj' o _ pQ).2 ho;rw[hks] at a1;cases a1
    exact ⟨iM,a2,by rw[a3.eq.1,GV]⟩
 have hlim':H'.length<=aY:=nB1 Iz.2;have jL:=fJ.rel.frame;have NL:∀b,F.fz b->(zw w γ0 T1).fz b:=fun b hb=>⟨Nat.lt_of_lt_of_le (hR.frame.gE b hb) hR.frame.size,fun h=>(t2 b (p4 b (.inl h))).1 hb,fun o p hp e=>by
  obtain ⟨q,hq⟩:=nX o p hp;exact hR.frame.own q p hq (by rw[e];exact hb)⟩
 have rY:∀o p,o<H.length->idxOf o ρ 0=none->γ o=some (some p)->(zw w γ0 T1).fz p.block:=fun o p ho hi hp=>
  ⟨hR.lt hp,fun h=>(t2 _ (p4 _ (.inl h))).2 o p hp rfl,fun q p' hq e=>by
   have fu:=hq;rw[B7] at fu;have:=hR.inj _ _ p' p fu hp e;have DB:q<ρ.length:=by
    rcases Nat.lt_or_ge q ρ.length with h5|h5
    ·exact h5
    ·simp only[] at fu;rw[wW h5,mF hR] at fu;cases fu
   rw[lT DB] at this;exact tB hi (by rw[<-this];exact List.getElem_mem _)⟩
 refine fx v H' ay x w' ti ?_ ⟨⟨⟨fun o ho=>?_,fun o p hp=>?_,fun o ho=>?_,fun o o' p p' hp bX e=>?_,hlim'⟩,fun o p hp=>?_,?_⟩,⟨hext',fun o ho hg=>?_,by show H.length<=H'.length;omega,fun o ho hg=>?_⟩,fun o ho ZV=>?_,?_⟩
 ·rw[rZ] at hx;exact ((fm v x).1 hx).mono (fun q r hq=>P3 q r hq) _ _
 ·have ho:H'.length<=o:=ho;cases hp:ay o with
  | none=>rfl
  | some p=>
    obtain ⟨dq,a1,_⟩:=tu o p hp;have:=(lE1.1 a1).1;omega
 ·obtain ⟨dq,a1,a2⟩:=tu o _ hp;refine ⟨vw dq,by rw[aZ hlim',a1];rfl,?_⟩;rcases a2 with ⟨ho,hi,bX,ob,a3,a4⟩|⟨bX,iM,a3,a4⟩
  ·obtain ⟨ob2,b1,b2⟩:=hR.obj o p bX;rw[aZ hR.aY,a3] at b1;cases b1
   rw[a4];exact b2.mono hext' (jL.block _ (rY o p ho hi bX))
  ·obtain ⟨ob2,b1,b2⟩:=fJ.rel.obj _ p bX;rw[aZ fJ.rel.aY,a3] at b1;cases b1
   rw[a4] at b2;exact (zF.1 b2).mono (fun q r hq=>P3 q r hq) rfl
 ·obtain ⟨dq,a1,a2⟩:=tu o _ ho;rw[aZ hlim',a1];simp only[Option.map_some,Option.some.injEq];rcases a2 with ⟨Qe,hi,bX,ob,a3,a4⟩|⟨bX,iM,a3,a4⟩
  ·have b1:=hR.gone o bX;rw[aZ hR.aY,a3] at b1;rw[a4];simpa using b1
  ·have b1:=fJ.rel.gone _ bX;rw[aZ fJ.rel.aY,a3] at b1;simp only[Option.map_some,Option.some.injEq] at b1;rw[b1] at a4;exact EC a4.symm
 ·rcases cls o _ hp with ⟨ho,hi,hq⟩|⟨hq,an,hc⟩<;>rcases cls o' _ bX with ⟨Qe,kU,fu⟩|⟨fu,hlt',yp⟩
  ·exact hR.inj o o' p p' hq fu e
  ·have:=rY o p ho hi hq;rw[e] at this;exact absurd this (jL.own _ p' fu)
  ·have:=rY o' p' Qe kU fu;rw[<-e] at this;exact absurd this (jL.own _ p hq)
  ·have e1:=fJ.rel.inj _ _ p p' hq fu e;rcases hc with ⟨_,_,hr⟩|⟨hge,hks⟩<;>rcases yp with ⟨_,_,Ql⟩|⟨hge',hks'⟩
   ·rw[e1] at hr;rw[hr] at Ql;exact Option.some.inj Ql
   ·exfalso;have h5:=List.all_eq_true.1 Iz.1.2 _ (List.mem_of_getElem? hks');have:=nB1 h5;have:=(lE1.1 hr).1;omega
   ·exfalso;have h5:=List.all_eq_true.1 Iz.1.2 _ (List.mem_of_getElem? hks);have:=nB1 h5;have:=(lE1.1 Ql).1;omega
   ·rw[e1] at hks;obtain ⟨l1,e2⟩:=lE1.1 hks;obtain ⟨l2,e3⟩:=lE1.1 hks';have:=vI (jT Iz.1.1) l1 l2 (by rw[e2,e3]);omega
 ·obtain ⟨dq,a1,a2⟩:=tu o _ hp;rw[aZ hlim',a1];intro hd;simp only[Option.map_some,Option.some.injEq] at hd;rcases a2 with ⟨Qe,hi,bX,ob,a3,a4⟩|⟨bX,iM,a3,a4⟩
  ·have b1:=hR.live o p bX;rw[aZ hR.aY,a3] at b1;exact b1 (by rw[<-hd,a4];rfl)
  ·have b1:=fJ.rel.live _ p bX;rw[aZ fJ.rel.aY,a3] at b1;exact b1 (by simp only[Option.map_some,a4,hd];rfl)
 ·have hF:=hR.frame;refine ⟨jL.os.trans hF.os,jL.tape.trans hF.tape,jL.output.trans hF.output,Nat.le_trans hF.size jL.size,hF.gE,fun b hb=>(jL.block b (NL b hb)).trans (hF.block b hb),fun o p hp hz=>?_⟩;rcases cls o _ hp with ⟨ho,hi,hq⟩|⟨hq,_,_⟩
  ·exact hF.own o p hq hz
  ·exact jL.own _ p hq (NL _ hz)
 ·have ho:o<H.length:=ho;cases hi:idxOf o ρ 0 with
  | none=>rw[g1 o ho hi];exact hg
  | some i=>
    obtain ⟨_,_,e3,e4⟩:=g2 o i ho hi;exact absurd (e4.trans hg) (Qj i (by omega))
 ·have ho:o<H.length:=ho;cases hi:idxOf o ρ 0 with
  | none=>
    have pQ:H'[o]?=some H'[o]:=List.getElem?_eq_getElem (by omega);have:=(lh hobj' o _ pQ).1 ho;rw[Nat.zero_add,hi] at this;obtain ⟨ob,a1,a2⟩:=this;rw[aZ hlim',aZ hR.aY,pQ,a1];simp only[Option.map_some,a2.eq.1]
  | some i=>
    obtain ⟨_,_,e3,e4⟩:=g2 o i ho hi;exact absurd (e4.trans hg) (Qj i (by omega))
 ·intro hn;rcases Nat.lt_or_ge o H.length with h5|h5
  ·cases hi:idxOf o ρ 0 with
   | none=>rw[g1 o h5 hi] at hn;exact cE o h5 ZV hn
   | some i=>
     obtain ⟨e1,_,e3,e4⟩:=g2 o i h5 hi;rw[e1] at hn;cases hg:γ o with
     | none=>exact cE o h5 ZV hg
     | some p=>rcases mn i p (by rw[e4];exact hg) with h6|h6<;>rw[h6] at hn<;>cases hn
  ·have pQ:H'[o]?=some H'[o]:=List.getElem?_eq_getElem ho;obtain ⟨j,iM,a1,a2,a3⟩:=(lh hobj' o _ pQ).2 h5;obtain ⟨e1,e2⟩:=g3 o h5;have e3:h o=j:=by rw[e2];simp[List.getD,a1]
   rw[e1,e3] at hn;exact fJ.pl j (lE1.1 a2).1 hn
 ·obtain ⟨T0',r1,r2⟩:=hA.rs.out;have mK:∀b,T2 b->(zw w γ0 T1).fz b:=fun b hb=>⟨jq p2 hb,fun h=>p3 b h hb,fun o p hp e=>by
   obtain ⟨q,hq⟩:=nX o p hp;exact (t2 b (p4 b (.inr hb))).2 q p hq e⟩
  obtain ⟨T',q1,q2⟩:=ug (w:=w') (L0:=cz gv) (T0:=T0') (T1:=T2) hobj' (jT Iz.1.1) (fun j hj=>nB1 (List.all_eq_true.1 Iz.1.2 j hj)) (fun _ _ _ _=>rfl) (fun _ _=>rfl) r1 (iV p2 fun b hb=>jL.block b (mK b hb)) (fun b x y=>(r2 b x).1 (mK b y));refine ⟨T',q2,fun b hb=>?_⟩;rcases q1 b hb with hb|hb
  ·refine ⟨fun h=>(r2 b hb).1 (NL b h),fun o p hp e=>?_⟩;rcases cls o _ hp with ⟨ho,hi,hq⟩|⟨hq,_,_⟩
   ·exact (r2 b hb).1 (by rw[<-e];exact rY o p ho hi hq)
   ·exact (r2 b hb).2 _ p hq e
  ·refine ⟨(t2 b (p4 b (.inr hb))).1,fun o p hp e=>?_⟩;rcases cls o _ hp with ⟨ho,hi,hq⟩|⟨hq,_,_⟩
   ·exact (t2 b (p4 b (.inr hb))).2 o p hq e
   ·exact jL.own _ p hq (by rw[e];exact mK b hb)⟩
theorem aj.mono{P:Program}{S:List Nat}{f:Nat}{args:List AV}{H:List ai}{K K':AV->List ai->Prop}(c:aj P S f args H K)(h:∀v H',K v H'->K' v H'):aj P S f args H K':=
 ⟨fun F γ w xs hR cE cK gV=>⟨(c.out F γ w xs hR cE cK gV).1,fun R hq=>(c.out F γ w xs hR cE cK gV).2 R fun v H' ay x w' h1 h2 h3=>hq v H' ay x w' (h _ _ h1) h2 h3⟩⟩
theorem vK(a:ai):pL a a:=by cases a<;>first|rfl|exact fun _ _ h=>h
theorem ze{h:Nat->Nat}{gv:List ai}:∀(H:List ai) (o:Nat),qL h [] gv o H H []
 | [],_=>trivial
 | _::H,o=>⟨vK _,ze H (o+1)⟩
theorem aj.pure{P:Program}{S:List Nat}{f:Nat}{args:List AV}{H:List ai}{K:AV->List ai->Prop}{v:AV}(c:oJ P f args [] (fun u _=>u=v))(ha:∀g,AV.eN g args=args)(hv:∀g,v.cI g=v)(hk:K v H):aj P S f args H K:=
 ⟨fun F γ w xs hR cE cK gV=>(c.sub (S:=S) (H:=H) (K:=K) [] (ha _).symm rfl trivial fun v0 gv h=>⟨v,H,[],⟨by simp[eG];exact hR.aY,by rw[h,hv],ze H 0⟩,hk⟩).out F γ w xs hR cE cK gV⟩
open Go.RowKit
theorem dL.agg{xs:List Value}{off size:Nat}{K:AV->Prop}(cs:List Value)(h1:off+size<=xs.length)(h2:(xs.drop off).take size=cs)(k:K (.agg (cs.map .lit))):dL xs off size true K:=
 ⟨.agg (cs.map .lit),by simp only[h1,if_true,Option.some.injEq,AV.agg.injEq];rw[<-List.map_drop,<-List.map_take,h2],k⟩
theorem dL.one{xs:List Value}{off size:Nat}{K:AV->Prop}(x:Value)(h:xs[off]?=some x)(k:K (.lit x)):dL xs off size false K:=
 ⟨.lit x,by simp[h],k⟩
theorem eC{α:Type}{enc:α->List Value}{k:Nat}(hk:∀a,(enc a).length=k):∀l:List α,(l.flatMap enc).length=l.length * k
 | []=>by simp
 | a::l=>by simp only[List.flatMap_cons,List.length_append,List.length_cons,hk,eC hk l,Nat.add_mul];omega
theorem sQ{α:Type}{enc:α->List Value}{k:Nat}(hk:∀a,(enc a).length=k):∀(l:List α) (i:Nat) (hi:i<l.length),((l.flatMap enc).drop (i * k)).take k=enc l[i]
 | [],i,hi=>absurd hi (by simp)
 | a::l,0,_=>by
   simp only[Nat.zero_mul,List.drop_zero,List.flatMap_cons,List.getElem_cons_zero];rw[List.take_append_of_le_length (by rw[hk];exact Nat.le_refl _),List.take_of_length_le (by rw[hk];exact Nat.le_refl _)]
 | a::l,i+1,hi=>by
   have h1:(i+1) * k=(enc a).length+i * k:=by rw[hk,Nat.add_mul];omega
   rw[List.flatMap_cons,h1,List.drop_append,List.drop_of_length_le (Nat.le_add_right _ _),List.nil_append,Nat.add_sub_cancel_left];exact sQ hk l i (by simpa using hi)
theorem dL.elem{α:Type}{enc:α->List Value}{size:Nat}{K:AV->Prop}(hk:∀a,(enc a).length=size){l:List α}{i:Nat}(hi:i<l.length)(k:K (.agg ((enc l[i]).map .lit))):dL (l.flatMap enc) (0+i * size) size true K:=
 dL.agg (enc l[i]) (by
  rw[eC hk,Nat.zero_add];have:(i+1) * size<=l.length * size:=Nat.mul_le_mul_right _ hi;rw[Nat.add_mul] at this;omega) (by rw[Nat.zero_add];exact sQ hk l i hi) k
theorem dL.val{α:Type}{f:α->Value}{K:AV->Prop}{l:List α}{i:Nat}(hi:i<l.length)(k:K (.lit (f l[i]))):dL (l.map f) (0+i * 1) 1 false K:=
 dL.one (f l[i]) (by simp[hi]) k
def nQ:List AV->Option (List Value)
 | []=>some []
 | .lit x::l=>match nQ l with
   | some xs=>some (x::xs)
   | none=>none
 | _=>none
theorem oD:∀{l:List AV} {xs:List Value},nQ l=some xs->l=xs.map .lit
 | [],_,h=>by cases h;rfl
 | v::l,xs,h=>by
   cases v with
   | lit x=>
     simp only[nQ] at h;split at h
     ·rename_i ys hy;cases h
      simp[oD hy]
     ·cases h
   | _=>simp[nQ] at h
structure iO(E:Env)(ty elem size:Nat):Prop where
 ty:∃r,E.ty ty=some r/\r.bp=.slice elem
 el:∃er z,E.ty elem=some er/\er.info.size=size/\er.info.zero=some z/\(ofValue z).cells.length=size/\er.info.bytes<=65536
section
variable{E:Env}{P:Program}{m:Bool}{S:List Nat}{t:aE}{cl:Call}{ty elem size:Nat}{H:List ai}{K:AV->List ai->Prop}
theorem vp{ox:Nat}{c:pe}{l:List AV}{e:TypeId}(hl:H.length<=aY)(hx:H[ox]?=some (.cells l e))(hn:Nat.beq l.length size=true):jy (hp H) size (0+1) (.slice ox 0 1 c)=some l:=by
 have hn:=nQ1 hn;simp only[jy];rw[aZ hl,hx];simp only[Option.map_some,vw,Nat.zero_add,Nat.one_mul,List.drop_zero];rw[show Nat.ble size l.length=true from Nat.ble_eq_true_of_le (by omega)];simp only[Bool.true_and];first
  | (rw[show Nat.ble 1 1=true from rfl];simp only[];rw[List.take_of_length_le (by omega)])
  | rw[List.take_of_length_le (by omega)]
theorem dx.nil(hA:iO E ty elem size){ox:Nat}{c:pe}{l:List AV}{e:TypeId}{ys:List Value}(fy:Nat.blt H.length aY=true)(hx:H[ox]?=some (.cells l e))(hl:nQ l=some ys)(hn:Nat.beq l.length size=true)(h1:l.all AV.one=true)
  (k:p6 H (.row ys elem) fun H'=>oX (qT H 0) fun n=>K (.slice n 0 1 (.grown size)) H'):dx E P m S t cl ty (.lit (.slice none 0 0)) (.slice ox 0 1 c) H K:=by
 obtain ⟨r,hr,hu⟩:=hA.ty;obtain ⟨er,z,he,hs,hz,hc,hb⟩:=hA.el;have an:=gZ fy;rw[lF,jh,lQ,Nat.zero_add] at k;refine ⟨.inl ⟨.slice H.length 0 (0+(0+1)) (.grown size),{ heap:=(hp H).heap.put H.length (.cells l elem),next:=H.length+1 },_,?_,?_,?_,qd rfl,k⟩⟩
 ·have hf:=vp (size:=size) (c:=c) (Nat.le_of_lt an) hx hn;simp only[nw,hr,hu,he,iZ,hs,hf,hz];have e1:jy (hp H) size 0 (.lit (.slice none 0 0))=some []:=rfl;rw[e1];simp only[BD,Bool.not_false,Bool.and_true];rw[show Nat.ble ((0+(0+1)) * er.info.bytes) 140737488355328=true from Nat.ble_eq_true_of_le (by omega),show Nat.ble (0+(0+1)) 4611686018427387904=true from rfl,show Nat.ble er.info.bytes 65536=true from Nat.ble_eq_true_of_le hb,show Nat.blt (hp H).next aY=true from fy,hc,h1];rw[show Nat.beq size size=true from Nat.beq_refl _,show Nat.beq ([]:List AV).length (0 * size)=true by rw[Nat.zero_mul];rfl,show Nat.beq l.length ((0+1) * size)=true by rw[Nat.zero_add,Nat.one_mul];exact hn];rfl
 ·refine ⟨by simp,fun o=>?_⟩;simp only[];rw[T.bN _ _ _ _ (Nat.le_of_lt an),aZ (Nat.le_of_lt an)];by_cases e:o=H.length
  ·subst e;rw[if_pos rfl];simp[vw,oD hl]
  ·rw[if_neg e];rcases Nat.lt_or_ge o H.length with h5|h5
   ·rw[List.getElem?_append_left h5]
   ·rw[List.getElem?_eq_none h5,List.getElem?_eq_none (by simp;omega)]
 ·simp[rf]
theorem dx.own(hA:iO E ty elem size){o len ox:Nat}{c:pe}{l:List AV}{e:TypeId}{xs ys:List Value}(fy:Nat.blt H.length aY=true)(ho:H[o]?=some (.row xs elem))(hx:H[ox]?=some (.cells l e))(hl:nQ l=some ys)(hn:Nat.beq l.length size=true)(h1:l.all AV.one=true)
  (gV:xs.length=len * size) (hlen:len+1<=2147483648)
  (k:mz H o .dead fun H1=>p6 H1 (.row (xs++ys) elem) fun H'=>oX (qT H 0) fun n=>K (.slice n 0 (len+1) (.grown size)) H'):dx E P m S t cl ty (.slice o 0 len (.grown size)) (.slice ox 0 1 c) H K:=by
 obtain ⟨r,hr,hu⟩:=hA.ty;obtain ⟨er,z,he,hs,hz,hc,hb⟩:=hA.el;have an:=gZ fy;have si:=(lE1.1 ho).1;rw[k9,lF,jh,lQ,Nat.zero_add] at k;refine ⟨.inl ⟨.slice H.length 0 (len+(0+1)) (.grown size),{ heap:=((hp H).heap.put o .dead).put H.length (.cells (xs.map .lit++l) elem),next:=H.length+1 },_,?_,?_,?_,(bj.of_eq (qC (ob:=.dead) ho rfl).symm).trans (qd (ob:=.row (xs++ys) elem) rfl),k⟩⟩
 ·have hf:=vp (size:=size) (c:=c) (Nat.le_of_lt an) hx hn;have e1:jy (hp H) size len (.slice o 0 len (.grown size))=some (xs.map .lit):=by
   cases len with
   | zero=>
     have:xs=[]:=List.eq_nil_of_length_eq_zero (by omega);subst this;rfl
   | succ len=>
     simp only[jy];rw[aZ (Nat.le_of_lt an),ho];simp only[Option.map_some,vw,Nat.zero_add,List.drop_zero,List.length_map];rw[show Nat.ble ((len+1) * size) xs.length=true from Nat.ble_eq_true_of_le (by omega),show Nat.ble (len+1) (len+1)=true from Nat.ble_eq_true_of_le (Nat.le_refl _)];simp only[Bool.and_self];rw[List.take_of_length_le (by simp;omega)]
  simp only[nw,hr,hu,he,iZ,hs,hf,e1,hz];simp only[BD,Bool.not_false,Bool.and_true];rw[show Nat.ble ((len+(0+1)) * er.info.bytes) 140737488355328=true from Nat.ble_eq_true_of_le (Nat.le_trans (Nat.mul_le_mul (Nat.le_trans (by omega) hlen) hb) (by decide)),show Nat.ble (len+(0+1)) 4611686018427387904=true from Nat.ble_eq_true_of_le (by omega),show Nat.ble er.info.bytes 65536=true from Nat.ble_eq_true_of_le hb,show Nat.blt (hp H).next aY=true from fy,hc,h1];rw[show Nat.beq size size=true from Nat.beq_refl _,show Nat.beq (xs.map AV.lit).length (len * size)=true by rw[List.length_map,gV];exact Nat.beq_refl _,show Nat.beq l.length ((0+1) * size)=true by rw[Nat.zero_add,Nat.one_mul];exact hn];simp only[Bool.and_self,aZ (Nat.le_of_lt an),ho,Option.map_some,vw,Ca,Nat.beq_refl];rfl
 ·refine ⟨by simp,fun q=>?_⟩;simp only[];rw[T.bN _ _ _ _ (Nat.le_of_lt an),T.bN _ _ _ _ (by omega),aZ (Nat.le_of_lt an)];by_cases e:q=H.length
  ·subst e;rw[if_pos rfl];simp[vw,oD hl]
  ·rw[if_neg e];rcases Nat.lt_or_ge q H.length with h5|h5
   ·rw[List.getElem?_append_left (by simpa using h5),List.getElem?_set];by_cases e2:q=o
    ·subst e2;simp[si,vw]
    ·rw[if_neg e2,if_neg (Ne.symm e2)]
   ·rw[if_neg (by omega),List.getElem?_eq_none h5,List.getElem?_eq_none (by simp;omega)]
 ·simp[rf]
end
def M3:Value->AV
 | .tuple xs=>.tuple (xs.toList.map .lit)
 | .agg xs=>.agg (xs.toList.map .lit)
 | v=>.lit v
theorem zt:∀xs:List Value,AV.kF (xs.map .lit)=some xs
 | []=>rfl
 | x::xs=>by simp only[List.map_cons,AV.kF,AV.flat,zt xs]
theorem C9(x:Value):(M3 x).flat=some x:=by
 unfold M3;split<;>simp only[AV.flat,zt,Array.toArray_toList]
theorem aj.Et{P:Program}{S:List Nat}{E:Env}(hE:cL P E){f:Nat}{fn:Func}(hf:E.fn f=some fn){args:List AV}{xs:List Value}{x:Value}{H:List ai}{K:AV->List ai->Prop}(ha:AV.kF args=some xs)
  (c:∀w:World,Calls P f xs.toArray w (fun e w'=>e=.returned x/\Below w.heap.size w w')) (k:K (M3 x) H):aj P S f args H K:=⟨fun F γ w ys hR cE cK qp=>by
 have e:=jJ args xs ys.toList ha qp;obtain rfl:ys=xs.toArray:=by rw[<-e]
 obtain ⟨F1,fJ,iW⟩:=tK hR cK;refine ⟨(hE.fn f fn hf).2 _ w,fun R fx=>(c w).mono ?_⟩;rintro r w' ⟨rfl,hb⟩;obtain ⟨h1,h2⟩:=iW _ _ _ (fJ.grown hb);exact fx _ H γ x w' k (jF _ x (C9 x)) ⟨h1,.refl γ _,cE,h2 H (.refl _)⟩⟩
structure bS(P:Program)(n k m:Nat)(b:Code)(t:aE)(H:List ai)(Q:fR->aE->List ai->Prop):Prop where
 out:∀(F:dN) (γ:aT) (w:World) (a:Act) (R:Exit->Act->World->Prop),Rl F γ H w->cW γ n t a ->
  (∀e t' H' ay a' w',Q e t' H'->Rl F ay H' w'->cW ay n t' a'->Old k γ ay->R e.ex a' w')->Code.rounds P b R m a w
theorem bS.step{P:Program}{E:Env}(hE:cL P E){n k m:Nat}(hn:Nat.ble n aY=true){b:Code}{t:aE}{H:List ai}{Q:fR->aE->List ai->Prop}(h:aI E P n k b t H (fun e t' H'=>match e with
   | .normal=>bS P n k m b t' H' Q
   | .exit id=>Q (.exit id) t' H'
   | .goto l=>Q (.goto l) t' H'
   | .ret=>Q .ret t' H')):bS P n k (m+1) b t H Q:=⟨fun F γ w a R hR hT hQ=>by
 rw[rounds_succ];refine (n8 hE (nB1 hn) b _ _ _ h).out F γ w a _ hR hT fun e t' H' ay a' w' hq lj gz vx=>?_;cases e with
 | normal=>exact hq.out F ay w' a' R lj gz fun e2 t2 H2 hY a2 w2 h1 h2 h3 h4=>hQ e2 t2 H2 hY a2 w2 h1 h2 h3 (vx.trans h4)
 | exit id=>exact hQ _ t' H' ay a' w' hq lj gz vx
 | goto l=>exact hQ _ t' H' ay a' w' hq lj gz vx
 | ret=>exact hQ _ t' H' ay a' w' hq lj gz vx⟩
theorem bS.loop{P:Program}{n k:Nat}(m:Nat){b:Code}{t:aE}{H:List ai}{Q:fR->aE->List ai->Prop}(h:bS P n k m b t H Q):aM P n k (.loop b) t H Q:=
 ⟨fun F γ w a R hR hT hQ=>wp_loop_rounds m (h.out F γ w a R hR hT hQ)⟩

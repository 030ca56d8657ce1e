/- Part of the proof: SyD SyE. Conditions: as each states. -/
import Derived.Test.YtmbdghclhpboaaaGreatPw12
set_option linter.all false
namespace Go.Proofs.YtmbdghclhpboaaaGreat.Ev
def idxOf(o:Nat):List Nat->Nat->Option Nat
 | [],_=>none
 | j::ρ,i=>match Nat.beq o j with
   | true=>some i
   | false=>idxOf o ρ (i+1)
theorem je{o:Nat}:∀{ρ:List Nat} {i j:Nat},idxOf o ρ i=some j->i<=j/\ρ[j - i]?=some o
 | [],i,j,h=>by simp[idxOf] at h
 | x::ρ,i,j,h=>by
   simp only[idxOf] at h;split at h
   ·rename_i hb;cases h
    simp[Nat.eq_of_beq_eq_true hb]
   ·obtain ⟨h1,h2⟩:=je h;refine ⟨by omega,?_⟩;rw[show j - i=(j - (i+1))+1 by omega,List.getElem?_cons_succ];exact h2
theorem sq{o:Nat}:∀{ρ:List Nat} {i:Nat},idxOf o ρ i=none->o∉ρ
 | [],_,_=>by simp
 | x::ρ,i,h=>by
   simp only[idxOf] at h;split at h
   ·cases h
   ·rename_i hb;intro hm;rcases List.mem_cons.1 hm with rfl|hm
    ·simp at hb
    ·exact sq h hm
def EA(n:Nat)(ρ ks:List Nat)(o:Nat):Nat:=match Nat.blt o n with
 | true=>match idxOf o ρ 0 with
   | some i=>i
   | none=>vJ
 | false=>ks.getD (o - n) vJ
def pX(h:Nat->Nat)(ρ:List Nat)(fO:List af):Nat->List af->List af->List Nat->Prop
 | _,[],[],[]=>True
 | o,[],cT::H',j::ks=>(∃hO,fO[j]?=some hO/\rh hO (cT.cG h))/\pX h ρ fO (o+1) [] H' ks
 | o,ob::H,cT::H',ks=>(match idxOf o ρ 0 with
   | some i=>∃hO,fO[i]?=some hO/\rh hO (cT.cG h)
   | none=>rh ob cT)/\pX h ρ fO (o+1) H H' ks
 | _,_,_,_=>False
theorem p7{h:Nat->Nat}{ρ:List Nat}{fO:List af}:∀{o:Nat} {H H':List af} {ks:List Nat},pX h ρ fO o H H' ks->H'.length=H.length+ks.length
 | _,[],[],[],_=>rfl
 | o,[],_::H',j::ks,hb=>by have:=p7 hb.2;simp at this ⊢;omega
 | o,_::H,_::H',ks,hb=>by have:=p7 hb.2;simp at this ⊢;omega
 | _,[],[],_::_,hb=>hb.elim
 | _,[],_::_,[],hb=>hb.elim
 | _,_::_,[],_,hb=>hb.elim
theorem ku{h:Nat->Nat}{ρ:List Nat}{fO:List af}:∀{o:Nat} {H H':List af} {ks:List Nat},pX h ρ fO o H H' ks->∀(q:Nat) (cT:af),H'[q]?=some cT ->
  (q<H.length->(match idxOf (o+q) ρ 0 with
   | some i=>∃hO,fO[i]?=some hO/\rh hO (cT.cG h)
   | none=>∃ob,H[q]?=some ob/\rh ob cT)) /\
  (H.length<=q->∃j hO,ks[q - H.length]?=some j/\fO[j]?=some hO/\rh hO (cT.cG h))
 | o,[],[],[],_,q,cT,hq=>by simp at hq
 | o,[],x::H',j::ks,hb,0,cT,hq=>by
   simp at hq;subst hq;refine ⟨fun h=>by simp at h,fun _=>?_⟩;obtain ⟨hO,h1,h2⟩:=hb.1;exact ⟨j,hO,by simp,h1,h2⟩
 | o,[],x::H',j::ks,hb,q+1,cT,hq=>by
   have:=(ku hb.2 q cT (by simpa using hq)).2 (by simp);exact ⟨fun h=>by simp at h,fun _=>by simpa using this⟩
 | o,y::H,x::H',ks,hb,0,cT,hq=>by
   simp at hq;subst hq;refine ⟨fun _=>?_,fun h=>by simp at h⟩;have h1:=hb.1;rw[Nat.add_zero];split at h1
   ·exact h1
   ·exact ⟨y,by simp,h1⟩
 | o,y::H,x::H',ks,hb,q+1,cT,hq=>by
   obtain ⟨h1,h2⟩:=ku hb.2 q cT (by simpa using hq);refine ⟨fun hl=>?_,fun hl=>?_⟩
   ·have:=h1 (by simpa using hl);rw[show o+(q+1)=o+1+q by omega];split at this
    ·exact this
    ·simpa using this
   ·have:=h2 (by simpa using hl);simpa using this
 | _,[],[],_::_,hb,_,_,_=>hb.elim
 | _,[],_::_,[],hb,_,_,_=>hb.elim
 | _,_::_,[],_,hb,_,_,_=>hb.elim
def uH(ρ:List Nat):Nat->List aH->List aH
 | _,[]=>[]
 | o,r::L=>(match idxOf o ρ 0 with
   | some _=>aA
   | none=>r)::uH ρ (o+1) L
theorem Ad{ρ:List Nat}:∀{L:List aH} {o q:Nat},(uH ρ o L)[q]?=(L[q]?).map fun r=>match idxOf (o+q) ρ 0 with
  | some _=>aA
  | none=>r
 | [],_,_=>by simp[uH]
 | r::L,o,0=>by simp[uH]
 | r::L,o,q+1=>by
   simp only[uH,List.getElem?_cons_succ];rw[Ad,show o+1+q=o+(q+1) by omega]
theorem ur{o:Nat}:∀{ρ:List Nat} {i:Nat},o∈ρ->(idxOf o ρ i).isSome=true
 | x::ρ,i,h=>by
   simp only[idxOf];split
   ·rfl
   ·rename_i hb;rcases List.mem_cons.1 h with rfl|h
    ·simp at hb
    ·exact ur h
theorem Ip{ρ:List Nat}:∀{L:List aH} {q:Nat},(qG ρ L)[q]?=(L[q]?).map fun r=>match idxOf q ρ 0 with
  | some _=>aA
  | none=>r:=by
 have key:∀(ρ:List Nat) (L:List aH) (q:Nat),(qG ρ L)[q]?=if q∈ρ then (L[q]?).map fun _=>aA else L[q]?:=by
  intro ρ;induction ρ with
  | nil=>intro L q;simp[qG]
  | cons x ρ ih=>
    intro L q;simp only[qG];rw[ih,List.getElem?_set];by_cases e:x=q
    ·subst e;rcases Nat.lt_or_ge x L.length with h|h
     ·simp[h]
     ·simp[Nat.not_lt.2 h,List.getElem?_eq_none h]
    ·simp[e,Ne.symm e]
 intro L q;rw[key];by_cases h:q∈ρ
 ·rw[if_pos h];have:=ur (i:=0) h;obtain ⟨i,hi⟩:=Option.isSome_iff_exists.1 this;rw[hi]
 ·rw[if_neg h];have:idxOf q ρ 0=none:=by
   cases hi:idxOf q ρ 0 with
   | none=>rfl
   | some i=>
     obtain ⟨_,hj⟩:=je hi;exact absurd (List.mem_of_getElem? hj) h
  rw[this];simp
theorem Io(ρ:List Nat)(L:List aH):qG ρ L=uH ρ 0 L:=by
 apply List.ext_getElem?;intro q;rw[Ip,Ad,Nat.zero_add]
theorem sY{h:Nat->Nat}{ρ:List Nat}{fO:List af}{w:World}:∀{H':List af} {o:Nat} {H:List af} {ks:List Nat} {L0:List aH} {T0 T1:Nat->Prop},pX h ρ fO o H H' ks->ks.Nodup->(∀j∈ks,ρ.length<=j) ->
  (∀q i,o<=q->idxOf q ρ 0=some i->L0[i]?=(cC fO)[i]?)->(∀j∈ks,L0[j]?=(cC fO)[j]?)->bw L0 w T0->bw (uH ρ o (cC H)) w T1->(∀b,T0 b->T1 b->False)->∃T,(∀b,T b->T0 b\/T1 b)/\bw (cC H') w T
 | [],_,[],[],_,_,_,_,_,_,_,_,_,_,_=>⟨fun _=>False,fun _ h=>h.elim,fun _ h=>h⟩
 | cT::H',o,[],j::ks,L0,T0,T1,hb,hn,hk,hA,hB,h0,h1,hd=>by
   obtain ⟨⟨hO,a1,a2⟩,a3⟩:=hb;have hj:L0[j]?=some (kh hO):=by rw[hB j (by simp)];unfold cC;rw[List.getElem?_map,a1];rfl
   obtain ⟨S1,S2,b1,b2,b3,b4⟩:=db h0 hj;have mP:=List.nodup_cons.1 hn;obtain ⟨T,c1,c2⟩:=sY (L0:=L0.set j aA) a3 mP.2 (fun i hi=>hk i (List.mem_cons_of_mem _ hi)) (fun q i hq hi=>by
    rw[List.getElem?_set,if_neg]
    ·exact hA q i (by omega) hi
    ·intro e;obtain ⟨_,e1⟩:=je hi;have:=(List.getElem?_eq_some_iff.1 e1).1;have:=hk j (by simp);omega) (fun i hi=>by
    rw[List.getElem?_set,if_neg (fun e=>mP.1 (by rw[e];exact hi))];exact hB i (List.mem_cons_of_mem _ hi)) b2 h1 (fun b x y=>hd b ((b4 b).2 (.inr x)) y)
   have hr:=a2.eq.2 w S1 b1;rw[xV] at hr;refine ⟨fun b=>S1 b\/T b,fun b hb=>?_,S1,T,hr,c2,fun b x y=>?_,fun b=>Iff.rfl⟩
   ·rcases hb with hb|hb
    ·exact .inl ((b4 b).2 (.inl hb))
    ·exact (c1 b hb).imp (fun h=>(b4 b).2 (.inr h)) id
   ·rcases c1 b y with y|y
    ·exact b3 b x y
    ·exact hd b ((b4 b).2 (.inl x)) y
 | cT::H',o,ob::H,ks,L0,T0,T1,hb,hn,hk,hA,hB,h0,h1,hd=>by
   obtain ⟨a1,a3⟩:=hb;obtain ⟨A,B,d1,d2,d3,d4⟩:=h1;cases hi:idxOf o ρ 0 with
   | none=>
     rw[hi] at a1 d1;simp only[] at a1 d1;obtain ⟨T,c1,c2⟩:=sY a3 hn hk (fun q i hq=>hA q i (by omega)) hB h0 d2 (fun b x y=>hd b x ((d4 b).2 (.inr y)));refine ⟨fun b=>A b\/T b,fun b hb=>?_,A,T,a1.eq.2 w A d1,c2,fun b x y=>?_,fun b=>Iff.rfl⟩
     ·rcases hb with hb|hb
      ·exact .inr ((d4 b).2 (.inl hb))
      ·exact (c1 b hb).imp id (fun h=>(d4 b).2 (.inr h))
     ·rcases c1 b y with y|y
      ·exact hd b y ((d4 b).2 (.inl x))
      ·exact d3 b x y
   | some i=>
     rw[hi] at a1;simp only[] at a1;obtain ⟨hO,e1,e2⟩:=a1;have hj:L0[i]?=some (kh hO):=by rw[hA o i (Nat.le_refl _) hi];unfold cC;rw[List.getElem?_map,e1];rfl
     obtain ⟨S1,S2,b1,b2,b3,b4⟩:=db h0 hj;obtain ⟨_,e3⟩:=je hi;rw[Nat.sub_zero] at e3;obtain ⟨T,c1,c2⟩:=sY (L0:=L0.set i aA) a3 hn hk (fun q i' hq j4=>by
      rw[List.getElem?_set,if_neg]
      ·exact hA q i' (by omega) j4
      ·intro e;obtain ⟨_,e4⟩:=je j4;rw[Nat.sub_zero,<-e,e3] at e4;have:=Option.some.inj e4;omega) (fun j hj=>by
      rw[List.getElem?_set,if_neg]
      ·exact hB j hj
      ·intro e;have:=(List.getElem?_eq_some_iff.1 e3).1;have:=hk j hj;omega) b2 d2 (fun b x y=>hd b ((b4 b).2 (.inr x)) ((d4 b).2 (.inr y)))
     have hr:=e2.eq.2 w S1 b1;rw[xV] at hr;refine ⟨fun b=>S1 b\/T b,fun b hb=>?_,S1,T,hr,c2,fun b x y=>?_,fun b=>Iff.rfl⟩
     ·rcases hb with hb|hb
      ·exact .inl ((b4 b).2 (.inl hb))
      ·exact (c1 b hb).imp (fun h=>(b4 b).2 (.inr h)) (fun h=>(d4 b).2 (.inr h))
     ·rcases c1 b y with y|y
      ·exact b3 b x y
      ·exact hd b ((b4 b).2 (.inl x)) ((d4 b).2 (.inr y))
 | [],_,[],_::_,_,_,_,hb,_,_,_,_,_,_,_=>hb.elim
 | _::_,_,[],[],_,_,_,hb,_,_,_,_,_,_,_=>hb.elim
 | [],_,_::_,_,_,_,_,hb,_,_,_,_,_,_,_=>hb.elim
structure VT(ρ ks:List Nat)(H H' fO:List af)(v v0:AV):Prop where
 FY:(eg ks&&ks.all (fun j=>Nat.ble ρ.length j)&&Nat.ble H'.length aU)=true
 val:v0=v.cG (EA H.length ρ ks)
 uu:pX (EA H.length ρ ks) ρ fO 0 H H' ks
theorem GG{n:Nat}{ρ ks:List Nat}{o:Nat}(h:o<n):EA n ρ ks o=match idxOf o ρ 0 with
  | some i=>i
  | none=>vJ:=by
 unfold EA;rw[show Nat.blt o n=true from Nat.ble_eq_true_of_le h]
theorem NL{n:Nat}{ρ ks:List Nat}{o:Nat}(h:n<=o):EA n ρ ks o=ks.getD (o - n) vJ:=by
 unfold EA;cases hb:Nat.blt o n with
 | true=>exact absurd (gA hb) (by omega)
 | false=>rfl
def yx(w:World)(γ:aK)(T:Nat->Prop):di:=⟨w,fun b=>b<w.heap.size/\¬T b/\∀o p,γ o=some (some p)->p.block≠b⟩
theorem Gv(w:World)(γ:aK)(T:Nat->Prop):Frame (yx w γ T) γ w:=⟨rfl,rfl,rfl,Nat.le_refl _,fun b h=>h.1,fun _ _=>rfl,fun o p hp h=>h.2.2 o p hp rfl⟩
theorem ag.sub{P:Program}{S:List Nat}{f:Nat}{args0 args:List AV}{H0 H:List af}{K0 K:AV->List af->Prop}(c:nJ P f args0 H0 K0)(ρ:List Nat)(gR:args=AV.ff (ef ρ) args0)(lp:(eg ρ&&Nat.ble H0.length aU&&ρ.all (fun i=>!n8 S i))=true)(pa:nL (ef ρ) H ρ H0)
  (hK:∀v0 fO,K0 v0 fO->∃v H' ks,VT ρ ks H H' fO v v0/\K v H'):ag P S f args H K:=⟨fun F γ w xs hR cx cJ gw=>by
 simp only[Bool.and_eq_true] at lp;have mP:=jj lp.1.1;have hlen:=nI pa;have hS:∀i,i<ρ.length->γ (ef ρ i)≠none:=fun i hi=>by
  have h5:=List.all_eq_true.1 lp.2 _ (List.getElem_mem hi);have h6:ρ[i]∉S:=fun hm=>by rw[tn.2 hm] at h5;cases h5
  obtain ⟨j,cT,a1,a2,_⟩:=nH pa i _ (List.getElem?_eq_getElem (by omega));rw[List.getElem?_eq_getElem hi] at a1;cases a1
  rw[lj hi];exact cx _ (List.getElem?_eq_some_iff.1 a2).1 h6
 have hR0':=hR.sub pa lp.1.1 lp.1.2;obtain ⟨γ0,AY⟩:∃γ0:aK,γ0=fun o=>γ (ef ρ o):=⟨_,rfl⟩;rw[<-AY] at hR0';have Oc:∀o,o<H0.length->γ0 o≠none:=fun o ho=>by rw[AY];exact hS o (by omega)
 have mX:∀o p,γ0 o=some (some p)->∃q,γ q=some (some p):=fun o p hp=>⟨ef ρ o,by rw[AY] at hp;exact hp⟩;obtain ⟨T,t1,t2⟩:=cJ.out;obtain ⟨T1,T2,p1,p2,p3,p4⟩:=vA pa mP (fun _ _=>rfl) w T t1;rw[Io] at p2;have Cl:aL (yx w γ0 T1) γ0 (hp H0) w:=⟨hR0'.toRel,hR0'.live,Gv _ _ _⟩;have GZ:Rs (yx w γ0 T1) γ0 H0 w:=⟨T1,p1,fun b hb=>⟨fun h=>h.2.1 hb,fun o p hp e=>(t2 b (p4 b (.inl hb))).2 _ p (by rw[AY] at hp;exact hp) e⟩⟩;have Om:az γ0 args0 xs.toList:=by
  rw[AY];rw[gR] at gw;exact (eK args0 _).1 gw
 obtain ⟨h1,h2⟩:=c.out (yx w γ0 T1) γ0 w xs Cl (fun o ho _=>Oc o ho) GZ Om;refine ⟨h1,fun R fj=>h2 R fun v0 fO Ce x w' hk hx hA=>?_⟩;have fq:Rl (yx w γ0 T1) Ce fO w':=hA.rl;have lN:=hA.step.ext;obtain ⟨v,H',ks,hb,sa⟩:=hK v0 fO hk;have GN:=hb.FY;simp only[Bool.and_eq_true] at GN;have hlen':=p7 hb.uu;have ED:=lT fq.rel;obtain ⟨h,hh⟩:∃h,h=EA H.length ρ ks:=⟨_,rfl⟩;have sn:=hb.val;have hobj':=hb.uu;rw[<-hh] at sn hobj';obtain ⟨aq,Oo⟩:∃aq:aK,aq=fun o=>match Nat.blt o H.length,idxOf o ρ 0 with
   | true,none=>γ o
   | _,_=>Ce (h o):=⟨_,rfl⟩
 have g1:∀o,o<H.length->idxOf o ρ 0=none->aq o=γ o:=fun o ho hi=>by
  rw[Oo];simp only[show Nat.blt o H.length=true from Nat.ble_eq_true_of_le ho,hi]
 have g2:∀o i,o<H.length->idxOf o ρ 0=some i->aq o=Ce i/\h o=i/\i<ρ.length/\γ0 i=γ o:=fun o i ho hi=>by
  have e:h o=i:=by rw[hh,GG ho,hi]
  obtain ⟨_,hj⟩:=je hi;rw[Nat.sub_zero] at hj;have ah:=(List.getElem?_eq_some_iff.1 hj).1;refine ⟨by rw[Oo];simp only[hi,e];cases Nat.blt o H.length<;>rfl,e,ah,?_⟩;rw[AY];simp only[lj ah];rw[List.getElem?_eq_getElem ah] at hj;rw[Option.some.inj hj]
 have g3:∀o,H.length<=o->aq o=Ce (h o)/\h o=ks.getD (o - H.length) vJ:=fun o ho=>by
  have e:Nat.blt o H.length=false:=by
   cases hb:Nat.blt o H.length with
   | true=>exact absurd (gA hb) (by omega)
   | false=>rfl
  exact ⟨by rw[Oo];simp only[e],by rw[hh,NL ho]⟩
 have cls:∀o p,aq o=some p->(o<H.length/\idxOf o ρ 0=none/\γ o=some p)\/(Ce (h o)=some p/\o<H'.length/\((o<H.length/\h o<ρ.length/\ρ[h o]?=some o)\/(H.length<=o/\ks[o - H.length]?=some (h o)))):=fun o p hp=>by
  rcases Nat.lt_or_ge o H.length with ho|ho
  ·cases hi:idxOf o ρ 0 with
   | none=>exact .inl ⟨ho,rfl,by rw[<-g1 o ho hi];exact hp⟩
   | some i=>
     obtain ⟨e1,e2,e3,_⟩:=g2 o i ho hi;obtain ⟨_,hj⟩:=je hi;rw[Nat.sub_zero] at hj;exact .inr ⟨by rw[e2,<-e1];exact hp,by omega,.inl ⟨ho,by omega,by rw[e2];exact hj⟩⟩
  ·obtain ⟨e1,e2⟩:=g3 o ho;rw[e1] at hp;refine .inr ⟨hp,?_⟩;rcases Nat.lt_or_ge (o - H.length) ks.length with LN|LN
   ·have e3:ks[o - H.length]?=some (h o):=by rw[e2,List.getElem?_eq_getElem LN];simp[List.getD,LN]
    exact ⟨by omega,.inr ⟨ho,e3⟩⟩
   ·have e3:h o=vJ:=by rw[e2];simp[List.getD,LN]
    rw[e3,ED] at hp;cases hp
 have NX:∀q p,Ce (h q)=some p->aq q=some p\/aq q=some none:=fun q p hq=>by
  rcases Nat.lt_or_ge q H.length with ho|ho
  ·cases hi:idxOf q ρ 0 with
   | none=>
     have e:h q=vJ:=by rw[hh,GG ho,hi]
     rw[e,ED] at hq;cases hq
   | some i=>
     obtain ⟨e1,e2,_,_⟩:=g2 q i ho hi;exact .inl (by rw[e1,<-e2];exact hq)
  ·exact .inl (by rw[(g3 q ho).1];exact hq)
 have hext':Ext γ aq:=fun o p hp=>by
  have ho:o<H.length:=by
   rcases Nat.lt_or_ge o H.length with h5|h5
   ·exact h5
   ·rw[hR.jv o h5] at hp;cases hp
  cases hi:idxOf o ρ 0 with
  | none=>exact .inl (by rw[g1 o ho hi];exact hp)
  | some i=>
    obtain ⟨e1,_,_,e4⟩:=g2 o i ho hi;rw[e1];exact lN i p (by rw[e4];exact hp)
 have sh:∀o p,aq o=some p->∃cT,H'[o]?=some cT/\((o<H.length/\idxOf o ρ 0=none/\γ o=some p/\∃ob,H[o]?=some ob/\vw cT=vw ob)\/(Ce (h o)=some p/\∃hO,fO[h o]?=some hO/\vw hO=(vw cT).cG h)):=fun o p hp=>by
  rcases cls o p hp with ⟨ho,hi,bN⟩|⟨bN,ah,hc⟩
  ·have o5:H'[o]?=some H'[o]:=List.getElem?_eq_getElem (by omega);have:=(ku hobj' o _ o5).1 ho;rw[Nat.zero_add,hi] at this;obtain ⟨ob,c1,c2⟩:=this;exact ⟨_,o5,.inl ⟨ho,hi,bN,ob,c1,c2.eq.1.symm⟩⟩
  ·have o5:H'[o]?=some H'[o]:=List.getElem?_eq_getElem ah;refine ⟨_,o5,.inr ⟨bN,?_⟩⟩;rcases hc with ⟨ho,_,hr⟩|⟨ho,hks⟩
   ·have:=(ku hobj' o _ o5).1 ho;rw[Nat.zero_add] at this;cases hi:idxOf o ρ 0 with
    | none=>exact absurd (List.mem_of_getElem? hr) (sq hi)
    | some i=>
      rw[hi] at this;obtain ⟨hO,a1,a2⟩:=this;obtain ⟨_,e2,_,_⟩:=g2 o i ho hi;exact ⟨hO,by rw[e2];exact a1,by rw[a2.eq.1,FA]⟩
   ·obtain ⟨j,hO,a1,a2,a3⟩:=(ku hobj' o _ o5).2 ho;rw[hks] at a1;cases a1
    exact ⟨hO,a2,by rw[a3.eq.1,FA]⟩
 have hlim':H'.length<=aU:=Nat.le_of_ble_eq_true GN.2;have jb:=fq.rel.frame;have LK:∀b,F.fz b->(yx w γ0 T1).fz b:=fun b hb=>⟨Nat.lt_of_lt_of_le (hR.frame.fV b hb) hR.frame.size,fun h=>(t2 b (p4 b (.inl h))).1 hb,fun o p hp e=>by
  obtain ⟨q,hq⟩:=mX o p hp;exact hR.frame.own q p hq (by rw[e];exact hb)⟩
 have qY:∀o p,o<H.length->idxOf o ρ 0=none->γ o=some (some p)->(yx w γ0 T1).fz p.block:=fun o p ho hi hp=>
  ⟨hR.lt hp,fun h=>(t2 _ (p4 _ (.inl h))).2 o p hp rfl,fun q p' hq e=>by
   have eN:=hq;rw[AY] at eN;have:=hR.inj _ _ p' p eN hp e;have Cs:q<ρ.length:=by
    rcases Nat.lt_or_ge q ρ.length with h5|h5
    ·exact h5
    ·simp only[] at eN;rw[vV h5,lT hR] at eN;cases eN
   rw[lj Cs] at this;exact sq hi (by rw[<-this];exact List.getElem_mem _)⟩
 refine fj v H' aq x w' sa ?_ ⟨⟨⟨fun o ho=>?_,fun o p hp=>?_,fun o ho=>?_,fun o o' p p' hp bN e=>?_,hlim'⟩,fun o p hp=>?_,?_⟩,⟨hext',fun o ho hg=>?_,by show H.length<=H'.length;omega,fun o ho hg=>?_⟩,fun o ho Xl=>?_,?_⟩
 ·rw[sn] at hx;exact ((eJ v x).1 hx).mono (fun q r hq=>NX q r hq) _ _
 ·have ho:H'.length<=o:=ho;cases hp:aq o with
  | none=>rfl
  | some p=>
    obtain ⟨cT,a1,_⟩:=sh o p hp;have:=(List.getElem?_eq_some_iff.1 a1).1;omega
 ·obtain ⟨cT,a1,a2⟩:=sh o _ hp;refine ⟨vw cT,by rw[aT hlim',a1];rfl,?_⟩;rcases a2 with ⟨ho,hi,bN,ob,a3,a4⟩|⟨bN,hO,a3,a4⟩
  ·obtain ⟨XL,b1,b2⟩:=hR.obj o p bN;rw[aT hR.aU,a3] at b1;cases b1
   rw[a4];exact b2.mono hext' (jb.block _ (qY o p ho hi bN))
  ·obtain ⟨XL,b1,b2⟩:=fq.rel.obj _ p bN;rw[aT fq.rel.aU,a3] at b1;cases b1
   rw[a4] at b2;exact (yG.1 b2).mono (fun q r hq=>NX q r hq) rfl
 ·obtain ⟨cT,a1,a2⟩:=sh o _ ho;rw[aT hlim',a1];simp only[Option.map_some,Option.some.injEq];rcases a2 with ⟨N7,hi,bN,ob,a3,a4⟩|⟨bN,hO,a3,a4⟩
  ·have b1:=hR.gone o bN;rw[aT hR.aU,a3] at b1;rw[a4];simpa using b1
  ·have b1:=fq.rel.gone _ bN;rw[aT fq.rel.aU,a3] at b1;simp only[Option.map_some,Option.some.injEq] at b1;rw[b1] at a4;exact Dy a4.symm
 ·rcases cls o _ hp with ⟨ho,hi,hq⟩|⟨hq,ah,hc⟩<;>rcases cls o' _ bN with ⟨N7,j4,eN⟩|⟨eN,hlt',xx⟩
  ·exact hR.inj o o' p p' hq eN e
  ·have:=qY o p ho hi hq;rw[e] at this;exact absurd this (jb.own _ p' eN)
  ·have:=qY o' p' N7 j4 eN;rw[<-e] at this;exact absurd this (jb.own _ p hq)
  ·have e1:=fq.rel.inj _ _ p p' hq eN e;rcases hc with ⟨_,_,hr⟩|⟨hge,hks⟩<;>rcases xx with ⟨_,_,Oe⟩|⟨hge',hks'⟩
   ·rw[e1] at hr;rw[hr] at Oe;exact Option.some.inj Oe
   ·exfalso;have h5:=List.all_eq_true.1 GN.1.2 _ (List.mem_of_getElem? hks');have:=Nat.le_of_ble_eq_true h5;have:=(List.getElem?_eq_some_iff.1 hr).1;omega
   ·exfalso;have h5:=List.all_eq_true.1 GN.1.2 _ (List.mem_of_getElem? hks);have:=Nat.le_of_ble_eq_true h5;have:=(List.getElem?_eq_some_iff.1 Oe).1;omega
   ·rw[e1] at hks;obtain ⟨l1,e2⟩:=List.getElem?_eq_some_iff.1 hks;obtain ⟨l2,e3⟩:=List.getElem?_eq_some_iff.1 hks';have:=vc (jj GN.1.1) l1 l2 (by rw[e2,e3]);omega
 ·obtain ⟨cT,a1,a2⟩:=sh o _ hp;rw[aT hlim',a1];intro hd;simp only[Option.map_some,Option.some.injEq] at hd;rcases a2 with ⟨N7,hi,bN,ob,a3,a4⟩|⟨bN,hO,a3,a4⟩
  ·have b1:=hR.live o p bN;rw[aT hR.aU,a3] at b1;exact b1 (by rw[<-hd,a4];rfl)
  ·have b1:=fq.rel.live _ p bN;rw[aT fq.rel.aU,a3] at b1;exact b1 (by simp only[Option.map_some,a4,hd];rfl)
 ·have hF:=hR.frame;refine ⟨jb.os.trans hF.os,jb.tape.trans hF.tape,jb.output.trans hF.output,Nat.le_trans hF.size jb.size,hF.fV,fun b hb=>(jb.block b (LK b hb)).trans (hF.block b hb),fun o p hp hz=>?_⟩;rcases cls o _ hp with ⟨ho,hi,hq⟩|⟨hq,_,_⟩
  ·exact hF.own o p hq hz
  ·exact jb.own _ p hq (LK _ hz)
 ·have ho:o<H.length:=ho;cases hi:idxOf o ρ 0 with
  | none=>rw[g1 o ho hi];exact hg
  | some i=>
    obtain ⟨_,_,e3,e4⟩:=g2 o i ho hi;exact absurd (e4.trans hg) (Oc i (by omega))
 ·have ho:o<H.length:=ho;cases hi:idxOf o ρ 0 with
  | none=>
    have o5:H'[o]?=some H'[o]:=List.getElem?_eq_getElem (by omega);have:=(ku hobj' o _ o5).1 ho;rw[Nat.zero_add,hi] at this;obtain ⟨ob,a1,a2⟩:=this;rw[aT hlim',aT hR.aU,o5,a1];simp only[Option.map_some,a2.eq.1]
  | some i=>
    obtain ⟨_,_,e3,e4⟩:=g2 o i ho hi;exact absurd (e4.trans hg) (Oc i (by omega))
 ·intro hn;rcases Nat.lt_or_ge o H.length with h5|h5
  ·cases hi:idxOf o ρ 0 with
   | none=>rw[g1 o h5 hi] at hn;exact cx o h5 Xl hn
   | some i=>
     obtain ⟨e1,_,e3,e4⟩:=g2 o i h5 hi;rw[e1] at hn;cases hg:γ o with
     | none=>exact cx o h5 Xl hg
     | some p=>rcases lN i p (by rw[e4];exact hg) with h6|h6<;>rw[h6] at hn<;>cases hn
  ·have o5:H'[o]?=some H'[o]:=List.getElem?_eq_getElem ho;obtain ⟨j,hO,a1,a2,a3⟩:=(ku hobj' o _ o5).2 h5;obtain ⟨e1,e2⟩:=g3 o h5;have e3:h o=j:=by rw[e2];simp[List.getD,a1]
   rw[e1,e3] at hn;exact fq.pl j (List.getElem?_eq_some_iff.1 a2).1 hn
 ·obtain ⟨Yy,r1,r2⟩:=hA.rs.out;have lY:∀b,T2 b->(yx w γ0 T1).fz b:=fun b hb=>⟨iJ p2 hb,fun h=>p3 b h hb,fun o p hp e=>by
   obtain ⟨q,hq⟩:=mX o p hp;exact (t2 b (p4 b (.inr hb))).2 q p hq e⟩
  obtain ⟨T',q1,q2⟩:=sY (w:=w') (L0:=cC fO) (T0:=Yy) (T1:=T2) hobj' (jj GN.1.1) (fun j hj=>Nat.le_of_ble_eq_true (List.all_eq_true.1 GN.1.2 j hj)) (fun _ _ _ _=>rfl) (fun _ _=>rfl) r1 (il p2 fun b hb=>jb.block b (lY b hb)) (fun b x y=>(r2 b x).1 (lY b y));refine ⟨T',q2,fun b hb=>?_⟩;rcases q1 b hb with hb|hb
  ·refine ⟨fun h=>(r2 b hb).1 (LK b h),fun o p hp e=>?_⟩;rcases cls o _ hp with ⟨ho,hi,hq⟩|⟨hq,_,_⟩
   ·exact (r2 b hb).1 (by rw[<-e];exact qY o p ho hi hq)
   ·exact (r2 b hb).2 _ p hq e
  ·refine ⟨(t2 b (p4 b (.inr hb))).1,fun o p hp e=>?_⟩;rcases cls o _ hp with ⟨ho,hi,hq⟩|⟨hq,_,_⟩
   ·exact (t2 b (p4 b (.inr hb))).2 o p hq e
   ·exact jb.own _ p hq (by rw[e];exact lY b hb)⟩
theorem ag.mono{P:Program}{S:List Nat}{f:Nat}{args:List AV}{H:List af}{K K':AV->List af->Prop}(c:ag P S f args H K)(h:∀v H',K v H'->K' v H'):ag P S f args H K':=
 ⟨fun F γ w xs hR cx cJ gw=>⟨(c.out F γ w xs hR cx cJ gw).1,fun R hq=>(c.out F γ w xs hR cx cJ gw).2 R fun v H' aq x w' h1 h2 h3=>hq v H' aq x w' (h _ _ h1) h2 h3⟩⟩
theorem ve(a:af):rh a a:=by cases a<;>first|rfl|exact fun _ _ h=>h
theorem yg{h:Nat->Nat}{fO:List af}:∀(H:List af) (o:Nat),pX h [] fO o H H []
 | [],_=>trivial
 | _::H,o=>⟨ve _,yg H (o+1)⟩
theorem ag.pure{P:Program}{S:List Nat}{f:Nat}{args:List AV}{H:List af}{K:AV->List af->Prop}{v:AV}(c:nJ P f args [] (fun u _=>u=v))(ha:∀g,AV.ff g args=args)(hv:∀g,v.cG g=v)(hk:K v H):ag P S f args H K:=
 ⟨fun F γ w xs hR cx cJ gw=>(c.sub (S:=S) (H:=H) (K:=K) [] (ha _).symm rfl trivial fun v0 fO h=>⟨v,H,[],⟨by simp[eg];exact hR.aU,by rw[h,hv],yg H 0⟩,hk⟩).out F γ w xs hR cx cJ gw⟩
end Go.Proofs.YtmbdghclhpboaaaGreat.Ev
namespace Go.Proofs.YtmbdghclhpboaaaGreat.Ev
open Go.RowKit
theorem df.agg{xs:List Value}{off size:Nat}{K:AV->Prop}(cs:List Value)(h1:off+size<=xs.length)(h2:(xs.drop off).take size=cs)(k:K (.agg (cs.map .lit))):df xs off size true K:=
 ⟨.agg (cs.map .lit),by simp only[h1,if_true,Option.some.injEq,AV.agg.injEq];rw[<-List.map_drop,<-List.map_take,h2],k⟩
theorem df.one{xs:List Value}{off size:Nat}{K:AV->Prop}(x:Value)(h:xs[off]?=some x)(k:K (.lit x)):df xs off size false K:=
 ⟨.lit x,by simp[h],k⟩
theorem eL{α:Type}{enc:α->List Value}{k:Nat}(hk:∀a,(enc a).length=k):∀l:List α,(l.flatMap enc).length=l.length * k
 | []=>by simp
 | a::l=>by simp only[List.flatMap_cons,List.length_append,List.length_cons,hk,eL hk l,Nat.add_mul];omega
theorem rS{α:Type}{enc:α->List Value}{k:Nat}(hk:∀a,(enc a).length=k):∀(l:List α) (i:Nat) (hi:i<l.length),((l.flatMap enc).drop (i * k)).take k=enc l[i]
 | [],i,hi=>absurd hi (by simp)
 | a::l,0,_=>by
   simp only[Nat.zero_mul,List.drop_zero,List.flatMap_cons,List.getElem_cons_zero];rw[List.take_append_of_le_length (by rw[hk];exact Nat.le_refl _),List.take_of_length_le (by rw[hk];exact Nat.le_refl _)]
 | a::l,i+1,hi=>by
   have h1:(i+1) * k=(enc a).length+i * k:=by rw[hk,Nat.add_mul];omega
   rw[List.flatMap_cons,h1,List.drop_append,List.drop_of_length_le (Nat.le_add_right _ _),List.nil_append,Nat.add_sub_cancel_left];exact rS hk l i (by simpa using hi)
theorem df.elem{α:Type}{enc:α->List Value}{size:Nat}{K:AV->Prop}(hk:∀a,(enc a).length=size){l:List α}{i:Nat}(hi:i<l.length)(k:K (.agg ((enc l[i]).map .lit))):df (l.flatMap enc) (0+i * size) size true K:=
 df.agg (enc l[i]) (by
  rw[eL hk,Nat.zero_add];have:(i+1) * size<=l.length * size:=Nat.mul_le_mul_right _ hi;rw[Nat.add_mul] at this;omega) (by rw[Nat.zero_add];exact rS hk l i hi) k
theorem df.val{α:Type}{f:α->Value}{K:AV->Prop}{l:List α}{i:Nat}(hi:i<l.length)(k:K (.lit (f l[i]))):df (l.map f) (0+i * 1) 1 false K:=
 df.one (f l[i]) (by simp[hi]) k
def mS:List AV->Option (List Value)
 | []=>some []
 | .lit x::l=>match mS l with
   | some xs=>some (x::xs)
   | none=>none
 | _=>none
theorem nC:∀{l:List AV} {xs:List Value},mS l=some xs->l=xs.map .lit
 | [],_,h=>by cases h;rfl
 | v::l,xs,h=>by
   cases v with
   | lit x=>
     simp only[mS] at h;split at h
     ·rename_i ys hy;cases h
      simp[nC hy]
     ·cases h
   | _=>simp[mS] at h
structure jE(E:Env)(ty elem size:Nat):Prop where
 ty:∃r,E.ty ty=some r/\r.bg=.slice elem
 el:∃er z,E.ty elem=some er/\er.info.size=size/\er.info.zero=some z/\(ofValue z).cells.length=size/\er.info.bytes<=65536
section
variable{E:Env}{P:Program}{m:Bool}{S:List Nat}{t:ax}{cl:Call}{ty elem size:Nat}{H:List af}{K:AV->List af->Prop}
theorem uP{ox:Nat}{c:o0}{l:List AV}{e:TypeId}(hl:H.length<=aU)(hx:H[ox]?=some (.cells l e))(hn:Nat.beq l.length size=true):iS (hp H) size (0+1) (.slice ox 0 1 c)=some l:=by
 have hn:=Nat.eq_of_beq_eq_true hn;simp only[iS];rw[aT hl,hx];simp only[Option.map_some,vw,Nat.zero_add,Nat.one_mul,List.drop_zero];rw[show Nat.ble size l.length=true from Nat.ble_eq_true_of_le (by omega)];simp only[Bool.true_and];first
  | (rw[show Nat.ble 1 1=true from rfl];simp only[];rw[List.take_of_length_le (by omega)])
  | rw[List.take_of_length_le (by omega)]
theorem dP.nil(hA:jE E ty elem size){ox:Nat}{c:o0}{l:List AV}{e:TypeId}{ys:List Value}(eO:Nat.blt H.length aU=true)(hx:H[ox]?=some (.cells l e))(hl:mS l=some ys)(hn:Nat.beq l.length size=true)(h1:l.all AV.one=true)
  (k:pg H (.row ys elem) fun H'=>oc (qb H 0) fun n=>K (.slice n 0 1 (.grown size)) H'):dP E P m S t cl ty (.lit (.slice none 0 0)) (.slice ox 0 1 c) H K:=by
 obtain ⟨r,hr,hu⟩:=hA.ty;obtain ⟨er,z,he,hs,hz,hc,hb⟩:=hA.el;have ah:=gA eO;rw[kQ,iE,lf,Nat.zero_add] at k;refine ⟨.inl ⟨.slice H.length 0 (0+(0+1)) (.grown size),{ heap:=(hp H).heap.put H.length (.cells l elem),next:=H.length+1 },_,?_,?_,?_,pv rfl,k⟩⟩
 ·have hf:=uP (size:=size) (c:=c) (Nat.le_of_lt ah) hx hn;simp only[mw,hr,hu,he,ir,hs,hf,hz];have e1:iS (hp H) size 0 (.lit (.slice none 0 0))=some []:=rfl;rw[e1];simp only[Au,Bool.not_false,Bool.and_true];rw[show Nat.ble ((0+(0+1)) * er.info.bytes) 140737488355328=true from Nat.ble_eq_true_of_le (by omega),show Nat.ble (0+(0+1)) 4611686018427387904=true from rfl,show Nat.ble er.info.bytes 65536=true from Nat.ble_eq_true_of_le hb,show Nat.blt (hp H).next aU=true from eO,hc,h1];rw[show Nat.beq size size=true from Nat.beq_refl _,show Nat.beq ([]:List AV).length (0 * size)=true by rw[Nat.zero_mul];rfl,show Nat.beq l.length ((0+1) * size)=true by rw[Nat.zero_add,Nat.one_mul];exact hn];rfl
 ·refine ⟨by simp,fun o=>?_⟩;simp only[];rw[T.bH _ _ _ _ (Nat.le_of_lt ah),aT (Nat.le_of_lt ah)];by_cases e:o=H.length
  ·subst e;rw[if_pos rfl];simp[vw,nC hl]
  ·rw[if_neg e];rcases Nat.lt_or_ge o H.length with h5|h5
   ·rw[List.getElem?_append_left h5]
   ·rw[List.getElem?_eq_none h5,List.getElem?_eq_none (by simp;omega)]
 ·simp[qm]
theorem dP.own(hA:jE E ty elem size){o len ox:Nat}{c:o0}{l:List AV}{e:TypeId}{xs ys:List Value}(eO:Nat.blt H.length aU=true)(ho:H[o]?=some (.row xs elem))(hx:H[ox]?=some (.cells l e))(hl:mS l=some ys)(hn:Nat.beq l.length size=true)(h1:l.all AV.one=true)
  (gw:xs.length=len * size) (hlen:len+1<=2147483648)
  (k:lS H o .dead fun H1=>pg H1 (.row (xs++ys) elem) fun H'=>oc (qb H 0) fun n=>K (.slice n 0 (len+1) (.grown size)) H'):dP E P m S t cl ty (.slice o 0 len (.grown size)) (.slice ox 0 1 c) H K:=by
 obtain ⟨r,hr,hu⟩:=hA.ty;obtain ⟨er,z,he,hs,hz,hc,hb⟩:=hA.el;have ah:=gA eO;have rj:=(List.getElem?_eq_some_iff.1 ho).1;rw[ki,kQ,iE,lf,Nat.zero_add] at k;refine ⟨.inl ⟨.slice H.length 0 (len+(0+1)) (.grown size),{ heap:=((hp H).heap.put o .dead).put H.length (.cells (xs.map .lit++l) elem),next:=H.length+1 },_,?_,?_,?_,(bc.of_eq (pP (ob:=.dead) ho rfl).symm).trans (pv (ob:=.row (xs++ys) elem) rfl),k⟩⟩
 ·have hf:=uP (size:=size) (c:=c) (Nat.le_of_lt ah) hx hn;have e1:iS (hp H) size len (.slice o 0 len (.grown size))=some (xs.map .lit):=by
   cases len with
   | zero=>
     have:xs=[]:=List.eq_nil_of_length_eq_zero (by omega);subst this;rfl
   | succ len=>
     simp only[iS];rw[aT (Nat.le_of_lt ah),ho];simp only[Option.map_some,vw,Nat.zero_add,List.drop_zero,List.length_map];rw[show Nat.ble ((len+1) * size) xs.length=true from Nat.ble_eq_true_of_le (by omega),show Nat.ble (len+1) (len+1)=true from Nat.ble_eq_true_of_le (Nat.le_refl _)];simp only[Bool.and_self];rw[List.take_of_length_le (by simp;omega)]
  simp only[mw,hr,hu,he,ir,hs,hf,e1,hz];simp only[Au,Bool.not_false,Bool.and_true];rw[show Nat.ble ((len+(0+1)) * er.info.bytes) 140737488355328=true from Nat.ble_eq_true_of_le (Nat.le_trans (Nat.mul_le_mul (Nat.le_trans (by omega) hlen) hb) (by decide)),show Nat.ble (len+(0+1)) 4611686018427387904=true from Nat.ble_eq_true_of_le (by omega),show Nat.ble er.info.bytes 65536=true from Nat.ble_eq_true_of_le hb,show Nat.blt (hp H).next aU=true from eO,hc,h1];rw[show Nat.beq size size=true from Nat.beq_refl _,show Nat.beq (xs.map AV.lit).length (len * size)=true by rw[List.length_map,gw];exact Nat.beq_refl _,show Nat.beq l.length ((0+1) * size)=true by rw[Nat.zero_add,Nat.one_mul];exact hn];simp only[Bool.and_self,aT (Nat.le_of_lt ah),ho,Option.map_some,vw,Bb,Nat.beq_refl];rfl
 ·refine ⟨by simp,fun q=>?_⟩;simp only[];rw[T.bH _ _ _ _ (Nat.le_of_lt ah),T.bH _ _ _ _ (by omega),aT (Nat.le_of_lt ah)];by_cases e:q=H.length
  ·subst e;rw[if_pos rfl];simp[vw,nC hl]
  ·rw[if_neg e];rcases Nat.lt_or_ge q H.length with h5|h5
   ·rw[List.getElem?_append_left (by simpa using h5),List.getElem?_set];by_cases e2:q=o
    ·subst e2;simp[rj,vw]
    ·rw[if_neg e2,if_neg (Ne.symm e2)]
   ·rw[if_neg (by omega),List.getElem?_eq_none h5,List.getElem?_eq_none (by simp;omega)]
 ·simp[qm]
end
def P4:Value->AV
 | .tuple xs=>.tuple (xs.toList.map .lit)
 | .agg xs=>.agg (xs.toList.map .lit)
 | v=>.lit v
theorem yv:∀xs:List Value,AV.jP (xs.map .lit)=some xs
 | []=>rfl
 | x::xs=>by simp only[List.map_cons,AV.jP,AV.flat,yv xs]
theorem Kc(x:Value):(P4 x).flat=some x:=by
 unfold P4;split<;>simp only[AV.flat,yv,Array.toArray_toList]
theorem ag.Dp{P:Program}{S:List Nat}{E:Env}(hE:ch P E){f:Nat}{fn:Func}(hf:E.fn f=some fn){args:List AV}{xs:List Value}{x:Value}{H:List af}{K:AV->List af->Prop}(ha:AV.jP args=some xs)
  (c:∀w:World,Calls P f xs.toArray w (fun e w'=>e=.returned x/\Below w.heap.size w w')) (k:K (P4 x) H):ag P S f args H K:=⟨fun F γ w ys hR cx cJ rm=>by
 have e:=kL args xs ys.toList ha rm;obtain rfl:ys=xs.toArray:=by rw[<-e]
 obtain ⟨F1,fq,iN⟩:=wP hR cJ;refine ⟨(hE.fn f fn hf).2 _ w,fun R fj=>(c w).mono ?_⟩;rintro r w' ⟨rfl,hb⟩;obtain ⟨h1,h2⟩:=iN _ _ _ (fq.grown hb);exact fj _ H γ x w' k (kx _ x (Kc x)) ⟨h1,.refl γ _,cx,h2 H (.refl _)⟩⟩
structure bL(P:Program)(n k m:Nat)(b:Code)(t:ax)(H:List af)(Q:fp->ax->List af->Prop):Prop where
 out:∀(F:di) (γ:aK) (w:World) (a:Act) (R:Exit->Act->World->Prop),Rl F γ H w->cE γ n t a ->
  (∀e t' H' aq a' w',Q e t' H'->Rl F aq H' w'->cE aq n t' a'->Old k γ aq->R e.ex a' w')->Code.rounds P b R m a w
theorem bL.step{P:Program}{E:Env}(hE:ch P E){n k m:Nat}(hn:Nat.ble n aU=true){b:Code}{t:ax}{H:List af}{Q:fp->ax->List af->Prop}(h:aF E P n k b t H (fun e t' H'=>match e with
   | .normal=>bL P n k m b t' H' Q
   | .exit id=>Q (.exit id) t' H'
   | .goto l=>Q (.goto l) t' H'
   | .ret=>Q .ret t' H')):bL P n k (m+1) b t H Q:=⟨fun F γ w a R hR hT hQ=>by
 rw[rounds_succ];refine (nf hE (Nat.le_of_ble_eq_true hn) b _ _ _ h).out F γ w a _ hR hT fun e t' H' aq a' w' hq ky fT uR=>?_;cases e with
 | normal=>exact hq.out F aq w' a' R ky fT fun e2 t2 H2 gF a2 w2 h1 h2 h3 h4=>hQ e2 t2 H2 gF a2 w2 h1 h2 h3 (uR.trans h4)
 | exit id=>exact hQ _ t' H' aq a' w' hq ky fT uR
 | goto l=>exact hQ _ t' H' aq a' w' hq ky fT uR
 | ret=>exact hQ _ t' H' aq a' w' hq ky fT uR⟩
theorem bL.loop{P:Program}{n k:Nat}(m:Nat){b:Code}{t:ax}{H:List af}{Q:fp->ax->List af->Prop}(h:bL P n k m b t H Q):aJ P n k (.loop b) t H Q:=
 ⟨fun F γ w a R hR hT hQ=>wp_loop_rounds m (h.out F γ w a R hR hT hQ)⟩
end Go.Proofs.YtmbdghclhpboaaaGreat.Ev

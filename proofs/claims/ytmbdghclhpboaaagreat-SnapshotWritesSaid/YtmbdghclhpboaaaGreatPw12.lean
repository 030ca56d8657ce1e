/- Part of the proof: SyB SyC. Conditions: as each states. -/
import Derived.Test.YtmbdghclhpboaaaGreatPw11
set_option linter.all false
namespace Go.Proofs.YtmbdghclhpboaaaGreat.Ev
section
variable{P:Program}{S:List Nat}{E:Env}{t:ax}{H:List af}{K:AV->List af->Prop}
theorem nG{ty:TypeId}{L:Nat->TypeDesc->Prop}(h:sN E ty L):∃r,E.ty ty=some r/\L r.info.size r.bg:=by
 unfold sN at h;split at h
 ·rename_i hr;exact ⟨_,hr,h⟩
 ·exact h.elim
theorem xO{ty:TypeId}{cs:List AV}{off:Nat}{L:AV->Prop}(h:Bo E ty cs off L):∃v,partOf E ty cs off=some v/\L v:=by
 unfold Bo at h;obtain ⟨r,hr,h⟩:=nG h;unfold partOf;rw[hr];simp only[];split at h
 ·rename_i ha;rw[ha];simp only[];split at h
  ·rename_i hb;rw[hb];rw[rP] at h;exact ⟨_,rfl,h⟩
  ·exact h.elim
 ·rename_i ha;rw[ha];simp only[];split at h
  ·rename_i v hv;exact ⟨v,hv,h⟩
  ·exact h.elim
theorem Aq{ty:TypeId}{f:Nat}{L:TypeId->Nat->Prop}(h:zz E ty f L):∃r fs fd,E.ty ty=some r/\r.bg=.struct fs/\fs[f]?=some fd/\L fd.type fd.offset:=by
 unfold zz at h;split at h
 ·rename_i r hr;split at h
  ·rename_i fs hu;split at h
   ·rename_i hf;exact ⟨r,fs,_,hr,hu,by simpa using hf,h⟩
   ·exact h.elim
  ·exact h.elim
 ·exact h.elim
theorem Hc{n:Nat}{i:AV}{L:Nat->Prop}(h:KJ n i L):∃k,lz i=some k/\Nat.blt k n=true/\L k:=by
 unfold KJ at h;split at h
 ·obtain ⟨k,rfl,h1,h2⟩:=h.out;exact ⟨k,rfl,Nat.ble_eq_true_of_le h1,h2⟩
 ·exact h.elim
theorem vR{σ:AS}{op:Op}{ob:af}{k:qS}(h:bz E t σ op=some (.new ob k)):vw ob=ob:=by
 cases op<;>simp only[bz] at h
 case call c=>
  exfalso;split at h
  ·cases h
  ·split at h
   ·split at h
    ·unfold oP at h;(repeat' split at h)<;>cases h
    ·cases h
   ·unfold gp at h;(repeat' split at h)<;>first|cases h|(obtain ⟨_,_,e⟩:=Option.map_eq_some_iff.1 h;cases e)
   ·(repeat' split at h)<;>cases h
 case convert src dst x=>
  exfalso;split at h
  ·unfold mN at h;(repeat' split at h)<;>first|cases h|(obtain ⟨_,_,e⟩:=Option.map_eq_some_iff.1 h;cases e)
  ·cases h
 all_goals
  (repeat' split at h)<;>first|(cases h;done)|(cases h;rfl)|(obtain ⟨_,_,e⟩:=Option.map_eq_some_iff.1 h;cases e;done)|(obtain ⟨_,_,e⟩:=Option.map_eq_some_iff.1 h;cases e;rfl)
theorem BH(hl:H.length<=aU):∀{rs:List ResultVar} {L:List AV->Prop},DB E t H rs L->∃l,dY (rs.map (j9 E t (hp H)))=some l/\L l
 | [],L,h=>⟨[],rfl,h⟩
 | .tmp i::rs,L,h=>by
   simp only[DB] at h;split at h
   ·rename_i v hv;obtain ⟨l,h1,h2⟩:=BH hl h;exact ⟨v::l,by simp only[List.map_cons,j9,hv,dY,h1],h2⟩
   ·exact h.elim
 | .cell a ty::rs,L,h=>by
   simp only[DB] at h;split at h
   ·rename_i o off ha;split at h
    ·rename_i cs e ho;obtain ⟨v,hv,h⟩:=xO h;obtain ⟨l,h1,h2⟩:=BH hl h;exact ⟨v::l,by simp only[List.map_cons,j9,ha,loadAt,aT hl,ho,Option.map_some,vw,hv,dY,h1],h2⟩
    ·exact h.elim
   ·exact h.elim
theorem Nv(hl:H.length<=aU){fn:Func}(h:Gm E fn K .ret t H):∃v,nF E t (hp H) fn.results.toList=some v/\K v H:=by
 unfold Gm at h;obtain ⟨l,h1,h2⟩:=BH hl h;unfold nF;rw[h1];split at h2
 ·exact ⟨_,rfl,rV h2⟩
 ·exact ⟨_,rfl,h2⟩
 ·rename_i l Xi Xh;refine ⟨_,?_,h2⟩;split
  ·rename_i v e;cases e;exact absurd rfl (Xi v)
  ·rename_i e;cases e;exact absurd rfl Xh
  ·rename_i l' _ _ e;cases e;rfl
  ·rename_i e;cases e
theorem AO(h:H.length<=aU):ye (hp H) H:=⟨rfl,fun o=>aT h o⟩
theorem pE(h:H.length<=aU){o:Nat}(ho:o<H.length){ob:af}:ye { hp H with heap:=(hp H).heap.put o (vw ob) } (H.set o ob):=by
 refine ⟨by simp[hp],fun q=>?_⟩;simp only[];rw[T.bH _ _ _ _ (by omega),aT h,List.getElem?_set];by_cases e:q=o
 ·subst e;simp[ho]
 ·rw[if_neg e,if_neg (Ne.symm e)]
theorem ji(v:AV):qm H.length v (hp H).next=true:=by simp[qm,hp]
theorem Bh{m:Bool}(hl:H.length<=aU){op:Op}(h:Rj E P m S t H K op):(∃out,bz E t (hp H) op=some out/\Hu P S H K out)\/(m=true/\eU P S t H op K):=by
 unfold Rj at h;split at h
 ·exact h.out
 ·have gen:∀{op:Op},(match bz E t (hp H) op with
    | some (.pure v)=>K v H
    | some (.read v)=>K v H
    | some (.new ob k)=>match Nat.blt H.length aU with
      | true=>TH ob (fun ob=>pg H ob (fun H'=>oc (qb H 0) fun n=>K (k.val n) H'))
      | false=>False
    | _=>False)->(∃out,bz E t (hp H) op=some out/\Hu P S H K out)\/(m=true/\eU P S t H op K):=by
   intro op h;split at h
   ·rename_i v hv;exact .inl ⟨_,hv,h⟩
   ·rename_i v hv;exact .inl ⟨_,hv,h⟩
   ·rename_i ob k hv;split at h
    ·rename_i hb;rw[Qx,kQ,iE,lf,Nat.zero_add] at h;exact .inl ⟨_,hv,gA hb,h⟩
    ·exact h.elim
   ·exact h.elim
  cases op<;>simp only[] at h
  case fieldAddr ty x f=>
   split at h
   ·rename_i p off hx;obtain ⟨r,fs,fd,h1,h2,h3,h⟩:=Aq h;obtain ⟨fr,h4,h⟩:=nG h;split at h
    ·rename_i hb;refine .inl ⟨.pure (.ptr p (off+fd.offset)),?_,h⟩;simp only[bz,h1,hx,h2,h3,h4,hb]
    ·exact h.elim
   ·exact h.out
   ·exact h.elim
  case field ty x f=>
   split at h
   ·rename_i cs hx;obtain ⟨r,fs,fd,h1,h2,h3,h⟩:=Aq h;obtain ⟨v,h4,h⟩:=xO h;refine .inl ⟨.pure v,?_,h⟩;simp only[bz,h1,hx,h2,h3,h4,Option.map_some]
   ·exact h.elim
  case indexAddr ty x i=>
   split at h
   ·rename_i x' i' hx hi;split at h
    ·rename_i r hr;split at h
     ·rename_i len elem hu;split at h
      ·rename_i p off;obtain ⟨er,h1,h⟩:=nG h;obtain ⟨k,h2,h3,h⟩:=Hc h;refine .inl ⟨.pure (.ptr p (off+k * er.info.size)),?_,h⟩;simp only[bz,hr,hx,hi,hu,h2,h1,h3]
      ·exact h.elim
     ·rename_i elem hu;split at h
      ·rename_i p off len cap;obtain ⟨er,h1,h⟩:=nG h;obtain ⟨k,h2,h3,h⟩:=Hc h;refine .inl ⟨.pure (.ptr p (off+k * er.info.size)),?_,h⟩;simp only[bz,hr,hx,hi,hu,h2,h1,h3]
      ·exact h.out
      ·exact h.elim
     ·exact h.elim
    ·exact h.elim
   ·exact h.elim
  case load ty a=>
   split at h
   ·rename_i p off ha;split at h
    ·rename_i l e bN;obtain ⟨v,h1,h⟩:=xO h;refine .inl ⟨.read v,?_,h⟩;simp only[bz,ha,loadAt,aT hl,bN,Option.map_some,vw,h1]
    ·rename_i xs e bN;obtain ⟨r,h1,h⟩:=nG h;obtain ⟨v,h2,h⟩:=h.out;refine .inl ⟨.read v,?_,h⟩;simp only[bz,ha,loadAt,aT hl,bN,Option.map_some,vw,partOf,h1];cases GK:bG r.bg with
     | true=>
       rw[GK] at h2;simp only[] at h2 ⊢;split at h2
       ·rename_i hle;have hb:Nat.ble (off+r.info.size) (xs.map AV.lit).length=true:=Nat.ble_eq_true_of_le (by simpa using hle);rw[hb];simpa using h2
       ·cases h2
     | false=>
       rw[GK] at h2;simp only[] at h2 ⊢;rw[h2];rfl
    ·exact h.elim
   ·exact h.out
   ·exact h.elim
  case store ty a v'=>
   split at h
   ·rename_i p off v ha hv;split at h
    ·rename_i l e bN;obtain ⟨r,h1,h⟩:=nG h;split at h
     ·rename_i hb;rw[rP,ki] at h;have ah:p<H.length:=(List.getElem?_eq_some_iff.1 bN).1;refine .inl ⟨.act aP { hp H with heap:=(hp H).heap.put p (.cells (setFrom l off v.cells) e) },?_,_,pE (ob:=.cells (setFrom l off v.cells) e) hl ah,ji _,.of_eq (pP (ob:=.cells (setFrom l off v.cells) e) bN rfl).symm,h⟩;simp only[bz,ha,hv,wX,h1,aT hl,bN,Option.map_some,vw,hb]
     ·exact h.elim
    ·exact h.out
    ·exact h.elim
   ·exact h.out
   ·exact h.elim
  case assign x=>
   split at h
   ·rename_i v hv;exact .inl ⟨.act v (hp H),by simp only[bz,hv,Option.map_some],H,AO hl,ji _,.refl _,h⟩
   ·exact h.elim
  case box e x=>
   split at h
   ·rename_i v hv;split at h
    ·rename_i hb;rw[rP,kQ,iE,lf,Nat.zero_add] at h;refine .inl ⟨.new (.cells v.cells _) .ptr,?_,gA hb,h⟩;simp only[bz,hv,Option.map_some]
    ·exact h.elim
   ·exact h.elim
  case call c=>
   split at h
   ·rename_i b qX;split at h
    ·split at h
     ·rename_i s x gR;split at h
      ·rename_i ty xt mR;split at h
       ·rename_i xr xB;split at h
        ·exact h.elim
        ·rename_i Z6;split at h
         ·exact h.out
         rcases h.out with ⟨v,σ,H',h1,h2,h3,h4⟩|hm;rotate_left
         ·exact .inr hm
         refine .inl ⟨.act v σ,?_,H',h2,h3,h4⟩;simp only[bz,gR,qX,gp,mR,xB];rw[h1];rfl
       ·exact h.elim
      ·exact h.elim
     ·exact h.elim
    ·split at h
     ·rename_i args gR;split at h
      ·rename_i v hv;exact .inl ⟨.pure v,by simp only[bz,gR,qX,hv],h⟩
      ·rename_i v hv;exact .inl ⟨.read v,by simp only[bz,gR,qX,hv],h⟩
      ·exact h.elim
     ·exact h.elim
   ·split at h
    ·rename_i f args hv;rw[rP] at h;exact .inl ⟨_,hv,h⟩
    ·exact h.elim
  all_goals exact gen h
end
section
variable{F:di}{P:Program}{S:List Nat}{E:Env}(hE:ch P E){γ:aK}{w:World}{t:ax}{H:List af}{K:AV->List af->Prop}
include hE
theorem Dq(hR:aL F γ (hp H) w)(cx:∀o,o<H.length->o∉S->γ o≠none)(cJ:Rs F γ H w){a:Act}(bD:o2 γ t a.eval){o:Oper}{out:Out}(gB:bz E t (hp H) o.op=some out)(hk:Hu P S H K out){K':Act->World->Prop}{Q:Exit->Act->World->Prop}
  (hK:∀v H' aq x w',K v H'->an aq v x->FB F γ S H aq H' w'->K' (a.put o.dst x) w'):o.wp P a w K' Q:=by
 have eO:H.length<=aU:=hR.aU;unfold Oper.wp;obtain ⟨F',ky,EC⟩:=wP hR cJ;cases out with
 | pure v=>
   obtain ⟨x,h1,h2⟩:=oZ hE hR.toRel bD o gB (.inl rfl);rw[h1,Oper.upon_value];exact hK v H γ x w hk h2 ⟨hR,.refl γ _,cx,cJ⟩
 | read v=>
   obtain ⟨x,h1,h2⟩:=oZ hE hR.toRel bD o gB (.inr rfl);rw[h1,Oper.upon_value];exact hK v H γ x w hk h2 ⟨hR,.refl γ _,cx,cJ⟩
 | new ob k=>
   obtain ⟨ah,hk⟩:=hk;have LW:=vR gB;obtain ⟨hd,uI,x,top,h1,h2⟩:=E1 hE (σ:=hp H) (w:=w) bD o gB;have ni:γ (hp H).next=none:=hR.jv _ (Nat.le_refl _)
   have hm:=ky.more (show (hp H).next<aU from ah) ob;have dd:((hp H).heap.put (hp H).next ob).get (hp H).next=some ob:=by rw[T.bH _ _ _ _ (show (hp H).next<=aU from Nat.le_of_lt ah)];simp
   have hrel:=h2 (fJ γ (hp H).next (some ⟨w.heap.size,0,top⟩)) (hp H).next { w with heap:=w.heap.push uI } (iY _ ni) (bu _ _ _) (by simp)
   rw[h1,Oper.upon_value];have jR:=hm.place (id:=(hp H).next) (by simp) ni dd hd uI 0 top hrel.1;have heq:ye { heap:=(hp H).heap.put (hp H).next ob,next:=(hp H).next+1 } (H++[ob]):=by
    refine ⟨by simp[hp],fun q=>?_⟩;simp only[];rw[T.bH _ _ _ _ (show (hp H).next<=aU from Nat.le_of_lt ah),aT eO];by_cases e:q=(hp H).next
    ·subst e;rw[if_pos rfl];simp[hp,LW]
    ·rw[if_neg e];have e:q≠H.length:=e;rcases Nat.lt_or_ge q H.length with h5|h5
     ·rw[List.getElem?_append_left h5]
     ·rw[List.getElem?_eq_none h5,List.getElem?_eq_none (by simp;omega)]
   obtain ⟨pF,uW⟩:=EC _ _ _ (jR.ID heq);have pC:kh ob=aA:=by cases ob<;>first|rfl|cases LW
   refine hK _ _ _ x _ hk hrel.2 ⟨pF,(Step.place _ ni _ (Nat.le_refl _) (Step.more hR ah ob)).ID heq (by have:=jR.aU;have:=heq.next;omega),fun q hq Zi=>?_,uW _ (pv pC)⟩;simp only[List.length_append,List.length_cons,List.length_nil] at hq;by_cases e:q=(hp H).next
   ·subst e;rw[bu];simp
   ·rw[bU _ _ e];have e:q≠H.length:=e;exact cx q (by omega) Zi
 | act v σ=>
   obtain ⟨H',h5,h6,h7,hk⟩:=hk;obtain ⟨aq,w',nx,h1,h2,h3,h4⟩:=Kn hE ky bD o gB;obtain ⟨pF,uW⟩:=EC _ _ _ (h3.ID h5);have hold:∀q,q<H.length->q∉S->aq q≠none:=fun q hq hS hn=>by
    cases hg:γ q with
    | none=>exact cx q hq hS hg
    | some p=>rcases h4.ext q p hg with h|h<;>rw[h] at hn<;>cases hn
   rw[h1];rcases h2 with ⟨x,rfl,hx⟩|⟨rfl,rfl⟩
   ·rw[Oper.upon_value];refine hK v H' aq x w' hk hx ⟨pF,h4.ID h5 (by have:=h3.aU;have:=h5.next;omega),fun q hq hS=>?_,uW _ h7⟩;rcases Nat.lt_or_ge q H.length with eN|eN
    ·exact hold q eN hS
    ·have hn:=h5.next
     unfold qm at h6;rw[Bool.or_eq_true] at h6;rcases h6 with h6|h6
     ·have:=Nat.eq_of_beq_eq_true h6;omega
     ·split at h6
      ·rw[Bool.and_eq_true] at h6;have e1:=Nat.eq_of_beq_eq_true h6.1;have e2:=Nat.eq_of_beq_eq_true h6.2;have e3:q=H.length:=by omega
       subst e3;rw[e1] at hx;simp only[an] at hx;obtain ⟨ad,c,_,_,_,wu⟩:=hx;intro hn;unfold oA at wu;rw[hn] at wu;exact wu
      ·rw[Bool.and_eq_true] at h6;have e1:=Nat.eq_of_beq_eq_true h6.1;have e2:=Nat.eq_of_beq_eq_true h6.2;have e3:q=H.length:=by omega
       subst e3;rw[e1] at hx;simp only[an] at hx;obtain ⟨ad,_,dj⟩:=hx;exact dj.ne
      ·cases h6
   ·rw[Oper.upon_skip];refine hK aP H' aq undef w' hk (aM aq _) ⟨pF,h4.ID h5 (by have:=h3.aU;have:=h5.next;omega),fun q hq hS=>?_,uW _ h7⟩;have hn:=h5.next
    have:σ.next=H.length:=by
     unfold qm aP at h6;simpa using h6
    exact hold q (by omega) hS
 | call f args=>
   obtain ⟨xs,gw,cW⟩:=z4 hE (w:=w) bD o gB;obtain ⟨c1,c2⟩:=ag.out hk F γ w xs hR cx cJ gw;rw[cW,c1,Oper.upon_enter];exact c2 _ fun v H' aq x w' h1 h2 h3=>hK v H' aq x w' h1 h2 h3
omit hE in
theorem Hr{t0:ax}{o:Oper}(h:eU P S t0 H o.op K)(hR:aL F γ (hp H) w)(cx:∀o,o<H.length->o∉S->γ o≠none)(cJ:Rs F γ H w){a:Act}(bD:o2 γ t a.eval)(hs:∀x,x∈o.op.operands.toList->aE t0 x=aE t x){K':Act->World->Prop}{Q:Exit->Act->World->Prop}
  (hK:∀v H' aq x w',K v H'->an aq v x->FB F γ S H aq H' w'->K' (a.put o.dst x) w'):o.wp P a w K' Q:=by
 unfold Oper.wp;obtain ⟨v,H',aq,nx,w',h1,h2,h3,h4⟩:=h.out F γ w a.eval hR cx cJ (fun x v hx hv=>bD x v (by rw[<-hs x hx];exact hv)) o rfl;rw[h1];rcases h2 with ⟨x,rfl,hx⟩|⟨rfl,rfl⟩
 ·rw[Oper.upon_value];exact hK v H' aq x w' h3 hx h4
 ·rw[Oper.upon_skip];exact hK aP H' aq undef w' h3 (aM aq _) h4
theorem J4{ops:Array Oper}{o:Oper}{i n:Nat}{a:Act}(h:qN E P S ops.toList o t H K)(hi:ops[i]?=some o)(hR:aL F γ (hp H) w)(cx:∀o,o<H.length->o∉S->γ o≠none)(cJ:Rs F γ H w)(hT:cE γ n t a){K':Act->World->Prop}{Q:Exit->Act->World->Prop}
  (hK:∀v H' aq x w',K v H'->an aq v x->FB F γ S H aq H' w'->K' (a.put o.dst x) w'):wpOp P ops Q i K' a w:=by
 unfold qN at h;unfold wpOp;simp only[hi];cases hw:cY ops.toList t o with
 | none=>rw[hw] at h;exact h.elim
 | some b=>
   rw[hw] at h;have jS:=oC (a:=a) (γ:=γ) (n:=n) hw fun d u _ hu=>hT.get d u hu;cases b with
   | false=>
     rw[jS];simp only[Bool.false_eq_true,if_false];exact hK aP H γ undef w h (aM γ _) ⟨hR,.refl γ _,cx,cJ⟩
   | true=>
     rw[jS];simp only[if_true];refine .inl ?_;rcases Bh hR.aU h with ⟨out,h1,h2⟩|⟨_,h1⟩
     ·exact Dq hE hR cx cJ hT.aE h1 h2 hK
     ·exact Hr h1 hR cx cJ hT.aE (fun _ _=>rfl) hK
theorem DU{ops:Array Oper}{o:Oper}{i n:Nat}{a:Act}(h:qN E P [] ops.toList o t H K)(hi:ops[i]?=some o)(hR:Rl F γ H w)(hT:cE γ n t a){K':Act->World->Prop}{Q:Exit->Act->World->Prop}
  (hK:∀v H' aq x w',K v H'->Rl F aq H' w'->an aq v x->Ext γ aq->K' (a.put o.dst x) w'):wpOp P ops Q i K' a w:=
 J4 hE h hi hR.rel (fun o ho _=>hR.pl o ho) hR.rs hT fun v H' aq x w' h1 h2 h3=>hK v H' aq x w' h1 h3.rl h2 h3.step.ext
theorem D7{n:Nat}(hn:n<=aU){ops:Array Oper}{Q:Exit->Act->World->Prop}{L:ax->List af->Prop}:∀(l:List Oper) (i:Nat) (t:ax) (H:List af) (γ:aK) (w:World) (a:Act),
  wpOps E P n ops.toList l t H L->ops.toList.drop i=l->Rl F γ H w->cE γ n t a ->
  (∀t' H' aq a' w',L t' H'->Rl F aq H' w'->cE aq n t' a'->Ext γ aq->Q .normal a' w')->Go.wpOps P ops Q ((List.range (ops.size - i)).map (·+i)) a w
 | [],i,t,H,γ,w,a,h,hd,hR,hT,hQ=>by
   simp only[wpOps] at h;have:ops.size - i=0:=by
    have:=congrArg List.length hd;simpa using this
   rw[this];exact hQ t H γ a w h hR hT (.refl γ)
 | o::rest,i,t,H,γ,w,a,h,hd,hR,hT,hQ=>by
   have ah:i<ops.size:=by
    have:=congrArg List.length hd;simp at this;omega
   have hi:ops[i]?=some o:=by
    have h1:ops.toList[i]?=some o:=by
     have:(ops.toList.drop i)[0]?=some o:=by rw[hd];rfl
     rw[List.getElem?_drop] at this;simpa using this
    simpa using h1
   have qk:ops.toList.drop (i+1)=rest:=by
    have:=congrArg List.tail hd;simpa [List.tail_drop] using this
   rw[show ops.size - i=(ops.size - (i+1))+1 by omega,List.range_succ_eq_map,List.map_cons,List.map_map,wpOps_cons,Nat.zero_add];have AM:((fun x=>x+i)∘Nat.succ)=(fun x=>x+(i+1)):=by funext x;simp;omega
   rw[AM];simp only[wpOps] at h;refine DU hE h hi hR hT fun v H1 eT x w1 hk fq hx fg=>?_;obtain ⟨t1,hp,hk⟩:=lC (rV hk);exact D7 hn rest (i+1) t1 H1 eT w1 _ hk qk fq (nu (hT.mono fg) hp hn hx) fun t' H' aq a' w' h1 h2 h3 h4=>hQ t' H' aq a' w' h1 h2 h3 (fg.trans h4)
theorem nf{n k:Nat}(hn:n<=aU):∀(c:Code) (t:ax) (H:List af) (Q:fp->ax->List af->Prop),aF E P n k c t H Q->aJ P n k c t H Q
 | .skip,t,H,Q,h=>⟨fun F γ w a R hR hT hQ=>wp_skip (hQ .normal t H γ a w h hR hT (.refl _ _))⟩
 | .label _,t,H,Q,h=>⟨fun F γ w a R hR hT hQ=>wp_label (hQ .normal t H γ a w h hR hT (.refl _ _))⟩
 | .ret,t,H,Q,h=>⟨fun F γ w a R hR hT hQ=>wp_ret (hQ .ret t H γ a w h hR hT (.refl _ _))⟩
 | .exit id,t,H,Q,h=>⟨fun F γ w a R hR hT hQ=>wp_exit (hQ (.exit id) t H γ a w h hR hT (.refl _ _))⟩
 | .goto l,t,H,Q,h=>⟨fun F γ w a R hR hT hQ=>wp_goto (hQ (.goto l) t H γ a w h hR hT (.refl _ _))⟩
 | .region id ops true,t,H,Q,h=>h
 | .region id ops false,t,H,Q,h=>⟨fun F γ w a R hR hT hQ=>by
   simp only[aF] at h;refine wp_region ?_;have:=D7 hE hn (Q:=R) ops.toList 0 t H γ w a h (by simp) hR hT fun t' H' aq a' w' h1 h2 h3 h4=>hQ .normal t' H' aq a' w' h1 h2 h3 (.zD h4 k);simpa using this⟩
 | .seq x y,t,H,Q,h=>⟨fun F γ w a R hR hT hQ=>by
   simp only[aF] at h;refine wp_seq ((nf hn x t H _ h).out F γ w a _ hR hT fun e t1 H1 eT a1 w1 h1 fq lX fg=>?_);cases e with
   | normal=>exact (nf hn y t1 H1 Q h1).out F eT w1 a1 _ fq lX fun e t2 H2 gF a2 w2 h2 Ja lY ri=>hQ e t2 H2 gF a2 w2 h2 Ja lY (fg.trans ri)
   | exit id=>exact hQ _ t1 H1 eT a1 w1 h1 fq lX fg
   | goto l=>exact hQ _ t1 H1 eT a1 w1 h1 fq lX fg
   | ret=>exact hQ _ t1 H1 eT a1 w1 h1 fq lX fg⟩
 | .cond c x y,t,H,Q,h=>⟨fun F γ w a R hR hT hQ=>by
   simp only[aF] at h;split at h
   ·rename_i v hc;have hv:=hT.aE _ _ hc;rw[al] at hv;cases v with
    | true=>exact wp_cond_true hv ((nf hn x t H Q h).out F γ w a R hR hT hQ)
    | false=>exact wp_cond_false hv ((nf hn y t H Q h).out F γ w a R hR hT hQ)
   ·exact h.elim⟩
 | .block id b,t,H,Q,h=>⟨fun F γ w a R hR hT hQ=>by
   simp only[aF] at h;refine wp_block ((nf hn b t H _ h).out F γ w a _ hR hT fun e t1 H1 eT a1 w1 h1 fq lX fg=>?_);cases e with
   | normal=>exact hQ _ t1 H1 eT a1 w1 h1 fq lX fg
   | exit xC=>
     simp only[fp.ex,Exit.inBlock];simp only[] at h1;cases hb:Nat.beq xC id with
     | true=>
       rw[hb] at h1;rw[if_pos (Nat.eq_of_beq_eq_true hb)];exact hQ .normal t1 H1 eT a1 w1 h1 fq lX fg
     | false=>
       rw[hb] at h1;rw[if_neg (Nat.ne_of_beq_eq_false hb)];exact hQ (.exit xC) t1 H1 eT a1 w1 h1 fq lX fg
   | goto l=>exact hQ _ t1 H1 eT a1 w1 h1 fq lX fg
   | ret=>exact hQ _ t1 H1 eT a1 w1 h1 fq lX fg⟩
 | .loop b,t,H,Q,h=>h
 | .scope b,t,H,Q,h=>⟨fun F γ w a R hR hT hQ=>by
   simp only[aF] at h;refine wp_scope_straight ((nf hn b t H _ h).out F γ w a _ hR hT fun e t1 H1 eT a1 w1 h1 fq lX fg=>?_);cases e with
   | goto l=>exact h1.elim
   | normal=>exact hQ _ t1 H1 eT a1 w1 h1 fq lX fg
   | exit id=>exact hQ _ t1 H1 eT a1 w1 h1 fq lX fg
   | ret=>exact hQ _ t1 H1 eT a1 w1 h1 fq lX fg⟩
 | .rangeFunc _ _ _ _,t,H,Q,h=>h.elim
 | .refuse _,t,H,Q,h=>h.elim
theorem ae{f:Nat}{fn:Func}(hf:E.fn f=some fn){args:List AV}{H:List af}{K:AV->List af->Prop}(h:eP E P fn args H K):nJ P f args H K:=⟨fun F γ w xs Cl cx cJ gw=>by
 have hR:Rl F γ H w:=⟨Cl,fun o ho=>cx o ho (by simp),cJ⟩;obtain ⟨AL,Jb⟩:=hE.fn f fn hf;refine ⟨Jb xs w,fun R fj=>?_⟩;unfold eP at h;split at h
 ·exact h.elim
 ·rename_i c hb;split at h
  ·rename_i hle;simp only[Bool.and_eq_true] at hle;have h1:=Nat.le_of_ble_eq_true hle.1;have h2:=Nat.le_of_ble_eq_true hle.2;have hlen:=bp gw;have iW:xs.size=args.length:=by simpa using hlen
   have eO:fn.ntmps<=aU:=by unfold aU;omega
   have hT:cE γ fn.ntmps (setArgs 0 args .e) { tmps:=xs++Array.replicate (fn.ntmps - xs.size) undef,defers:=[] }:=by
    refine ⟨by simp;omega,rfl,fun i u hu=>?_⟩;rw[qE _ _ _ _ (by omega)] at hu;split at hu
    ·rename_i hi;obtain ⟨x,h3,h4⟩:=dq gw i u (by simpa using hu);refine ⟨x,?_,h4⟩;simp only[];rw[Array.getElem?_append_left (by omega)];simpa using h3
    ·simp[T.get] at hu
   refine calls_of_wp AL hb ?_;refine (nf hE eO c _ H _ h).out F γ w _ _ hR hT fun e t' H' aq a' w' hq ky fT uR=>?_;have lN:Ext γ aq:=fun o p hp=>uR o (by
    rcases Nat.lt_or_ge o H.length with h5|h5
    ·exact h5
    ·rw[hR.rel.jv o h5] at hp;cases hp) p hp
   have hend:Gm E fn K .ret t' H'->∃x,(results fn a'.tmps).run P w'=.ok x w'/\R (.returned x) w':=fun hk=>by
    obtain ⟨v,hv,hk⟩:=Nv ky.rel.aU hk;obtain ⟨x,h3,h4⟩:=sE hE ky.rel fT hv;have im:∀o,o<H.length->aq o≠none:=fun o ho hn=>by
     cases hg:γ o with
     | none=>exact hR.pl o ho hg
     | some p=>rcases lN o p hg with h|h<;>rw[h] at hn<;>cases hn
    refine ⟨x,h3,fj _ H' aq x w' hk h4 ⟨ky.rel,⟨lN,fun o ho hg=>absurd hg (hR.pl o ho),?_,fun o ho hg=>absurd hg (hR.pl o ho)⟩,fun q hq _=>ky.pl q hq,ky.rs⟩⟩;show H.length<=H'.length
    rcases Nat.lt_or_ge H'.length H.length with h5|h5
    ·exact absurd (ky.rel.jv H'.length (Nat.le_refl _)) (im _ h5)
    ·exact h5
   cases e with
   | normal=>
     obtain ⟨x,h3,h4⟩:=hend hq;exact ⟨fT.defers,x,h3,h4⟩
   | ret=>
     obtain ⟨x,h3,h4⟩:=hend hq;exact ⟨fT.defers,x,h3,h4⟩
   | exit id=>exact hq.elim
   | goto l=>exact hq.elim
  ·exact h.elim⟩
end
mutual
def AV.cG(g:Nat->Nat):AV->AV
 | .lit v=>.lit v
 | .ptr o off=>.ptr (g o) off
 | .slice o off len cap=>.slice (g o) off len cap
 | .map o=>.map (g o)
 | .func fn a b=>.func fn (AV.ff g a) (AV.ff g b)
 | .iface t v=>.iface t (AV.cG g v)
 | .agg l=>.agg (AV.ff g l)
 | .tuple l=>.tuple (AV.ff g l)
def AV.ff(g:Nat->Nat):List AV->List AV
 | []=>[]
 | v::l=>AV.cG g v::AV.ff g l
end
def pe(g:Nat->Nat):List (AV×AV×Nat)->List (AV×AV×Nat)
 | []=>[]
 | (k,v,b)::l=>(k.cG g,v.cG g,b)::pe g l
def af.cG(g:Nat->Nat):af->af
 | .cells l e=>.cells (AV.ff g l) e
 | .map es c=>.map (pe g es) c
 | .iter m a b c=>.iter (g m) a b c
 | ob=>ob
theorem BG(g:Nat->Nat):∀xs:List Value,AV.ff g (xs.map .lit)=xs.map .lit
 | []=>rfl
 | x::xs=>by simp only[List.map_cons,AV.ff,AV.cG,BG g xs]
theorem FA(g:Nat->Nat)(ob:af):vw (ob.cG g)=(vw ob).cG g:=by
 cases ob with
 | row xs e=>simp[af.cG,vw,BG]
 | _=>rfl
theorem Dy{g:Nat->Nat}{ob:af}(h:ob.cG g=.dead):ob=.dead:=by
 cases ob<;>first|rfl|cases h
theorem wR(g:Nat->Nat):∀l:List AV,(AV.ff g l).length=l.length
 | []=>rfl
 | _::l=>by simp[AV.ff,wR g l]
theorem Dz(g:Nat->Nat):∀(l:List AV) (i:Nat),(AV.ff g l)[i]?=(l[i]?).map (AV.cG g)
 | [],i=>by simp[AV.ff]
 | v::l,0=>by simp[AV.ff]
 | v::l,i+1=>by simp[AV.ff,Dz g l i]
mutual
theorem eJ{γ:aK}{g:Nat->Nat}:∀(v:AV) (x:Value),an γ (v.cG g) x↔an (fun o=>γ (g o)) v x
 | .lit v,x=>by simp only[AV.cG,an]
 | .ptr o off,x=>by simp only[AV.cG,an,gz]
 | .slice o off len cap,x=>by simp only[AV.cG,an,gz,oA]
 | .map o,x=>by simp only[AV.cG,an,lQ]
 | .func fn a b,x=>by
   simp only[AV.cG,an];constructor
   ·rintro ⟨a',b',h,h1,h2⟩;exact ⟨a',b',h,(eK a _).1 h1,(eK b _).1 h2⟩
   ·rintro ⟨a',b',h,h1,h2⟩;exact ⟨a',b',h,(eK a _).2 h1,(eK b _).2 h2⟩
 | .iface t v,x=>by
   simp only[AV.cG,an];constructor
   ·rintro ⟨y,h,h1⟩;exact ⟨y,h,(eJ v _).1 h1⟩
   ·rintro ⟨y,h,h1⟩;exact ⟨y,h,(eJ v _).2 h1⟩
 | .agg l,x=>by
   simp only[AV.cG,an];constructor
   ·rintro ⟨y,h,h1⟩;exact ⟨y,h,(eK l _).1 h1⟩
   ·rintro ⟨y,h,h1⟩;exact ⟨y,h,(eK l _).2 h1⟩
 | .tuple l,x=>by
   simp only[AV.cG,an];constructor
   ·rintro ⟨y,h,h1⟩;exact ⟨y,h,(eK l _).1 h1⟩
   ·rintro ⟨y,h,h1⟩;exact ⟨y,h,(eK l _).2 h1⟩
theorem eK{γ:aK}{g:Nat->Nat}:∀(l:List AV) (xs:List Value),az γ (AV.ff g l) xs↔az (fun o=>γ (g o)) l xs
 | [],xs=>by simp only[AV.ff,az]
 | v::l,xs=>by
   simp only[AV.ff,az];constructor
   ·rintro ⟨x,ys,h,h1,h2⟩;exact ⟨x,ys,h,(eJ v _).1 h1,(eK l _).1 h2⟩
   ·rintro ⟨x,ys,h,h1,h2⟩;exact ⟨x,ys,h,(eJ v _).2 h1,(eK l _).2 h2⟩
end
theorem oN{γ:aK}{g:Nat->Nat}:∀(es:List (AV×AV×Nat)) (l:List MapEntry),aX γ (pe g es) l↔aX (fun o=>γ (g o)) es l
 | [],l=>by simp only[pe,aX]
 | (k,v,b)::es,l=>by
   simp only[pe,aX];constructor
   ·rintro ⟨k',v',r,h,h1,h2,h3⟩;exact ⟨k',v',r,h,(eJ k _).1 h1,(eJ v _).1 h2,(oN es _).1 h3⟩
   ·rintro ⟨k',v',r,h,h1,h2,h3⟩;exact ⟨k',v',r,h,(eJ k _).2 h1,(eJ v _).2 h2,(oN es _).2 h3⟩
theorem yG{γ:aK}{g:Nat->Nat}{ob:af}{p:Place}{w:World}:dI γ (ob.cG g) p w↔dI (fun o=>γ (g o)) ob p w:=by
 cases ob with
 | cells l e=>
   simp only[af.cG,dI,wR,Dz];constructor
   ·rintro ⟨c,h1,h2,h3,h4⟩;refine ⟨c,h1,h2,h3,fun i v hv=>?_⟩;obtain ⟨x,h5,h6⟩:=h4 i (v.cG g) (by rw[hv];rfl);exact ⟨x,h5,(eJ v x).1 h6⟩
   ·rintro ⟨c,h1,h2,h3,h4⟩;refine ⟨c,h1,h2,h3,fun i v hv=>?_⟩;obtain ⟨u,hu,rfl⟩:=Option.map_eq_some_iff.1 hv;obtain ⟨x,h5,h6⟩:=h4 i u hu;exact ⟨x,h5,(eJ u x).2 h6⟩
 | map es c=>
   simp only[af.cG,dI];constructor
   ·rintro ⟨es',h1,h2⟩;exact ⟨es',h1,(oN es _).1 h2⟩
   ·rintro ⟨es',h1,h2⟩;exact ⟨es',h1,(oN es _).2 h2⟩
 | iter m a b c=>simp only[af.cG,dI,lQ]
 | row xs e=>simp only[af.cG,dI]
 | br es=>simp only[af.cG,dI]
 | res R=>simp only[af.cG,dI]
 | dead=>simp only[af.cG,dI]
theorem xV(g:Nat->Nat)(ob:af):kh (ob.cG g)=kh ob:=by cases ob<;>rfl
def rh:af->af->Prop
 | .res R,.res R'=>∀w S,R.at_ w S->R'.at_ w S
 | .res _,_=>False
 | _,.res _=>False
 | a,b=>vw a=vw b
theorem kp{R:aH}{g:Nat->Nat}:rh (.res R) ((af.res R).cG g):=fun _ _ h=>h
theorem ko{R:aH}{g:Nat->Nat}:∃cT,some (af.res R)=some cT/\rh cT ((af.res R).cG g):=⟨_,rfl,kp⟩
theorem rh.eq{a b:af}(h:rh a b):vw a=vw b/\∀w S,(kh a).at_ w S->(kh b).at_ w S:=by
 cases a<;>cases b<;>first|exact ⟨h,fun _ _ h=>h⟩|exact ⟨rfl,h⟩|exact False.elim h
theorem db:∀{L:List aH} {w:World} {T:Nat->Prop} {i:Nat} {r:aH},bw L w T->L[i]?=some r->∃S1 S2,r.at_ w S1/\bw (L.set i aA) w S2/\(∀b,S1 b->S2 b->False)/\∀b,T b↔S1 b\/S2 b
 | [],_,_,_,_,_,h=>by simp at h
 | x::L,w,T,0,r,⟨S1,S2,h1,h2,hd,hT⟩,h=>by
   simp at h;subst h;exact ⟨S1,S2,h1,⟨fun _=>False,S2,fun _ h=>h,h2,fun _ h _=>h,fun b=>by simp⟩,hd,hT⟩
 | x::L,w,T,i+1,r,⟨S1,S2,h1,h2,hd,hT⟩,h=>by
   obtain ⟨A,B,a1,a2,a3,a4⟩:=db h2 (by simpa using h);refine ⟨A,fun b=>S1 b\/B b,a1,⟨S1,B,h1,a2,fun b x y=>hd b x ((a4 b).2 (.inr y)),fun b=>Iff.rfl⟩,fun b x y=>y.elim (fun y=>hd b y ((a4 b).2 (.inl x))) (a3 b x),fun b=>?_⟩;rw[hT b,a4 b];exact ⟨fun h=>h.elim (fun h=>.inr (.inl h)) (fun h=>h.elim .inl (fun h=>.inr (.inr h))),fun h=>h.elim (fun h=>.inr (.inl h)) (fun h=>h.elim .inl (fun h=>.inr (.inr h)))⟩
def vJ:Nat:=aU+1
def ef(ρ:List Nat)(i:Nat):Nat:=ρ.getD i vJ
def nL(g:Nat->Nat)(H:List af):List Nat->List af->Prop
 | [],[]=>True
 | i::ρ,ob::H0=>(∃cT,H[i]?=some cT/\rh cT (ob.cG g))/\nL g H ρ H0
 | _,_=>False
theorem nI{g:Nat->Nat}{H:List af}:∀{ρ:List Nat} {H0:List af},nL g H ρ H0->ρ.length=H0.length
 | [],[],_=>rfl
 | _::_,_::_,h=>by simp[nI h.2]
 | [],_::_,h=>h.elim
 | _::_,[],h=>h.elim
theorem nH{g:Nat->Nat}{H:List af}:∀{ρ:List Nat} {H0:List af},nL g H ρ H0->∀(i:Nat) (ob:af),H0[i]?=some ob->∃j cT,ρ[i]?=some j/\H[j]?=some cT/\rh cT (ob.cG g)
 | [],[],_,i,ob,h=>by simp at h
 | j::ρ,o::H0,h,0,ob,hb=>by
   simp at hb;subst hb;obtain ⟨⟨cT,h1,h2⟩,_⟩:=h;exact ⟨j,cT,rfl,h1,h2⟩
 | j::ρ,o::H0,h,i+1,ob,hb=>by
   obtain ⟨j',cT,h1,h2⟩:=nH h.2 i ob (by simpa using hb);exact ⟨j',cT,by simpa using h1,h2⟩
 | [],_::_,h,_,_,_=>h.elim
 | _::_,[],h,_,_,_=>h.elim
def eg:List Nat->Bool
 | []=>true
 | i::l=>l.all (fun j=>!Nat.beq i j)&&eg l
theorem jj:∀{l:List Nat},eg l=true->l.Nodup
 | [],_=>List.nodup_nil
 | i::l,h=>by
   simp only[eg,Bool.and_eq_true,List.all_eq_true,Bool.not_eq_true'] at h;exact List.nodup_cons.2 ⟨fun hi=>by have:=h.1 i hi;simp at this,jj h.2⟩
theorem vc:∀{l:List Nat},l.Nodup->∀{i j:Nat} (hi:i<l.length) (hj:j<l.length),l[i]=l[j]->i=j
 | [],_,i,_,hi,_,_=>absurd hi (by simp)
 | a::l,h,0,0,_,_,_=>rfl
 | a::l,h,0,j+1,_,hj,e=>by
   simp only[List.getElem_cons_zero,List.getElem_cons_succ] at e;exact absurd (by rw[e];exact List.getElem_mem _) (List.nodup_cons.1 h).1
 | a::l,h,i+1,0,hi,_,e=>by
   simp only[List.getElem_cons_zero,List.getElem_cons_succ] at e;exact absurd (by rw[<-e];exact List.getElem_mem _) (List.nodup_cons.1 h).1
 | a::l,h,i+1,j+1,hi,hj,e=>by
   simp only[List.getElem_cons_succ] at e;rw[vc (List.nodup_cons.1 h).2 (by simpa using hi) (by simpa using hj) e]
theorem lj{ρ:List Nat}{i:Nat}(h:i<ρ.length):ef ρ i=ρ[i]:=by simp[ef,List.getD,h]
theorem vV{ρ:List Nat}{i:Nat}(h:ρ.length<=i):ef ρ i=vJ:=by simp[ef,List.getD,h]
theorem lT{F:di}{γ:aK}{H:List af}{w:World}(h:aL F γ (hp H) w):γ vJ=none:=h.jv _ (by have:=h.aU;unfold vJ;omega)
theorem aL.sub{F:di}{γ:aK}{H H0:List af}{w:World}{ρ:List Nat}(h:aL F γ (hp H) w)(hs:nL (ef ρ) H ρ H0)(hn:eg ρ=true)(hl:Nat.ble H0.length aU=true):aL F (fun o=>γ (ef ρ o)) (hp H0) w:=by
 have hlen:=nI hs;have eO:H0.length<=aU:=Nat.le_of_ble_eq_true hl;have mP:=jj hn;have qW:=lT h;have im:∀{o:Nat},γ (ef ρ o)≠none->o<ρ.length:=fun {o} hq=>by
  rcases Nat.lt_or_ge o ρ.length with h1|h1
  ·exact h1
  ·rw[vV h1] at hq;exact absurd qW hq
 have Dd:∀{o:Nat},o<ρ.length->∃ob cT,H0[o]?=some ob/\H[ef ρ o]?=some cT/\vw cT=(vw ob).cG (ef ρ):=fun {o} ho=>by
  have hb:H0[o]?=some H0[o]:=List.getElem?_eq_getElem (by omega);obtain ⟨j,cT,h1,h2,h3⟩:=nH hs o _ hb;refine ⟨_,cT,hb,?_,by rw[h3.eq.1,FA]⟩;rw[lj ho];rw[List.getElem?_eq_getElem ho] at h1;cases h1
  exact h2
 refine ⟨⟨fun o ho=>?_,fun o p bN=>?_,fun o ho=>?_,fun o o' p p' h1 h2 e=>?_,eO⟩,fun o p bN=>?_,h.frame.less fun o p bN=>⟨_,p,bN,rfl⟩⟩
 ·have ho:H0.length<=o:=ho;rw[vV (by omega)];exact qW
 ·have ho:=im (o:=o) (by rw[bN];simp);obtain ⟨ob,cT,h1,h2,h3⟩:=Dd ho;obtain ⟨XL,h4,h5⟩:=h.obj _ p bN;rw[aT h.aU,h2] at h4;simp only[Option.map_some,Option.some.injEq] at h4;subst h4;rw[h3] at h5;exact ⟨vw ob,by rw[aT eO,h1];rfl,yG.1 h5⟩
 ·have ah:=im (o:=o) (by rw[ho];simp);obtain ⟨ob,cT,h1,h2,h3⟩:=Dd ah;have h4:=h.gone _ ho;rw[aT h.aU,h2] at h4;simp only[Option.map_some,Option.some.injEq] at h4;rw[h4] at h3;rw[aT eO,h1];simp only[Option.map_some,Option.some.injEq];exact Dy h3.symm
 ·have e1:=im (o:=o) (by rw[h1];simp);have e2:=im (o:=o') (by rw[h2];simp);have e3:=h.inj _ _ p p' h1 h2 e;rw[lj e1,lj e2] at e3;exact vc mP e1 e2 e3
 ·have ho:=im (o:=o) (by rw[bN];simp);obtain ⟨ob,cT,h1,h2,h3⟩:=Dd ho;have h4:=h.live _ p bN;rw[aT h.aU,h2] at h4;rw[aT eO,h1];intro e;apply h4;simp only[Option.map_some,Option.some.injEq] at e ⊢;rw[h3,e];rfl
def qG:List Nat->List aH->List aH
 | [],L=>L
 | i::ρ,L=>qG ρ (L.set i aA)
theorem vA{g:Nat->Nat}{H:List af}:∀{ρ:List Nat} {H0:List af} {L:List aH},nL g H ρ H0->ρ.Nodup->(∀i,i∈ρ->L[i]?=(cC H)[i]?)->∀w T,bw L w T ->
  ∃T1 T2,bw (cC H0) w T1/\bw (qG ρ L) w T2/\(∀b,T1 b->T2 b->False)/\∀b,T1 b\/T2 b->T b
 | [],[],L,_,_,_=>fun w T h=>⟨fun _=>False,T,fun _ h=>h,h,fun _ h _=>h,fun b h=>h.elim False.elim id⟩
 | j::ρ,ob::H0,L,h,hn,hL=>fun w T ht=>by
   obtain ⟨⟨cT,h1,h2⟩,h3⟩:=h;have hj:L[j]?=some (kh cT):=by rw[hL j (by simp)];unfold cC;rw[List.getElem?_map,h1];rfl
   obtain ⟨S1,S2,a1,a2,a3,a4⟩:=db ht hj;have mP:=List.nodup_cons.1 hn;obtain ⟨T1,T2,b1,b2,b3,b4⟩:=vA (L:=L.set j aA) h3 mP.2 (fun i hi=>by
    rw[List.getElem?_set,if_neg (fun e=>mP.1 (by rw[e];exact hi))];exact hL i (List.mem_cons_of_mem _ hi)) w S2 a2
   have hr:=h2.eq.2 w S1 a1;rw[xV] at hr;refine ⟨fun b=>S1 b\/T1 b,T2,⟨S1,T1,hr,b1,fun b x y=>a3 b x (b4 b (.inl y)),fun b=>Iff.rfl⟩,b2,fun b x y=>x.elim (fun x=>a3 b x (b4 b (.inr y))) (fun x=>b3 b x y),fun b hb=>(a4 b).2 ?_⟩;rcases hb with (hb|hb)|hb
   ·exact .inl hb
   ·exact .inr (b4 b (.inl hb))
   ·exact .inr (b4 b (.inr hb))
 | [],_::_,_,h,_,_=>h.elim
 | _::_,[],_,h,_,_=>h.elim
theorem Rl.sub{F:di}{γ:aK}{H H0:List af}{w:World}{ρ:List Nat}(h:Rl F γ H w)(hs:nL (ef ρ) H ρ H0)(hn:eg ρ=true)(hl:Nat.ble H0.length aU=true):Rl F (fun o=>γ (ef ρ o)) H0 w:=by
 refine ⟨h.rel.sub hs hn hl,fun o ho=>?_,?_⟩;case refine_2=>
  obtain ⟨T,h1,h2⟩:=h.rs.out;obtain ⟨T',_,h3,_,_,h4⟩:=vA hs (jj hn) (fun _ _=>rfl) w T h1;exact ⟨T',h3,fun b hb=>⟨(h2 b (h4 b (.inl hb))).1,fun o p hp=>(h2 b (h4 b (.inl hb))).2 _ p hp⟩⟩
 have hlen:=nI hs;obtain ⟨j,cT,h1,h2,_⟩:=nH hs o _ (List.getElem?_eq_getElem ho);rw[List.getElem?_eq_getElem (by omega)] at h1;cases h1
 simp only[lj (show o<ρ.length by omega)];exact h.pl _ (List.getElem?_eq_some_iff.1 h2).1
def tp:List (Nat×AV)->ax
 | []=>.e
 | p::l=>(tp l).put p.1 p.2
def M9(g:Nat->Nat)(t:ax):List (Nat×AV)->Prop
 | []=>True
 | p::l=>(Nat.ble p.1 aU=true/\t.get p.1=some (p.2.cG g))/\M9 g t l
theorem La{g:Nat->Nat}{t:ax}:∀{l:List (Nat×AV)},M9 g t l->∀(i:Nat) (v:AV),(tp l).get i=some v->t.get i=some (v.cG g)
 | [],_,i,v,h=>by simp[tp,T.get] at h
 | p::l,hs,i,v,h=>by
   simp only[tp] at h;rw[T.bH _ _ _ _ (Nat.le_of_ble_eq_true hs.1.1)] at h;split at h
   ·rename_i e;cases h
    rw[e];exact hs.1.2
   ·exact La hs.2 i v h
def C8:Nat->List Nat->Nat->Bool
 | 0,_,_=>true
 | k+1,ρ,i=>match ρ with
   | []=>false
   | j::ρ=>Nat.beq j i&&C8 k ρ (i+1)
theorem At:∀{k:Nat} {ρ:List Nat} {i:Nat},C8 k ρ i=true->∀o,o<k->ρ[o]?=some (i+o)
 | 0,_,_,_,o,ho=>absurd ho (by omega)
 | k+1,[],i,h,o,ho=>by simp[C8] at h
 | k+1,j::ρ,i,h,o,ho=>by
   simp only[C8,Bool.and_eq_true] at h;cases o with
   | zero=>simp[Nat.eq_of_beq_eq_true h.1]
   | succ o=>
     have:=At h.2 o (by omega);simp only[List.getElem?_cons_succ];rw[this];congr 1;omega
structure Sub(k:Nat)(ρ:List Nat)(t:ax)(H:List af)(l:List (Nat×AV))(H0:List af):Prop where
 FY:(eg ρ&&C8 k ρ 0&&Nat.ble H0.length aU)=true
 tmps:M9 (ef ρ) t l
 uu:nL (ef ρ) H ρ H0
theorem Sub.fV{k:Nat}{ρ:List Nat}{t:ax}{H:List af}{l:List (Nat×AV)}{H0:List af}(h:Sub k ρ t H l H0)(γ:aK):Old k γ (fun o=>γ (ef ρ o)):=fun o ho p hp=>by
 have h1:=h.FY;simp only[Bool.and_eq_true] at h1;have h2:=At h1.1.2 o ho;have:ef ρ o=o:=by
  unfold ef List.getD;rw[h2];simp
 simp only[this];exact .inl hp
theorem Sub.rl{F:di}{γ:aK}{w:World}{k:Nat}{ρ:List Nat}{t:ax}{H:List af}{l:List (Nat×AV)}{H0:List af}(h:Sub k ρ t H l H0)(hR:Rl F γ H w):Rl F (fun o=>γ (ef ρ o)) H0 w:=by
 have h1:=h.FY;simp only[Bool.and_eq_true] at h1;exact hR.sub h.uu h1.1.1 h1.2
theorem Sub.ct{γ:aK}{n:Nat}{a:Act}{k:Nat}{ρ:List Nat}{t:ax}{H:List af}{l:List (Nat×AV)}{H0:List af}(h:Sub k ρ t H l H0)(hT:cE γ n t a):cE (fun o=>γ (ef ρ o)) n (tp l) a:=
 ⟨hT.size,hT.defers,fun i v hv=>let ⟨x,h1,h2⟩:=hT.get i _ (La h.tmps i v hv);⟨x,h1,(eJ v x).1 h2⟩⟩
theorem aJ.sub{P:Program}{n k:Nat}{c:Code}{t:ax}{H:List af}{Q:fp->ax->List af->Prop}(ρ:List Nat){l:List (Nat×AV)}{H0:List af}(hs:Sub k ρ t H l H0)(h:aJ P n k c (tp l) H0 Q):aJ P n k c t H Q:=
 ⟨fun F γ w a R hR hT hQ=>h.out F _ w a R (hs.rl hR) (hs.ct hT) fun e t' H' aq a' w' h1 h2 h3 h4=>hQ e t' H' aq a' w' h1 h2 h3 ((hs.fV γ).trans h4)⟩
section
variable{P:Program}{E:Env}(hE:ch P E)
include hE
theorem aW{n k:Nat}(hn:Nat.ble n aU=true){b:Code}{t:ax}{H:List af}{Q:fp->ax->List af->Prop}{ι:Type}(T:ι->List (Nat×AV))(Hs:ι->List af)(I:ι->Prop)(m:ι->Nat)(s0:ι)(i0:I s0)(qQ:List Nat)(h0:Sub k qQ t H (T s0) (Hs s0))
  (hb:∀s,I s->aF E P n k b (tp (T s)) (Hs s) (fun e t' H'=>match e with
   | .normal=>∃s' ρ,(I s'/\m s'<m s)/\Sub k ρ t' H' (T s') (Hs s')
   | .exit id=>Q (.exit id) t' H'
   | .goto l=>Q (.goto l) t' H'
   | .ret=>Q .ret t' H')):aJ P n k (.loop b) t H Q:=by
 have hn:=Nat.le_of_ble_eq_true hn;refine ⟨fun F γ w a R hR hT hQ=>?_⟩;have key:∀(f:Nat) (s:ι),I s->m s<f->∀(eT:aK) (w:World) (a:Act),Rl F eT (Hs s) w->cE eT n (tp (T s)) a->Old k γ eT->Code.rounds P b R f a w:=by
  intro f;induction f with
  | zero=>intro s _ h;exact absurd h (by omega)
  | succ f ih=>
    intro s hi hm eT w a hR hT hold;rw[rounds_succ];refine (nf hE hn b _ _ _ (hb s hi)).out F eT w a _ hR hT fun e t' H' aq a' w' hq ky fT uR=>?_;cases e with
    | normal=>
      obtain ⟨s',ρ,⟨j4,ah⟩,hs⟩:=hq;exact ih s' j4 (by omega) _ w' a' (hs.rl ky) (hs.ct fT) ((hold.trans uR).trans (hs.fV aq))
    | exit id=>exact hQ _ t' H' aq a' w' hq ky fT (hold.trans uR)
    | goto l=>exact hQ _ t' H' aq a' w' hq ky fT (hold.trans uR)
    | ret=>exact hQ _ t' H' aq a' w' hq ky fT (hold.trans uR)
 exact wp_loop_rounds (m s0+1) (key _ s0 i0 (by omega) _ w a (h0.rl hR) (h0.ct hT) (h0.fV γ))
end
end Go.Proofs.YtmbdghclhpboaaaGreat.Ev

/- Part of the proof: SyK. Conditions: as each states. -/
import Derived.Test.YtmbdghclhpboaaaGreatPb15
import Derived.Deep.MidRow
set_option linter.all false
namespace Go.Proofs.YtmbdghclhpboaaaGreat.Ev
open Go.RowKit
theorem stars_put:∀{L:List Res} {w:World} {S1 S2:Nat→Prop} {i:Nat} {r:Res},stars (L.set i resNil) w S2→i<L.length→r.at_ w S1→(∀b,S1 b→S2 b→False)→stars (L.set i r) w (fun b=>S1 b∨S2 b)
 | [],_,_,_,_,_,_,h,_,_=>by simp at h
 | x::L,w,S1,S2,0,r,⟨A,B,h1,h2,_,hT⟩,_,h3,hd=>by
   refine ⟨S1,B,h3,h2,fun b x y=>hd b x ((hT b).2 (.inr y)),fun b=>?_⟩
   show S1 b∨S2 b↔S1 b∨B b
   rw[hT b]
   exact ⟨fun h=>h.elim .inl (fun h=>h.elim (fun h=>absurd h (h1 b)) .inr),fun h=>h.elim .inl (fun h=>.inr (.inr h))⟩
 | x::L,w,S1,S2,i+1,r,⟨A,B,h1,h2,hAB,hT⟩,hi,h3,hd=>by
   have h4:=stars_put h2 (by simpa using hi) h3 (fun b x y=>hd b x ((hT b).2 (.inr y)))
   refine ⟨A,fun b=>S1 b∨B b,h1,h4,fun b x y=>y.elim (fun y=>hd b y ((hT b).2 (.inl x))) (hAB b x),fun b=>?_⟩
   show S1 b∨S2 b↔A b∨(S1 b∨B b)
   rw[hT b]
   exact ⟨fun h=>h.elim (fun h=>.inr (.inl h)) (fun h=>h.elim .inl (fun h=>.inr (.inr h))),fun h=>h.elim (fun h=>.inr (.inl h)) (fun h=>h.elim .inl (fun h=>.inr (.inr h)))⟩
theorem RelL.chg{F:Frz}{γ:Gam}{σ:AS}{w w':World}{S:Nat→Prop}(h:RelL F γ σ w)(c:Chg S w w')(hS:∀b,S b→¬F.fz b∧∀o p,γ o=some (some p)→p.block≠b):RelL F γ σ w':=
 ⟨⟨h.dom,fun o p hp=>let ⟨ob,h1,h2⟩:=h.obj o p hp;⟨ob,h1,h2.mono (.refl γ) (c.block _ (h.lt hp) fun hs=>(hS _ hs).2 o p hp rfl)⟩,h.gone,h.inj,h.lim⟩,h.live,
  ⟨c.os.trans h.frame.os,c.tape.trans h.frame.tape,c.output.trans h.frame.output,Nat.le_trans h.frame.size c.size,h.frame.old,fun b hb=>(c.block b (Nat.lt_of_lt_of_le (h.frame.old b hb) h.frame.size) fun hs=>(hS b hs).1 hb).trans (h.frame.block b hb),h.frame.own⟩⟩
theorem hp_setR{H:List AObj}{i:Nat}{R R':Res}(hi:H[i]?=some (.res R)):hp (H.set i (.res R'))=hp H:=hp_vw (by
 apply List.ext_getElem?
 intro j
 rw[List.getElem?_map,List.getElem?_map,List.getElem?_set]
 split
 ·rename_i e
  subst e
  obtain ⟨hl,_⟩:=List.getElem?_eq_some_iff.1 hi
  rw[if_pos hl,hi]
  rfl
 ·rfl)
theorem turn_res{F:Frz}{γ:Gam}{H:List AObj}{w:World}{i:Nat}{R:Res}(hR:RelL F γ (hp H) w)(hrs:Rs F γ H w)(hi:H[i]?=some (.res R)) :
  ∃S1,R.at_ w S1∧∀w' S1' R',R'.at_ w' S1'→(∀b,S1' b→S1 b∨w.heap.size≤b)→Chg S1 w w'→RelL F γ (hp (H.set i (.res R'))) w'∧Rs F γ (H.set i (.res R')) w':=by
 obtain ⟨T,hT,hT2⟩:=hrs.out
 have hti:(rss H)[i]?=some R:=by unfold rss;rw[List.getElem?_map,hi];rfl
 have hil:i<(rss H).length:=(List.getElem?_eq_some_iff.1 hti).1
 obtain ⟨S1,S2,b1,b2,b3,b4⟩:=stars_at hT hti
 refine ⟨S1,b1,fun w' S1' R' k1 k2 k3=>?_⟩
 have hS1:∀b,S1 b→¬F.fz b∧∀o p,γ o=some (some p)→p.block≠b:=fun b hb=>hT2 b ((b4 b).2 (.inl hb))
 refine ⟨by rw[hp_setR hi];exact hR.chg k3 hS1,fun b=>S1' b∨S2 b,?_,fun b hb=>?_⟩
 ·have e:rss (H.set i (.res R'))=(rss H).set i R':=by unfold rss;rw[List.map_set];rfl
  rw[e]
  refine stars_put (stars_keep b2 fun b hb=>k3.block b (stars_lt b2 hb) fun hs=>b3 b hs hb) hil k1 fun b x y=>?_
  rcases k2 b x with x|x
  ·exact b3 b x y
  ·have:=stars_lt b2 y;omega
 ·rcases hb with hb|hb
  ·rcases k2 b hb with x|x
   ·exact hS1 b x
   ·refine ⟨fun hf=>?_,fun o p hp e=>?_⟩
    ·have:=hR.frame.old b hf;have:=hR.frame.size;omega
    ·have:=hR.lt hp;omega
  ·exact hT2 b ((b4 b).2 (.inr hb))
theorem infoL_of{P:Program}{t:TypeId}{i:TypeInfo}(w:World)(h:∀w,(typeInfo t).run P w=.ok i w):P.info? t=some i:=by
 have h:=h w
 unfold typeInfo at h
 cases hi:P.info? t with
 | none=>simp[hi] at h
 | some j=>simp[hi] at h;rw[h]
section
variable{P:Program}{E:Env}{S:List Nat}{t:Tmps}{H:List AObj}{K:AV→List AObj→Prop}
theorem OpM.appL(hE:EnvOk P E){α:Type}{enc:α→List Value}{k:Nat}{ty elem:TypeId}(hA:AppT E ty elem k)(hk:∀a,(enc a).length=k)(h0:0<k)(h1:∀a,∀u∈enc a,u.oneCell'=true){c:Call}{s x:Operand}{v:Value}{l:List α}{ox cp:Nat}{ys:List AV}{ex:TypeId}{y:α}{i:Nat}{R R1:Res}{R':Value→Res}
  (hc:c={ callee:=.builtin .append,args:=#[s,x],argTypes:=#[ty,ty] }) (hs:opnd t s=some (.lit v)) (hx:opnd t x=some (.slice ox 0 1 (.k cp))) (hox:H[ox]?=some (.cells ys ex)) (hS:memN S ox=false) (hl:litsO ys=some (enc y)) (hi:H[i]?=some (.res R))
  (hsp:∀w S,R.at_ w S→stars [OwnR enc k elem v l,R1] w S) (hjn:∀v' w S,stars [OwnR enc k elem v' (l++[y]),R1] w S→(R' v').at_ w S) (hlen:l.length+1≤2147483648)
  (kk:∀A n,setK H i (.res (R' (.slice (some A) (l.length+1) n))) fun H'=>K (.lit (.slice (some A) (l.length+1) n)) H'):OpM P S t H (.call c) K:=
 ⟨fun F γ w ρ hR hpl hrs hρ o ho=>by
  subst hc
  obtain ⟨r,hr,hu⟩:=hA.ty
  obtain ⟨er,z,he,hes,hz,hzc,hb⟩:=hA.el
  have q1:=hρ s _ (by simp[Op.operands,Call.operands]) hs
  have q2:=hρ x _ (by simp[Op.operands,Call.operands]) hx
  rw[conc_lit_iff] at q1
  simp only[Conc] at q2
  obtain ⟨a,c,e2,hat,h1c,_⟩:=q2
  have hSn:ox∉S:=fun h=>by rw[memN_t.2 h] at hS;cases hS
  have hoxl:=(List.getElem?_eq_some_iff.1 hox).1
  have hlt:H.length≤lim:=hR.lim
  obtain ⟨p,hp,hob⟩:=hR.toRel.find (o:=ox) (ob:=.cells ys ex) (by rw[hp_get hlt,hox];rfl) (by simp) (hpl ox hoxl hSn)
  have hat:atP γ ox 0 a:=hat.resolve_left (by omega)
  unfold atP at hat
  rw[hp] at hat
  simp only[Nat.add_zero] at hat
  obtain ⟨cc,g1,g2,g3,g4⟩:=hob
  obtain ⟨S1,hRS,hturn⟩:=turn_res hR hrs hi
  obtain ⟨A,B,hA1,⟨B1,B2,hB1,hB2,hBd,hB⟩,hAB,hS1⟩:=hsp w S1 hRS
  have hown:Own enc k elem w 0 v l:=hA1.1
  have hys:=litsO_ok hl
  have hzs:z.cells.size=k:=by
   have:=concs_length (conc_cells (conc_ofValue γ z))
   rw[hzc] at this
   simpa using this
  obtain ⟨g,cap,w',r1,r2,r3,r4,r5⟩:=run_append_lies (P:=P) w ty o.type 0 elem er.info z k er.info.bytes (by rw[hE.und ty r hr,hu]) (infoL_of w (hE.info elem er he)) hz hes rfl hzs h0 v l.length _ hown a 1 c (enc y) (by rw[hk,Nat.one_mul]) (fun j u hj=>by
   have hj2:ys[j]?=some (.lit u):=by rw[hys];simp[hj]
   obtain ⟨x',k1,k2⟩:=g4 j _ hj2
   rw[conc_lit_iff] at k2
   rw[hat]
   have e:(⟨p.block,p.base,none⟩:Addr).add j=⟨p.block,p.base+j,none⟩:=by unfold Addr.add;split<;>simp_all
   rw[e,cell_of_row w p.block (p.base+j) cc ex (0,0) g1,k1,k2]) (h1 y) (by omega) (by unfold maxLen;omega) (Nat.le_trans (Nat.mul_le_mul hlen hb) (by decide)) (Nat.zero_le _) _ rfl
  have hfar:∀b,B b→b<w.heap.size∧some b≠v.ownBlock:=fun b hb=>by
   refine ⟨?_,fun e=>hAB b ((hA1.2 b).2 e.symm) hb⟩
   rcases (hB b).1 hb with h|h
   ·exact R1.lt hB1 h
   ·exact absurd h (hB2 b)
  have hv':∀b,(Value.slice (some ⟨g,0,none⟩) (l.length+1) cap).ownBlock=some b↔b=g:=fun b=>by simp[Value.ownBlock,eq_comm]
  have hdis:∀b,b=g→B b→False:=fun b e hb=>by
   subst e
   have h5:=hfar b hb
   rcases r4 with h6|h6
   ·exact h5.2 h6.symm
   ·omega
  have hsub:∀b,(b=g∨B b)→S1 b∨w.heap.size≤b:=fun b hb=>by
   rcases hb with rfl|hb
   ·rcases r4 with h6|h6
    ·exact .inl ((hS1 b).2 (.inl ((hA1.2 b).2 h6)))
    ·exact .inr (by omega)
   ·exact .inl ((hS1 b).2 (.inr hb))
  have hst:stars [OwnR enc k elem (.slice (some ⟨g,0,none⟩) (l.length+1) cap) (l++[y]),R1] w' (fun b=>b=g∨B b):=
   ⟨fun b=>b=g,B,⟨by
    have:=r2
    unfold Own
    rw[List.length_append,List.flatMap_append]
    simpa using this,fun b=>(hv' b).symm⟩,⟨B1,B2,R1.keep hB1 fun b hb=>r3.block b (hfar b ((hB b).2 (.inl hb))).1 (hfar b ((hB b).2 (.inl hb))).2,hB2,hBd,hB⟩,hdis,fun b=>Iff.rfl⟩
  obtain ⟨u1,u2⟩:=hturn w' (fun b=>b=g∨B b) (R' (.slice (some ⟨g,0,none⟩) (l.length+1) cap)) (hjn _ _ _ hst) hsub ⟨r3.os,r3.tape,r3.output,r3.size,fun b hb hn=>r3.block b hb fun e=>hn ((hS1 b).2 (.inl ((hA1.2 b).2 e.symm)))⟩
  have hk2:=kk ⟨g,0,none⟩ cap
  rw[setK_eq] at hk2
  refine ⟨_,_,γ,.value (.slice (some ⟨g,0,none⟩) (l.length+1) cap),w',?_,.inl ⟨_,rfl,conc_lit γ _⟩,hk2,u1,?_,fun q hq=>hpl q (by simpa using hq),u2⟩
  ·obtain ⟨dst,op,type,pos,after,guard⟩:=o
   simp only[] at ho
   subst ho
   simp only[execOp,resolve,invoke,builtin,Sem.run_bind,Sem.run_pure,Result.andThen_ok,List.map_toArray,List.map_cons,List.map_nil,q1,e2,r1]
  ·rw[hp_setR hi]
   exact .refl γ _⟩
theorem OpP.om{op:Op}(h:OpM P S t H op K):OpP E P true S t H op K:=⟨.inr ⟨rfl,h⟩⟩
theorem AppP.om{c:Call}{ty:TypeId}{s x:AV}(h:OpM P S t H (.call c) K):AppP E P true S t c ty s x H K:=⟨.inr ⟨rfl,h⟩⟩
theorem OpP.rowPut{m:Bool}{ty e:TypeId}{a v':Operand}{p off size:Nat}{v:AV}{xs vs:List Value}{r:TyRow}(ha:opnd t a=some (.ptr p off))(hv:opnd t v'=some v)(ho:H[p]?=some (.row xs e))(hty:E.ty ty=some r)(hsz:r.info.size=size)(hvc:litsO v.cells=some vs)(hlen:Nat.beq vs.length size=true)(hone:v.cells.all AV.one=true)(hoff:off+size≤xs.length)(hl:Nat.ble H.length lim=true)
  (k:setK H p (.row (setFrom xs off vs) e) fun H'=>K undefV H'):OpP E P m S t H (.store ty a v') K:=.ev (by
 have hl:=Nat.le_of_ble_eq_true hl
 have hlt:=(List.getElem?_eq_some_iff.1 ho).1
 have hg:(hp H).heap.get p=some (.cells (xs.map .lit) e):=by rw[hp_get hl,ho];rfl
 rw[setK_eq] at k
 have hvv:=litsO_ok hvc
 have hn:=Nat.eq_of_beq_eq_true hlen
 have e1:setFrom (xs.map AV.lit) off v.cells=(setFrom xs off vs).map AV.lit:=by
  rw[hvv];unfold setFrom;simp[List.map_take,List.map_drop]
 refine ⟨.act undefV { hp H with heap:=(hp H).heap.put p (vw (.row (setFrom xs off vs) e)) },?_,_,hpEq_set (ob:=.row (setFrom xs off vs) e) hl hlt,newOk_same _,.of_eq (rss_set (ob:=.row (setFrom xs off vs) e) ho rfl).symm,k⟩
 simp only[evOp,ha,hv,storeA,hty,hg,hone,Bool.and_true]
 rw[show Nat.beq v.cells.length r.info.size=true by rw[hvv,List.length_map,hn,hsz];exact Nat.beq_refl _,show Nat.ble (off+r.info.size) (xs.map AV.lit).length=true from Nat.ble_eq_true_of_le (by rw[hsz,List.length_map];exact hoff)]
 simp only[Bool.and_self,Option.map_some,e1,vw])
end
theorem setFrom_one{α:Type}{x:α}:∀{xs:List α} {i:Nat},i<xs.length→setFrom xs i [x]=xs.set i x
 | y::xs,0,_=>by simp[setFrom]
 | y::xs,i+1,h=>by
   have:=setFrom_one (x:=x) (xs:=xs) (i:=i) (by simpa using h)
   unfold setFrom at this ⊢
   simp only[List.take_succ_cons,List.cons_append,List.set_cons_succ,List.length_cons,List.length_nil,Nat.zero_add,List.cons.injEq,true_and]
   simpa using this
section
variable{α:Type}{enc:α→List Value}{k:Nat}(hk:∀a,(enc a).length=k)
include hk
theorem row_put:∀(l:List α) (i:Nat) (x:α),i<l.length→setFrom (l.flatMap enc) (i * k) (enc x)=(l.set i x).flatMap enc
 | [],i,x,h=>absurd h (by simp)
 | a::l,0,x,_=>by
   unfold setFrom
   simp only[Nat.zero_mul,List.take_zero,List.nil_append,Nat.zero_add,List.flatMap_cons,List.set_cons_zero,hk]
   rw[List.drop_append,List.drop_of_length_le (by rw[hk];exact Nat.le_refl _),hk,Nat.sub_self,List.drop_zero,List.nil_append]
 | a::l,i+1,x,h=>by
   have ih:=row_put l i x (by simpa using h)
   unfold setFrom at ih ⊢
   have e:(i+1) * k=k+i * k:=by rw[Nat.add_mul];omega
   rw[e,List.flatMap_cons,List.set_cons_succ,List.flatMap_cons,←ih,List.take_append,List.take_of_length_le (by rw[hk];omega),hk,List.drop_append,List.drop_of_length_le (by rw[hk];omega),hk]
   rw[show k+i * k - k=i * k by omega,show k+i * k+k - (enc a).length=i * k+k by rw[hk];omega]
   simp[List.append_assoc]
theorem row_get{l:List α}{i j:Nat}{u:Value}(hi:i<l.length)(hj:(enc l[i])[j]?=some u):(l.flatMap enc)[i * k+j]?=some u:=by
 have hdt:=flat_at hk l i hi
 have hjk:j<k:=by have:=(List.getElem?_eq_some_iff.1 hj).1;rwa [hk] at this
 rw[←hdt,List.getElem?_take,if_pos hjk,List.getElem?_drop] at hj
 exact hj
end
section
variable{α:Type}{enc:α→List Value}{k:Nat}{l:List α}{i:Nat}{a:α}
theorem get_lt{α:Type}{l:List α}{i:Nat}{a:α}(h:l[i]?=some a):i<l.length:=(List.getElem?_eq_some_iff.1 h).1
theorem get_el{α:Type}{l:List α}{i:Nat}{a:α}(h:l[i]?=some a):l[i]'(get_lt h)=a:=(List.getElem?_eq_some_iff.1 h).2
theorem get_set{α:Type}{l:List α}{i:Nat}{a b:α}(h:l[i]?=some a):(l.set i b)[i]?=some b:=by rw[List.getElem?_set,if_pos rfl,if_pos (get_lt h)]
theorem RowP.fld{K:AV→Prop}{off j size:Nat}{u:Value}(hk:∀a,(enc a).length=k)(h:l[i]?=some a)(ho:off=0+i * k+j)(hj:(enc a)[j]?=some u)(q:K (.lit u)):RowP (l.flatMap enc) off size false K:=by
 subst ho
 rw[Nat.zero_add]
 exact RowP.one u (row_get hk (get_lt h) (by rw[get_el h];exact hj)) q
theorem RowP.flds{K:AV→Prop}{off j size:Nat}{cs:List Value}(hk:∀a,(enc a).length=k)(h:l[i]?=some a)(ho:off=0+i * k+j)(hj:Nat.ble (j+size) k=true)(hcs:((enc a).drop j).take size=cs)(q:K (.agg (cs.map .lit))):RowP (l.flatMap enc) off size true K:=by
 subst ho
 have hj:=Nat.le_of_ble_eq_true hj
 have hlen:=flat_len hk l
 have hb:i * k+k≤l.length * k:=by
  have:=Nat.mul_le_mul_right k (get_lt h)
  rwa [Nat.succ_mul] at this
 refine RowP.agg cs (by omega) ?_ q
 rw[←hcs,←get_el h,←flat_at hk l i (get_lt h),Nat.zero_add]
 apply List.ext_getElem?
 intro q
 rw[List.getElem?_take,List.getElem?_take,List.getElem?_drop,List.getElem?_drop,List.getElem?_take,List.getElem?_drop]
 split
 ·rw[if_pos (by omega)];congr 1;omega
 ·rfl
end
theorem setFrom_set{α:Type}{xs vs:List α}{off:Nat}(h:off+vs.length≤xs.length)(q:Nat):(setFrom xs off vs)[q]?=if off≤q∧q<off+vs.length then vs[q - off]? else xs[q]?:=setFrom_get xs vs off q h
theorem row_flds{α:Type}{enc:α→List Value}{k:Nat}(hk:∀a,(enc a).length=k){l:List α}{i j:Nat}{us:List Value}{a x:α}(h:l[i]?=some a)(hj:j+us.length≤k)(he:enc x=setFrom (enc a) j us):setFrom (l.flatMap enc) (i * k+j) us=(l.set i x).flatMap enc:=by
 have hlen:=flat_len hk l
 have hb:i * k+k≤l.length * k:=by
  have:=Nat.mul_le_mul_right k (get_lt h)
  rwa [Nat.succ_mul] at this
 rw[←row_put hk l i x (get_lt h)]
 have hdt:=flat_at hk l i (get_lt h)
 rw[get_el h] at hdt
 apply List.ext_getElem?
 intro q
 rw[setFrom_set (by omega),setFrom_set (by rw[hk];omega),he]
 by_cases h1:i * k≤q∧q<i * k+k
 ·rw[if_pos (show i * k≤q∧q<i * k+(setFrom (enc a) j us).length by rw[setFrom_length _ _ _ (by rw[hk];exact hj),hk];exact h1),setFrom_set (by rw[hk];exact hj)]
  by_cases h2:i * k+j≤q∧q<i * k+j+us.length
  ·rw[if_pos h2,if_pos (by omega)]
   congr 1
   omega
  ·rw[if_neg h2,if_neg (by omega),←hdt,List.getElem?_take,if_pos (by omega),List.getElem?_drop]
   congr 1
   omega
 ·rw[if_neg (by omega),if_neg (show ¬(i * k≤q∧q<i * k+(setFrom (enc a) j us).length) by rw[setFrom_length _ _ _ (by rw[hk];exact hj),hk];exact h1)]
section
variable{P:Program}{E:Env}{S:List Nat}{t:Tmps}{H:List AObj}{K:AV→List AObj→Prop}
theorem OpP.rowFld{α:Type}{enc:α→List Value}{k:Nat}{l:List α}{i j:Nat}{a x:α}{m:Bool}{ty e:TypeId}{ad v':Operand}{p off size:Nat}{v:AV}{vs:List Value}{r:TyRow}(hk:∀a,(enc a).length=k)(h:l[i]?=some a)(ha:opnd t ad=some (.ptr p off))(hoff:off=0+i * k+j)(hv:opnd t v'=some v)(ho:H[p]?=some (.row (l.flatMap enc) e))(hty:E.ty ty=some r)(hsz:r.info.size=size)(hvc:litsO v.cells=some vs)(hlen:Nat.beq vs.length size=true)(hone:v.cells.all AV.one=true)(hj:Nat.ble (j+size) k=true)(hl:Nat.ble H.length lim=true)(he:enc x=setFrom (enc a) j vs)
  (q:setK H p (.row ((l.set i x).flatMap enc) e) fun H'=>K undefV H'):OpP E P m S t H (.store ty ad v') K:=by
 subst hoff
 have hj:=Nat.le_of_ble_eq_true hj
 have hn:=Nat.eq_of_beq_eq_true hlen
 have hlen2:=flat_len hk l
 have hb:i * k+k≤l.length * k:=by
  have:=Nat.mul_le_mul_right k (get_lt h)
  rwa [Nat.succ_mul] at this
 refine OpP.rowPut ha hv ho hty hsz hvc hlen hone (by omega) hl ?_
 rw[Nat.zero_add,row_flds hk h (by omega) he]
 exact q
end
theorem Rs.know{F:Frz}{γ:Gam}{H:List AObj}{w:World}{i:Nat}{R:Res}{q:Prop}(h:Rs F γ H w)(hi:H[i]?=some (.res R))(hq:∀w S,R.at_ w S→q):q:=by
 obtain ⟨T,hT,_⟩:=h.out
 obtain ⟨S1,_,b1,_⟩:=stars_at (i:=i) (r:=R) hT (by unfold rss;rw[List.getElem?_map,hi];rfl)
 exact hq w S1 b1
theorem CallS.know{P:Program}{S:List Nat}{f:Nat}{args:List AV}{H:List AObj}{K:AV→List AObj→Prop}{q:Prop}{R:Res}(i:Nat)(hi:H[i]?=some (.res R))(hq:∀w S,R.at_ w S→q)(c:q→CallS P S f args H K):CallS P S f args H K:=
 ⟨fun F γ w xs hR hpl hrs hxs=>(c (hrs.know hi hq)).out F γ w xs hR hpl hrs hxs⟩
theorem WpS.know{P:Program}{n k:Nat}{c:Code}{t:Tmps}{H:List AObj}{Q:AExit→Tmps→List AObj→Prop}{q:Prop}{R:Res}(i:Nat)(hi:H[i]?=some (.res R))(hq:∀w S,R.at_ w S→q)(h:q→WpS P n k c t H Q):WpS P n k c t H Q:=
 ⟨fun F γ w a R' hR hT hQ=>(h (hR.rs.know hi hq)).out F γ w a R' hR hT hQ⟩
theorem Ent.snocE{R:Res}(h:∀w,R.at_ w fun _=>False)(L:List Res):Ent L (L++[R]):=fun w T ht=>⟨T,fun _ h=>h,stars_append.2 ⟨T,fun _=>False,ht,⟨fun _=>False,fun _=>False,h w,fun _ h=>h,fun _ h _=>h,fun b=>by simp⟩,fun _ _ h=>h,fun b=>by simp⟩⟩
theorem Ent.split{L:List Res}{i j:Nat}{R R1 R2:Res}(hi:L[i]?=some R)(hj:L[j]?=some resNil)(hij:Nat.beq i j=false)(h:∀w S,R.at_ w S→stars [R2,R1] w S):Ent L ((L.set i R1).set j R2):=fun w T hT=>by
 have hij:=Nat.ne_of_beq_eq_false hij
 obtain ⟨S1,S2,h1,h2,h3,h4⟩:=stars_at hT hi
 obtain ⟨A,B,a1,⟨B1,B2,b1,b2,b3,b4⟩,a2,a3⟩:=h w S1 h1
 have hBB:∀b,B b↔B1 b:=fun b=>(b4 b).trans ⟨fun h=>h.elim id (fun h=>absurd h (b2 b)),.inl⟩
 have e1:=stars_put (i:=i) (r:=R1) h2 (get_lt hi) b1 (fun b x y=>h3 b ((a3 b).2 (.inr ((hBB b).2 x))) y)
 have hj':(L.set i R1)[j]?=some resNil:=by rw[List.getElem?_set,if_neg hij];exact hj
 obtain ⟨C1,C2,c1,c2,c3,c4⟩:=stars_at e1 hj'
 have e2:=stars_put (i:=j) (r:=R2) c2 (get_lt hj') a1 (fun b x y=>by
  rcases (c4 b).2 (.inr y) with h|h
  ·exact a2 b x ((hBB b).2 h)
  ·exact h3 b ((a3 b).2 (.inl x)) h)
 refine ⟨_,fun b hb=>?_,e2⟩
 rcases hb with hb|hb
 ·exact (h4 b).2 (.inl ((a3 b).2 (.inl hb)))
 ·rcases (c4 b).2 (.inr hb) with h|h
  ·exact (h4 b).2 (.inl ((a3 b).2 (.inr ((hBB b).2 h))))
  ·exact (h4 b).2 (.inr h)
theorem WpS.part{P:Program}{n k:Nat}{c:Code}{t:Tmps}{H:List AObj}{Q:AExit→Tmps→List AObj→Prop}{R:Res}(R1 R2:Res)(i:Nat)(hi:H[i]?=some (.res R))(h:∀w S,R.at_ w S→stars [R2,R1] w S)(hl:Nat.blt H.length lim=true)(q:WpS P n k c t (H.set i (.res R1)++[.res R2]) Q):WpS P n k c t H Q:=by
 have hil:=get_lt hi
 have e1:rss (H++[AObj.res resNil])=rss H++[resNil]:=by unfold rss;rw[List.map_append];rfl
 have e2:rss (H.set i (.res R1)++[.res R2])=((rss H++[resNil]).set i R1).set H.length R2:=by
  unfold rss
  rw[List.map_append,List.map_set,List.set_append_left _ _ (by rw[List.length_map];exact hil),List.set_append_right _ _ (by rw[List.length_set,List.length_map];exact Nat.le_refl _),List.length_set,List.length_map,Nat.sub_self]
  rfl
 refine WpS.pre ((Pre.more (R:=resNil) hl (Ent.snocNil _)).trans (Pre.same (H2:=H.set i (.res R1)++[.res R2]) ?_ ?_)) q
 ·rw[List.map_append,List.map_append,List.map_set]
  congr 1
  apply List.ext_getElem?
  intro j
  rw[List.getElem?_set]
  split
  ·rename_i e
   subst e
   rw[List.getElem?_map,hi,if_pos (by rw[List.length_map];exact hil)]
   rfl
  ·rfl
 ·rw[e1,e2]
  refine Ent.split (by rw[List.getElem?_append_left (by unfold rss;rw[List.length_map];exact hil)];unfold rss;rw[List.getElem?_map,hi];rfl) (by rw[List.getElem?_append_right (by unfold rss;rw[List.length_map];exact Nat.le_refl _)];unfold rss;simp) ?_ h
  cases hb:Nat.beq i H.length with
  | false=>rfl
  | true=>have:=Nat.eq_of_beq_eq_true hb;omega
theorem RdV.sl{α:Type}{P:Program}{E:Env}(hE:EnvOk P E){R:Res}{ty:TypeId}{size:Nat}{enc:α→List Value}{l:List α}{oa:Option Addr}{c:Nat}(hk:∀a,(enc a).length=size)(hty:∃r,E.ty ty=some r∧r.info.size=size∧isAggD r.und=true)(h:∀w S,R.at_ w S→∃B,Sl enc w B (.slice oa l.length c) l)(hR:∃w S,R.at_ w S):RdV P R ty size oa (fun a=>.agg (enc a).toArray) l:=fun hne=>by
 have hpos:0<l.length:=List.length_pos_iff.2 hne
 have key:∀w S,R.at_ w S→∃b off,oa=some ⟨b,off,none⟩∧Lay w b off (l.flatMap enc):=fun w S hw=>by
  obtain ⟨B,A,cap,e,_,_,h3⟩:=h w S hw
  injection e with e1 e2 e3
  subst e1
  obtain ⟨b,off,e,_,h4⟩:=h3 hpos
  exact ⟨b,off,e,h4⟩
 obtain ⟨w0,S0,h0⟩:=hR
 obtain ⟨b0,off0,e0,_⟩:=key w0 S0 h0
 refine ⟨_,e0,fun w S hw q hq=>?_⟩
 obtain ⟨b,off,e,hl⟩:=key w S hw
 rw[e0] at e
 cases e
 obtain ⟨r,hr,hs,hag⟩:=hty
 rw[Addr.add_mid]
 refine run_loadVar_mid w b0 (off0+q * size) ty (enc l[q]) r.und (fun j u hj=>?_) (hE.und ty r hr) (by unfold isAggD at hag;split at hag<;>simp_all) ?_
 ·have hjk:j<size:=by have:=get_lt hj;rwa [hk] at this
  have h1:=row_get hk hq hj
  have h2:=hl (q * size+j) u h1
  rw[←Nat.add_assoc] at h2
  exact h2
 ·rw[infoL_of w (hE.info ty r hr)]
  simp[hs,hk]
theorem AgP.row1{E:Env}{t:Tmps}{H:List AObj}{r:Row}{ty e:TypeId}{a:Operand}{p off d:Nat}{xs:List Value}{rr:TyRow}{u:Value}(hop:r.o.op=.load ty a)(hx:opnd t a=some (.ptr p off))(ho:H[p]?=some (.row xs e))(hl:Nat.ble H.length lim=true)(hty:E.ty ty=some rr)(hag:isAggD rr.und=false)(hu:xs[off]?=some u)(hd:r.o.dst=some d)(hv:t.get d=some (.lit u)):AgP E t H r:=⟨by
 have hg:(hp H).heap.get p=some (.cells (xs.map .lit) e):=by rw[hp_get (Nat.le_of_ble_eq_true hl),ho];rfl
 refine ⟨.read (.lit u),?_,?_⟩
 ·rw[hop]
  simp only[evOp,hx,loadAt,hg,partOf,hty,hag]
  simp[hu]
 ·simp only[hd]
  exact hv⟩
theorem AgP.fld{E:Env}{t:Tmps}{H:List AObj}{r:Row}{α:Type}{enc:α→List Value}{k:Nat}{l:List α}{i j:Nat}{b:α}{ty e:TypeId}{a:Operand}{p off d:Nat}{rr:TyRow}{u:Value}(hk:∀a,(enc a).length=k)(h:l[i]?=some b)(hop:r.o.op=.load ty a)(hx:opnd t a=some (.ptr p off))(hoff:off=0+i * k+j)(ho:H[p]?=some (.row (l.flatMap enc) e))(hl:Nat.ble H.length lim=true)(hty:E.ty ty=some rr)(hag:isAggD rr.und=false)(hu:(enc b)[j]?=some u)(hd:r.o.dst=some d)(hv:t.get d=some (.lit u)):AgP E t H r:=
 AgP.row1 hop hx ho hl hty hag (by subst hoff;rw[Nat.zero_add];exact row_get hk (get_lt h) (by rw[get_el h];exact hu)) hd hv
theorem AgP.flds{E:Env}{t:Tmps}{H:List AObj}{r:Row}{α:Type}{enc:α→List Value}{k:Nat}{l:List α}{i j:Nat}{b:α}{ty e:TypeId}{a:Operand}{p off d size:Nat}{rr:TyRow}{cs:List Value}(hk:∀a,(enc a).length=k)(h:l[i]?=some b)(hop:r.o.op=.load ty a)(hx:opnd t a=some (.ptr p off))(hoff:off=0+i * k+j)(ho:H[p]?=some (.row (l.flatMap enc) e))(hl:Nat.ble H.length lim=true)(hty:E.ty ty=some rr)(hag:isAggD rr.und=true)(hsz:rr.info.size=size)(hj:Nat.ble (j+size) k=true)(hcs:((enc b).drop j).take size=cs)(hd:r.o.dst=some d)(hv:t.get d=some (.agg (cs.map .lit))):AgP E t H r:=⟨by
 have hg:(hp H).heap.get p=some (.cells ((l.flatMap enc).map .lit) e):=by rw[hp_get (Nat.le_of_ble_eq_true hl),ho];rfl
 have hrow:RowP (l.flatMap enc) off size true (fun v=>v=.agg (cs.map .lit)):=RowP.flds hk h hoff hj hcs rfl
 obtain ⟨v,h1,rfl⟩:=hrow.out
 simp only[] at h1
 refine ⟨.read (.agg (cs.map .lit)),?_,?_⟩
 ·rw[hop]
  split at h1
  ·rename_i hle
   simp only[evOp,hx,loadAt,hg,partOf,hty,hag,hsz]
   rw[show Nat.ble (off+size) ((l.flatMap enc).map AV.lit).length=true from Nat.ble_eq_true_of_le (by rw[List.length_map];exact hle)]
   simp only[Option.map_some]
   rw[Option.some.inj h1]
  ·cases h1
 ·simp only[hd]
  exact hv⟩
end Go.Proofs.YtmbdghclhpboaaaGreat.Ev

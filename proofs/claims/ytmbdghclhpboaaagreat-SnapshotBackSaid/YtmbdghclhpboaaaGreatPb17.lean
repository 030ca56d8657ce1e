/- Part of the proof: SyL Num Codec Long SyM. Conditions: as each states. -/
import Derived.Test.YtmbdghclhpboaaaGreatPb16
import Derived.Test.YtmbdghclhpboaaaGreatRows
import Derived.WalkSpells
import Derived.WalkLawsBesides
import Derived.BigQuiet
import Derived.Lib.Hide
import Derived.Deep.RegionLaw
set_option linter.all false
set_option maxRecDepth 100000
set_option maxHeartbeats 8000000
namespace Go.Proofs.YtmbdghclhpboaaaGreat.Ev
open Go.RowKit
def SnapR(base:Nat)(w0:World):Res:=
 ⟨fun w S=>(∀b,S b↔base≤b∧b<w0.heap.size)∧∀b,base≤b→b<w0.heap.size→w.heap[b]?=w0.heap[b]?,fun {w S b} h hb=>by
  obtain ⟨h1,h2⟩:=(h.1 b).1 hb
  have:=h.2 b h1 h2
  rw[Array.getElem?_eq_getElem h2] at this
  exact (Array.getElem?_eq_some_iff.1 this).1,fun {w w' S} h hk=>⟨h.1,fun b h1 h2=>(hk b ((h.1 b).2 ⟨h1,h2⟩)).trans (h.2 b h1 h2)⟩⟩
theorem SnapR.cell{base:Nat}{w0 w:World}{S:Nat→Prop}(h:(SnapR base w0).at_ w S){a:Addr}{v:Value}(hb:base≤a.block)(hc:w0.cell? a=some v):w.cell? a=some v:=by
 have hlt:a.block<w0.heap.size:=by
  rcases Nat.lt_or_ge a.block w0.heap.size with h1|h1
  ·exact h1
  ·unfold World.cell? at hc
   simp[Array.getElem?_eq_none h1] at hc
 have e:=h.2 a.block hb hlt
 unfold World.cell? at hc ⊢
 rw[e]
 exact hc
theorem lay_lt{w:World}{b off:Nat}{cs:List Value}(h:Lay w b off cs)(hne:cs≠[]):b<w.heap.size:=by
 cases cs with
 | nil=>exact absurd rfl hne
 | cons v cs=>
   have:=h 0 v rfl
   rcases Nat.lt_or_ge b w.heap.size with h1|h1
   ·exact h1
   ·unfold World.cell? at this
    simp[Array.getElem?_eq_none h1] at this
theorem RdV.snap{α:Type}{P:Program}{E:Env}(hE:EnvOk P E){base:Nat}{w0:World}{ty:TypeId}{size:Nat}{enc:α→List Value}{l:List α}{oa:Option Addr}(hk:∀a,(enc a).length=size)(hty:∃r,E.ty ty=some r∧r.info.size=size∧isAggD r.und=true)(h:l≠[]→∃b off,oa=some ⟨b,off,none⟩∧base≤b∧Lay w0 b off (l.flatMap enc)):RdV P (SnapR base w0) ty size oa (fun a=>.agg (enc a).toArray) l:=fun hne=>by
 obtain ⟨b,off,rfl,hb,hl⟩:=h hne
 refine ⟨_,rfl,fun w S hw q hq=>?_⟩
 obtain ⟨r,hr,hs,hag⟩:=hty
 rw[Addr.add_mid]
 refine run_loadVar_mid w b (off+q * size) ty (enc l[q]) r.und (fun j u hj=>?_) (hE.und ty r hr) (by unfold isAggD at hag;split at hag<;>simp_all) ?_
 ·have h1:=row_get hk hq hj
  have h2:=hl (q * size+j) u h1
  rw[←Nat.add_assoc] at h2
  exact SnapR.cell hw hb h2
 ·rw[infoL_of w (hE.info ty r hr)]
  simp[hs,hk]
theorem add_res{F:Frz}{γ:Gam}{H:List AObj}{w:World}{R:Res}{S T:Nat→Prop}(hR:RelL F γ (hp H) w)(hl:H.length<lim)(hT:stars (rss H) w T)(hT2:∀b,T b→¬F.fz b∧∀o p,γ o=some (some p)→p.block≠b)(hS:R.at_ w S)(hS2:∀b,S b→¬T b∧¬F.fz b∧∀o p,γ o=some (some p)→p.block≠b) :
  RelL F (upd γ H.length none) (hp (H++[.res R])) w∧Rs F (upd γ H.length none) (H++[.res R]) w∧Step γ (hp H) (upd γ H.length none) (hp (H++[.res R])):=by
 have g1:∀i,i≠H.length→(upd γ H.length none) i=γ i:=fun i h=>upd_ne _ _ h
 have g2:(upd γ H.length none) H.length=some none:=upd_self ..
 have g3:γ H.length=none:=hR.dom _ (Nat.le_refl _)
 have gs:∀i p,(upd γ H.length none) i=some (some p)→γ i=some (some p)∧i<H.length:=fun i p h=>by
  by_cases e:i=H.length
  ·rw[e,g2] at h;cases h
  ·rw[g1 i e] at h;exact ⟨h,hR.next_lt (by rw[h];simp)⟩
 have hext:Ext γ (upd γ H.length none):=fun i p h=>by
  by_cases e:i=H.length
  ·rw[e,g3] at h;cases h
  ·rw[g1 i e];exact .inl h
 have hl2:(H++[AObj.res R]).length≤lim:=by simp;omega
 have hget:∀i,i<H.length→(hp (H++[AObj.res R])).heap.get i=(hp H).heap.get i:=fun i hi=>by rw[hp_get hl2,hp_get (Nat.le_of_lt hl),List.getElem?_append_left hi]
 refine ⟨⟨⟨fun i hi=>?_,fun i p h=>?_,fun i h=>?_,fun i j p q h1 h2 e=>hR.inj i j p q (gs i p h1).1 (gs j q h2).1 e,hl2⟩,fun i p h=>?_,hR.frame.less fun i p h=>⟨i,p,(gs i p h).1,rfl⟩⟩,?_,⟨hext,fun i hi h=>by rw[g1 i (by have:i<H.length:=hi;omega)];exact h,by show H.length≤(H++[_]).length;simp,fun i hi _=>hget i hi⟩⟩
 ·have hi:(H++[AObj.res R]).length≤i:=hi
  simp at hi
  rw[g1 i (by omega)]
  exact hR.dom i (by show H.length≤i;omega)
 ·obtain ⟨h1,h2⟩:=gs i p h
  obtain ⟨ob,h3,h4⟩:=hR.obj i p h1
  exact ⟨ob,by rw[hget i h2];exact h3,h4.mono hext rfl⟩
 ·by_cases e:i=H.length
  ·rw[e,hp_get hl2];simp[vw]
  ·rw[g1 i e] at h
   have:=hR.next_lt (o:=i) (by rw[h];simp)
   rw[hget i this]
   exact hR.gone i h
 ·obtain ⟨h1,h2⟩:=gs i p h
  rw[hget i h2]
  exact hR.live i p h1
 ·refine ⟨fun b=>T b∨S b,?_,fun b hb=>?_⟩
  ·unfold rss
   rw[List.map_append]
   exact stars_append.2 ⟨T,S,hT,⟨S,fun _=>False,hS,fun _ h=>h,fun _ _ h=>h,fun b=>by simp⟩,fun b x y=>(hS2 b y).1 x,fun b=>Iff.rfl⟩
  ·rcases hb with hb|hb
   ·exact ⟨(hT2 b hb).1,fun o p h=>(hT2 b hb).2 o p (gs o p h).1⟩
   ·exact ⟨(hS2 b hb).2.1,fun o p h=>(hS2 b hb).2.2 o p (gs o p h).1⟩
theorem CallS.of_snap{P:Program}{E:Env}(hE:EnvOk P E){f:Nat}{fn:Func}(hf:E.fn f=some fn){args:List AV}{xs:List Value}{H:List AObj}{K:AV→List AObj→Prop}{ι:Type}(val:ι→AV)(Q:ι→Nat→World→Prop)(ha:AV.flats args=some xs)(hlim:Nat.blt H.length lim=true)
  (c:∀w:World,Calls P f xs.toArray w (fun e w'=>∃i x,e=.returned x∧(val i).flat=some x∧Q i w.heap.size w'∧Below w.heap.size w w')) (k:∀i base w',base≤w'.heap.size→Q i base w'→K (val i) (H++[.res (SnapR base w')])):CallS P [] f args H K:=⟨fun F γ w ys hR hpl hrs hys=>by
 have e:=flats_conc args xs ys.toList ha hys
 obtain rfl:ys=xs.toArray:=by rw[←e]
 obtain ⟨T,hT,hT2⟩:=hrs.out
 refine ⟨(hE.fn f fn hf).2 _ w,fun R hRet=>(c w).mono ?_⟩
 rintro r w' ⟨i,x,rfl,hx,hQ,hb⟩
 have hR':=hR.grown hb
 have hT':=stars_keep hT (fun b h=>hb.block b (stars_lt hT h))
 obtain ⟨h1,h2,h3⟩:=add_res (R:=SnapR w.heap.size w') (S:=fun b=>w.heap.size≤b∧b<w'.heap.size) hR' (blt_t hlim) hT' hT2 ⟨fun b=>Iff.rfl,fun _ _ _=>rfl⟩ (fun b hb'=>⟨fun h=>by have:=stars_lt hT h;omega,fun h=>by have:=hR.frame.old b h;have:=hR.frame.size;omega,fun o p hp e=>by have:=hR.lt hp;omega⟩)
 refine hRet _ _ _ x w' (k i w.heap.size w' hb.size hQ) (conc_flat _ x hx) ⟨h1,h3,fun q hq _=>?_,h2⟩
 simp at hq
 by_cases e:q=H.length
 ·rw[e,upd_self];simp
 ·rw[upd_ne _ _ e];exact hpl q (by omega) (by simp)⟩
def LayR(a:Addr)(cs:List Value):Res:=
 ⟨fun w S=>(∀j u,cs[j]?=some u→w.cell? ⟨a.block,a.off+j,none⟩=some u)∧a.block<w.heap.size∧∀b,S b↔b=a.block,fun h hb=>by rw[(h.2.2 _).1 hb];exact h.2.1,fun {w w' S} h hk=>by
  have e:=hk a.block ((h.2.2 _).2 rfl)
  refine ⟨fun j u hj=>?_,?_,h.2.2⟩
  ·have:=h.1 j u hj
   unfold World.cell? at this ⊢
   simp only[] at this ⊢
   rw[e]
   exact this
  ·have h2:=h.2.1
   rw[Array.getElem?_eq_getElem h2] at e
   exact (Array.getElem?_eq_some_iff.1 e).1⟩
theorem lower_obj{F:Frz}{γ:Gam}{H:List AObj}{w:World}{o:Nat}{p:Place}{xs:List Value}{e:TypeId}(hR:RelL F γ (hp H) w)(hrs:Rs F γ H w)(hp':γ o=some (some p))(ho:H[o]?=some (.row xs e)∨H[o]?=some (.cells (xs.map .lit) e)) :
  RelL F (upd γ o none) (hp (H.set o (.res (LayR ⟨p.block,p.base,none⟩ xs)))) w∧Rs F (upd γ o none) (H.set o (.res (LayR ⟨p.block,p.base,none⟩ xs))) w∧Step γ (hp H) (upd γ o none) (hp (H.set o (.res (LayR ⟨p.block,p.base,none⟩ xs)))):=by
 have hol:o<H.length:=by rcases ho with h|h<;>exact get_lt h
 have hlim:H.length≤lim:=hR.lim
 have g1:∀i,i≠o→(upd γ o none) i=γ i:=fun i h=>upd_ne _ _ h
 have g2:(upd γ o none) o=some none:=upd_self ..
 have gs:∀i q,(upd γ o none) i=some (some q)→γ i=some (some q)∧i≠o:=fun i q h=>by
  by_cases e:i=o
  ·rw[e,g2] at h;cases h
  ·rw[g1 i e] at h;exact ⟨h,e⟩
 have hext:Ext γ (upd γ o none):=fun i q h=>by
  by_cases e:i=o
  ·rw[e];exact .inr g2
  ·rw[g1 i e];exact .inl h
 have hl2:(H.set o (.res (LayR ⟨p.block,p.base,none⟩ xs))).length≤lim:=by rw[List.length_set];exact hlim
 have hget:∀i,i≠o→(hp (H.set o (.res (LayR ⟨p.block,p.base,none⟩ xs)))).heap.get i=(hp H).heap.get i:=fun i hi=>by rw[hp_get hl2,hp_get hlim,List.getElem?_set,if_neg (Ne.symm hi)]
 have hgo:(hp (H.set o (.res (LayR ⟨p.block,p.base,none⟩ xs)))).heap.get o=some .dead:=by rw[hp_get hl2,List.getElem?_set,if_pos rfl,if_pos hol];rfl
 have hcell:∀j u,xs[j]?=some u→w.cell? ⟨p.block,p.base+j,none⟩=some u:=by
  obtain ⟨ob,h1,h2⟩:=hR.obj o p hp'
  rw[hp_get hlim] at h1
  intro j u hj
  rcases ho with ho|ho
  ·rw[ho] at h1
   cases h1
   obtain ⟨c,k1,_,_,k4⟩:=h2
   obtain ⟨y,k5,k6⟩:=k4 j (.lit u) (by simp[hj])
   rw[conc_lit_iff] at k6
   rw[cell_of_row w p.block (p.base+j) c e (0,0) k1,k5,k6]
  ·rw[ho] at h1
   cases h1
   obtain ⟨c,k1,_,_,k4⟩:=h2
   obtain ⟨y,k5,k6⟩:=k4 j (.lit u) (by simp[hj])
   rw[conc_lit_iff] at k6
   rw[cell_of_row w p.block (p.base+j) c e (0,0) k1,k5,k6]
 refine ⟨⟨⟨fun i hi=>?_,fun i q h=>?_,fun i h=>?_,fun i j q q' h1 h2 e=>hR.inj i j q q' (gs i q h1).1 (gs j q' h2).1 e,hl2⟩,fun i q h=>?_,hR.frame.less fun i q h=>⟨i,q,(gs i q h).1,rfl⟩⟩,?_,⟨hext,fun i hi h=>by rw[g1 i (fun e=>by rw[e,hp'] at h;cases h)];exact h,by show H.length≤(H.set o _).length;simp,fun i hi h=>hget i (fun e=>by rw[e,hp'] at h;cases h)⟩⟩
 ·have hi:(H.set o (AObj.res (LayR ⟨p.block,p.base,none⟩ xs))).length≤i:=hi
  rw[List.length_set] at hi
  rw[g1 i (by omega)]
  exact hR.dom i hi
 ·obtain ⟨h1,h2⟩:=gs i q h
  obtain ⟨ob,h3,h4⟩:=hR.obj i q h1
  exact ⟨ob,by rw[hget i h2];exact h3,h4.mono hext rfl⟩
 ·by_cases e:i=o
  ·rw[e];exact hgo
  ·rw[g1 i e] at h
   rw[hget i e]
   exact hR.gone i h
 ·obtain ⟨h1,h2⟩:=gs i q h
  rw[hget i h2]
  exact hR.live i q h1
 ·obtain ⟨T,hT,hT2⟩:=hrs.out
  have hro:(rss H)[o]?=some resNil:=by
   unfold rss
   rw[List.getElem?_map]
   rcases ho with h|h<;>rw[h]<;>rfl
  have e1:rss (H.set o (.res (LayR ⟨p.block,p.base,none⟩ xs)))=(rss H).set o (LayR ⟨p.block,p.base,none⟩ xs):=by unfold rss;rw[List.map_set];rfl
  have e2:(rss H).set o resNil=rss H:=by
   apply List.ext_getElem?
   intro j
   rw[List.getElem?_set]
   split
   ·rename_i e
    subst e
    rw[hro,if_pos (get_lt hro)]
   ·rfl
  refine ⟨fun b=>b=p.block∨T b,?_,fun b hb=>?_⟩
  ·rw[e1]
   exact stars_put (S1:=fun b=>b=p.block) (by rw[e2];exact hT) (get_lt hro) ⟨hcell,hR.lt hp',fun b=>Iff.rfl⟩ (fun b x y=>(hT2 b y).2 o p hp' x.symm)
  ·rcases hb with rfl|hb
   ·exact ⟨hR.frame.own o p hp',fun i q h e=>by
     obtain ⟨h1,h2⟩:=gs i q h
     exact h2 (hR.inj _ _ _ _ h1 hp' e)⟩
   ·exact ⟨(hT2 b hb).1,fun i q h=>(hT2 b hb).2 i q (gs i q h).1⟩
theorem CallS.litS{P:Program}{f:Nat}{args:List AV}{H:List AObj}{K' K:AV→List AObj→Prop}(c:CallS P [] f args H K')
  (hk:∀v H',K' v H'→K v H'∨∃(o n:Nat) (cap:Cap) (xs:List Value) (e:TypeId),v=.slice o 0 n cap∧0<n∧(H'[o]?=some (.row xs e)∨H'[o]?=some (.cells (xs.map .lit) e))∧∀b off m,K (.lit (.slice (some ⟨b,off,none⟩) n m)) (H'.set o (.res (LayR ⟨b,off,none⟩ xs)))):CallS P [] f args H K:=⟨fun F γ w ys hR hpl hrs hys=>by
 obtain ⟨c1,c2⟩:=c.out F γ w ys hR hpl hrs hys
 refine ⟨c1,fun R hRet=>c2 R fun v H' γ' x w' k1 k2 k3=>?_⟩
 rcases hk v H' k1 with h|⟨o,n,cap,xs,e,rfl,hn,ho,h⟩
 ·exact hRet v H' γ' x w' h k2 k3
 ·simp only[Conc] at k2
  obtain ⟨a,m,rfl,hat,hnm,_⟩:=k2
  have hat:=hat.resolve_left (by omega)
  have hol:o<H'.length:=by rcases ho with h|h<;>exact get_lt h
  have hpo:γ' o≠none:=k3.pl o hol (by simp)
  have hne:∃p,γ' o=some (some p):=by
   cases hg:γ' o with
   | none=>exact absurd hg hpo
   | some q=>
     cases q with
     | some p=>exact ⟨p,rfl⟩
     | none=>
       have h1:=k3.rel.gone o hg
       rw[hp_get k3.rel.lim] at h1
       rcases ho with h|h<;>rw[h] at h1<;>cases h1
  obtain ⟨p,hp'⟩:=hne
  unfold atP at hat
  rw[hp'] at hat
  simp only[Nat.add_zero] at hat
  subst hat
  obtain ⟨h1,h2,h3⟩:=lower_obj k3.rel k3.rs hp' ho
  refine hRet _ _ _ _ w' (h _ _ m) (conc_lit _ _) ⟨h1,k3.step.trans h3,fun q hq _=>?_,h2⟩
  by_cases e:q=o
  ·rw[e,upd_self];simp
  ·rw[upd_ne _ _ e];exact k3.pl q (by simpa using hq) (by simp)⟩
def RoS{α:Type}(enc:α→List Value)(v:Value)(l:List α):Res:=
 ⟨fun w S=>(l=[]∧v=.slice none 0 0∧∀b,¬S b)∨∃a m,v=.slice (some a) l.length m∧a.spot=none∧l≠[]∧(LayR a (l.flatMap enc)).at_ w S,fun h hb=>by
  rcases h with ⟨_,_,h⟩|⟨a,m,_,_,_,h⟩
  ·exact absurd hb (h _)
  ·exact (LayR _ _).lt h hb,fun h hk=>by
  rcases h with h|⟨a,m,h1,h2,h3,h⟩
  ·exact .inl h
  ·exact .inr ⟨a,m,h1,h2,h3,(LayR _ _).keep h hk⟩⟩
theorem RoS.sl{α:Type}{enc:α→List Value}{v:Value}{l:List α}{w:World}{S:Nat→Prop}(h:(RoS enc v l).at_ w S):∃oa m,v=.slice oa l.length m∧(l≠[]→∃b off,oa=some ⟨b,off,none⟩∧Lay w b off (l.flatMap enc)):=by
 rcases h with ⟨rfl,rfl,_⟩|⟨a,m,rfl,ha,hne,h⟩
 ·exact ⟨none,0,rfl,fun h=>absurd rfl h⟩
 ·refine ⟨some a,m,rfl,fun _=>⟨a.block,a.off,?_,fun j u hj=>h.1 j u hj⟩⟩
  rw[←ha]
theorem append_empty{P:Program}(w:World)(t ty e:TypeId)(i:TypeInfo)(ht:P.underlying t=some (.slice e))(hi:P.info? e=some i)(a:Addr)(b:Option Addr)(m c:Nat)(hm:0<m)(hcap:m * i.bytes≤2 ^ 48)(hmax:m≤maxLen) :
  (Builtin.append_ #[t,t] ty #[.slice (some a) 0 0,.slice b m c]).run P w=(Builtin.append_ #[t,t] ty #[.slice none 0 0,.slice b m c]).run P w:=by
 have hu:∀w:World,(underlying t).run P w=.ok (.slice e) w:=fun w=>run_underlying ht w
 have hn:Builtin.nextslicecap (0+m) 0=m:=by unfold Builtin.nextslicecap;rw[if_pos (by omega)];omega
 have hs:∀w:World,(sizeOf e).run P w=.ok i.size w:=fun w=>by simp[sizeOf,typeInfo,hi]
 have hti:∀w:World,(typeInfo e).run P w=.ok i w:=fun w=>by simp[typeInfo,hi]
 have h1:¬(0+m≤0):=by omega
 have h2:¬(m * i.bytes>2 ^ 48):=by omega
 have h3:¬(((0+m:Nat):Int)>IntKind.i64.max∧(False∨i.bytes=0)):=fun h=>by
  have:=h.1
  have e:IntKind.i64.max=9223372036854775807:=by decide
  rw[e] at this
  unfold maxLen at hmax
  omega
 have hl0:loadCells a 0=pure #[]:=rfl
 unfold Builtin.append_
 simp only[Sem.run_bind,hu,hs,hti,Result.andThen_ok,Sem.run_pure,List.getElem?_toArray,List.getElem?_cons_zero,List.getElem?_cons_succ,Builtin.lenOf,if_neg h1,hn,if_neg h2,Builtin.firstCells,Nat.zero_mul,Bool.false_eq_true,if_false,if_neg h3,hl0]
theorem OpM.appCore{P:Program}{E:Env}{S:List Nat}{t:Tmps}{H:List AObj}{K:AV→List AObj→Prop}(hE:EnvOk P E){α:Type}{enc:α→List Value}{k:Nat}{ty elem:TypeId}(hA:AppT E ty elem k)(hk:∀a,(enc a).length=k)(h0:0<k)(h1:∀a,∀u∈enc a,u.oneCell'=true){c:Call}{s x:Operand}{A:Option Addr}{m:Nat}{l:List α}{i j:Nat}{R Rr:Res}{R':Value→Res}
  (hc:c={ callee:=.builtin .append,args:=#[s,x],argTypes:=#[ty,ty] }) {sv:AV} (hs:opnd t s=some sv) (hsv:∀γ x,Conc γ sv x→∃A0,x=.slice A0 0 0) (hx:opnd t x=some (.lit (.slice A l.length m))) (hne:l≠[]) (hi:H[i]?=some (.res R)) (hjj:H[j]?=some (.res Rr))
  (hrd:∀w S,Rr.at_ w S→∃b off,A=some ⟨b,off,none⟩∧Lay w b off (l.flatMap enc)) (hj:∀v' w S1 S2,R.at_ w S1→(RoS enc v' l).at_ w S2→(∀b,S1 b→S2 b→False)→(R' v').at_ w (fun b=>S1 b∨S2 b)) (hlen:l.length≤2147483648)
  (kk:∀A n,setK H i (.res (R' (.slice (some A) l.length n))) fun H'=>K (.lit (.slice (some A) l.length n)) H'):OpM P S t H (.call c) K:=
 ⟨fun F γ w ρ hR hpl hrs hρ o ho=>by
  subst hc
  obtain ⟨r,hr,hu⟩:=hA.ty
  obtain ⟨er,z,he,hes,hz,hzc,hb⟩:=hA.el
  have q1:=hρ s _ (by simp[Op.operands,Call.operands]) hs
  have q2:=hρ x _ (by simp[Op.operands,Call.operands]) hx
  rw[conc_lit_iff] at q2
  obtain ⟨A0,q1⟩:=hsv γ _ q1
  obtain ⟨S1,hRS,hturn⟩:=turn_res hR hrs hi
  obtain ⟨T0,hT0,_⟩:=hrs.out
  obtain ⟨Sr,_,hRr,_⟩:=stars_at (i:=j) (r:=Rr) hT0 (by unfold rss;rw[List.getElem?_map,hjj];rfl)
  obtain ⟨b,off,rfl,hlay⟩:=hrd w Sr hRr
  have hpos:0<l.length:=List.length_pos_iff.2 hne
  have hzs:z.cells.size=k:=by
   have:=concs_length (conc_cells (conc_ofValue γ z))
   rw[hzc] at this
   simpa using this
  obtain ⟨g,cap,w',r1,r2,r3,r4,r5⟩:=run_append_lies (P:=P) w ty o.type 0 elem er.info z k er.info.bytes (by rw[hE.und ty r hr,hu]) (infoL_of w (hE.info elem er he)) hz hes rfl hzs h0 (.slice none 0 0) 0 [] (World.ownsRow_nil w 0 elem k) ⟨b,off,none⟩ l.length m (l.flatMap enc) (by rw[flat_len hk]) (fun j u hj=>by rw[Addr.add_mid];exact hlay j u hj) (fun u hu=>by
   obtain ⟨a,_,h2⟩:=List.mem_flatMap.1 hu
   exact h1 a u h2) hpos (by unfold maxLen;omega) (by rw[Nat.zero_add];exact Nat.le_trans (Nat.mul_le_mul hlen hb) (by decide)) (Nat.zero_le _) _ rfl
  have hg:g=w.heap.size:=by
   rcases r4 with h|h
   ·simp[Value.ownBlock] at h
   ·exact h
  have hS1:∀b,S1 b→b<w.heap.size:=fun b hb=>R.lt hRS hb
  have hkeep:∀b,S1 b→w'.heap[b]?=w.heap[b]?:=fun b hb=>r3.block b (hS1 b hb) (by simp[Value.ownBlock])
  have hro:(RoS enc (.slice (some ⟨g,0,none⟩) l.length cap) l).at_ w' (fun b=>b=g):=by
   refine .inr ⟨⟨g,0,none⟩,cap,rfl,rfl,hne,fun j u hj=>?_,r5,fun b=>Iff.rfl⟩
   rw[Nat.zero_add] at r2
   have h3:Own enc k elem w' 0 (.slice (some ⟨g,0,none⟩) l.length cap) l:=by
    unfold Own
    simpa using r2
   obtain ⟨A',c',e,_,_,h4⟩:=h3.sl
   injection e with e1
   subst e1
   obtain ⟨b',off',e,_,h5⟩:=h4 hpos
   simp only[Option.some.injEq,Addr.mk.injEq] at e
   obtain ⟨rfl,rfl,_⟩:=e
   exact h5 j u hj
  obtain ⟨u1,u2⟩:=hturn w' (fun b=>S1 b∨b=g) (R' (.slice (some ⟨g,0,none⟩) l.length cap)) (hj _ _ _ _ (R.keep hRS hkeep) hro (fun b x y=>by have:=hS1 b x;omega)) (fun b hb=>hb.imp id (fun h=>by omega)) ⟨r3.os,r3.tape,r3.output,r3.size,fun b hb _=>r3.block b hb (by simp[Value.ownBlock])⟩
  have hk2:=kk ⟨g,0,none⟩ cap
  rw[setK_eq] at hk2
  refine ⟨_,_,γ,.value (.slice (some ⟨g,0,none⟩) l.length cap),w',?_,.inl ⟨_,rfl,conc_lit γ _⟩,hk2,u1,?_,fun q hq=>hpl q (by simpa using hq),u2⟩
  ·obtain ⟨dst,op,type,pos,after,guard⟩:=o
   simp only[] at ho
   subst ho
   have r0:(Builtin.append_ #[ty,ty] type #[.slice A0 0 0,.slice (some ⟨b,off,none⟩) l.length m]).run P w=(Builtin.append_ #[ty,ty] type #[.slice none 0 0,.slice (some ⟨b,off,none⟩) l.length m]).run P w:=by
    cases A0 with
    | none=>rfl
    | some a0=>exact append_empty w ty type elem er.info (by rw[hE.und ty r hr,hu]) (infoL_of w (hE.info elem er he)) a0 _ l.length m hpos (Nat.le_trans (Nat.mul_le_mul hlen hb) (by decide)) (by unfold maxLen;omega)
   rw[Nat.zero_add] at r1
   rw[←r0] at r1
   simp only[execOp,resolve,invoke,builtin,Sem.run_bind,Sem.run_pure,Result.andThen_ok,List.map_toArray,List.map_cons,List.map_nil,q1,q2,r1]
  ·rw[hp_setR hi]
   exact .refl γ _⟩
theorem OpM.appNil{P:Program}{E:Env}{S:List Nat}{t:Tmps}{H:List AObj}{K:AV→List AObj→Prop}(hE:EnvOk P E){α:Type}{enc:α→List Value}{k:Nat}{ty elem:TypeId}(hA:AppT E ty elem k)(hk:∀a,(enc a).length=k)(h0:0<k)(h1:∀a,∀u∈enc a,u.oneCell'=true){c:Call}{s x:Operand}{A:Option Addr}{m:Nat}{l:List α}{i j:Nat}{R Rr:Res}{R':Value→Res}
  (hc:c={ callee:=.builtin .append,args:=#[s,x],argTypes:=#[ty,ty] }) (hs:opnd t s=some (.lit (.slice none 0 0))) (hx:opnd t x=some (.lit (.slice A l.length m))) (hne:l≠[]) (hi:H[i]?=some (.res R)) (hjj:H[j]?=some (.res Rr))
  (hrd:∀w S,Rr.at_ w S→∃b off,A=some ⟨b,off,none⟩∧Lay w b off (l.flatMap enc)) (hj:∀v' w S1 S2,R.at_ w S1→(RoS enc v' l).at_ w S2→(∀b,S1 b→S2 b→False)→(R' v').at_ w (fun b=>S1 b∨S2 b)) (hlen:l.length≤2147483648)
  (kk:∀A n,setK H i (.res (R' (.slice (some A) l.length n))) fun H'=>K (.lit (.slice (some A) l.length n)) H'):OpM P S t H (.call c) K:=
 .appCore hE hA hk h0 h1 hc hs (fun γ x h=>⟨none,by rwa [conc_lit_iff] at h⟩) hx hne hi hjj hrd hj hlen kk
theorem OpM.appE{P:Program}{E:Env}{S:List Nat}{t:Tmps}{H:List AObj}{K:AV→List AObj→Prop}(hE:EnvOk P E){α:Type}{enc:α→List Value}{k:Nat}{ty elem:TypeId}(hA:AppT E ty elem k)(hk:∀a,(enc a).length=k)(h0:0<k)(h1:∀a,∀u∈enc a,u.oneCell'=true){c:Call}{s x:Operand}{A:Option Addr}{m:Nat}{l:List α}{i j:Nat}{R Rr:Res}{R':Value→Res}
  (hc:c={ callee:=.builtin .append,args:=#[s,x],argTypes:=#[ty,ty] }) {so:Nat} {sf:Nat} (hs:opnd t s=some (.slice so sf 0 (.k 0))) (hx:opnd t x=some (.lit (.slice A l.length m))) (hne:l≠[]) (hi:H[i]?=some (.res R)) (hjj:H[j]?=some (.res Rr))
  (hrd:∀w S,Rr.at_ w S→∃b off,A=some ⟨b,off,none⟩∧Lay w b off (l.flatMap enc)) (hj:∀v' w S1 S2,R.at_ w S1→(RoS enc v' l).at_ w S2→(∀b,S1 b→S2 b→False)→(R' v').at_ w (fun b=>S1 b∨S2 b)) (hlen:l.length≤2147483648)
  (kk:∀A n,setK H i (.res (R' (.slice (some A) l.length n))) fun H'=>K (.lit (.slice (some A) l.length n)) H'):OpM P S t H (.call c) K:=
 .appCore hE hA hk h0 h1 hc hs (fun γ x h=>let ⟨a,_,h1,_,_,h2⟩:=h;⟨some a,by rw[h1];exact congrArg _ h2⟩) hx hne hi hjj hrd hj hlen kk
theorem OpP.make{P:Program}{E:Env}{S:List Nat}{t:Tmps}{H:List AObj}{K:AV→List AObj→Prop}{m:Bool}{ty elem:TypeId}{r er:TyRow}{z:Value}{lo c:Operand}{n:Nat}{q q':IntKind}(hr:E.ty ty=some r)(hu:r.und=.slice elem)(he:E.ty elem=some er)(hz:er.info.zero=some z)(hl:opnd t lo=some (.lit (.int q (n:Int))))(hc:opnd t c=some (.lit (.int q' (n:Int))))(hn:n≤65536)(hb:Nat.ble er.info.bytes 65536=true)(hsz:Nat.beq (ofValue z).cells.length er.info.size=true)(hlim:Nat.blt H.length lim=true)
  (k:snocK H (.cells (rep n (ofValue z).cells) elem) fun H'=>natF (cnt H 0) fun p=>K (.slice p 0 n (.k n)) H'):OpP E P m S t H (.makeSlice ty lo c) K:=by
 rw[snocK_eq,natF_eq,cnt_eq,Nat.zero_add] at k
 refine .ev ⟨.new (.cells (rep n (ofValue z).cells) elem) (.slice n n),?_,blt_t hlim,k⟩
 have e1:natOf (.lit (.int q (n:Int)))=some n:=rfl
 have e2:natOf (.lit (.int q' (n:Int)))=some n:=rfl
 simp only[evOp,hr,hl,hc,hu,e1,e2,he,hz]
 rw[show Nat.ble n n=true from Nat.ble_eq_true_of_le (Nat.le_refl _),show Nat.ble n 65536=true from Nat.ble_eq_true_of_le hn,hb,hsz]
 rfl
theorem rep_flat{α:Type}{enc:α→List Value}{y:α}{cs:List AV}(h:cs=(enc y).map .lit):∀n,rep n cs=((List.replicate n y).flatMap enc).map .lit
 | 0=>rfl
 | n+1=>by
   unfold rep
   rw[List.replicate_succ,List.flatMap_cons,List.map_append,←rep_flat h n,h]
theorem RdV.lay{α:Type}{P:Program}{E:Env}(hE:EnvOk P E){R:Res}{ty:TypeId}{size:Nat}{enc:α→List Value}{l:List α}{oa:Option Addr}(hk:∀a,(enc a).length=size)(hty:∃r,E.ty ty=some r∧r.info.size=size∧isAggD r.und=true)(h:l≠[]→∃b off,oa=some ⟨b,off,none⟩∧∀w S,R.at_ w S→Lay w b off (l.flatMap enc)):RdV P R ty size oa (fun a=>.agg (enc a).toArray) l:=fun hne=>by
 obtain ⟨b,off,rfl,hl⟩:=h hne
 refine ⟨_,rfl,fun w S hw q hq=>?_⟩
 obtain ⟨r,hr,hs,hag⟩:=hty
 rw[Addr.add_mid]
 refine run_loadVar_mid w b (off+q * size) ty (enc l[q]) r.und (fun j u hj=>?_) (hE.und ty r hr) (by unfold isAggD at hag;split at hag<;>simp_all) ?_
 ·have h1:=row_get hk hq hj
  have h2:=hl w S hw (q * size+j) u h1
  rw[←Nat.add_assoc] at h2
  exact h2
 ·rw[infoL_of w (hE.info ty r hr)]
  simp[hs,hk]
theorem AppP.zero{E:Env}{P:Program}{m:Bool}{S:List Nat}{t:Tmps}{cl:Call}{ty elem size:Nat}{H:List AObj}{K:AV→List AObj→Prop}(hA:AppT E ty elem size)(hl:Nat.ble H.length lim=true)(k:K (.lit (.slice none 0 0)) H):AppP E P m S t cl ty (.lit (.slice none 0 0)) (.lit (.slice none 0 0)) H K:=by
 obtain ⟨r,hr,hu⟩:=hA.ty
 obtain ⟨er,z,he,_,_,_,_⟩:=hA.el
 refine ⟨.inl ⟨.lit (.slice none 0 0),hp H,H,?_,hpEq_self (Nat.le_of_ble_eq_true hl),newOk_same _,.refl _,k⟩⟩
 simp only[appendA,hr,hu,he,lenOfA]
 try rfl
theorem Ent.merge{L:List Res}{i j:Nat}{R R2 R':Res}(hi:L[i]?=some R)(hj:L[j]?=some R2)(hij:Nat.beq i j=false)(h:∀w S1 S2,R.at_ w S1→R2.at_ w S2→(∀b,S1 b→S2 b→False)→R'.at_ w (fun b=>S1 b∨S2 b)):Ent L ((L.set j resNil).set i R'):=fun w T hT=>by
 have hij:=Nat.ne_of_beq_eq_false hij
 obtain ⟨S1,S2,h1,h2,h3,h4⟩:=stars_at hT hj
 have hi':(L.set j resNil)[i]?=some R:=by rw[List.getElem?_set,if_neg (Ne.symm hij)];exact hi
 obtain ⟨A,B,a1,a2,a3,a4⟩:=stars_at h2 hi'
 have e:=stars_put (i:=i) (r:=R') a2 (get_lt hi') (h w A S1 a1 h1 (fun b x y=>h3 b y ((a4 b).2 (.inl x)))) (fun b x y=>by
  rcases x with x|x
  ·exact a3 b x y
  ·exact h3 b x ((a4 b).2 (.inr y)))
 refine ⟨_,fun b hb=>?_,e⟩
 rcases hb with (hb|hb)|hb
 ·exact (h4 b).2 (.inr ((a4 b).2 (.inl hb)))
 ·exact (h4 b).2 (.inl hb)
 ·exact (h4 b).2 (.inr ((a4 b).2 (.inr hb)))
theorem keyE_str{E:Env}{kt:TypeId}(h:∃r,E.ty kt=some r∧r.und=.string):KeyE E kt (fun l:List UInt8=>Value.string ⟨l.toArray⟩):=by
 obtain ⟨r,hr,hu⟩:=h
 refine ⟨.string,rfl,fun a=>by simp only[keyTy,hr,hu,ofValue],fun a b=>?_⟩
 simp only[ofValue,keyEq,Option.some.injEq]
 by_cases h:a=b
 ·subst h
  rw[decide_eq_true rfl]
  show (a.toArray==a.toArray)=true
  simp
 ·rw[decide_eq_false h]
  show (a.toArray==b.toArray)=false
  simp[h]
theorem FnW.of{E:Env}{P:Program}{fn:Func}{args:List AV}{H:List AObj}{K:AV→List AObj→Prop}{c:Code}(h1:fn.body=some c)(h2:(Nat.ble args.length fn.ntmps&&Nat.ble fn.ntmps 65536)=true)(h:WpC E P fn.ntmps H.length c (setArgs 0 args .e) H (endK E fn K)):FnW E P fn args H K:=by
 unfold FnW
 rw[h1]
 simp only[]
 rw[h2]
 exact h
theorem WpC.seqG{E:Env}{P:Program}{n k:Nat}{a b:Code}{t:Tmps}{H:List AObj}{Q:AExit→Tmps→List AObj→Prop}(h:∀F,F=WpC E P n k b→WpC E P n k a t H (fun e t H=>match e with
  | .normal=>F t H Q
  | .exit id=>Q (.exit id) t H
  | .goto l=>Q (.goto l) t H
  | .ret=>Q .ret t H)):WpC E P n k (.seq a b) t H Q:=h _ rfl
end Go.Proofs.YtmbdghclhpboaaaGreat.Ev
namespace Go.Proofs.YtmbdghclhpboaaaGreat
open Go.RowKit
def byC(b:UInt8):List Value:=[.int .u8 (b.toNat:Int)]
theorem byC_len(b:UInt8):(byC b).length=1:=rfl
theorem by_enc:EncOk byC 1:=⟨byC_len,fun a u hu=>by
 simp only[byC,List.mem_cons,List.not_mem_nil,or_false] at hu
 subst hu
 rfl⟩
theorem by_elem:ElemOk Tryz.prog 31 5 1 1:=⟨Tryz.underlying31,by
 have h:(Tryz.prog.info? 5).map (fun i=>(i.zero,i.size,i.bytes))=some (some (.int .u8 0),1,1):=by kernel_rfl
 obtain ⟨i,hi,h1,h2,h3⟩:=info_parts h
 exact ⟨i,_,hi,h1,h2,h3,rfl⟩,by omega⟩
theorem Lay.by{w:World}{b off:Nat}{x:UInt8}(h:Lay w b off (byC x)):w.cell? ⟨b,off,none⟩=some (.int .u8 (x.toNat:Int)):=h 0 _ rfl
def beNat(l:List UInt8):Nat:=l.foldl (fun n x=>256 * n+x.toNat) 0
theorem beNat_snoc(l:List UInt8)(x:UInt8):beNat (l++[x])=256 * beNat l+x.toNat:=by unfold beNat;rw[List.foldl_append];rfl
theorem beNat_lt:∀(k:Nat) (l:List UInt8),l.length=k→beNat l<256 ^ k
 | 0,l,h=>by
   have:l=[]:=List.eq_nil_of_length_eq_zero h
   subst this
   decide
 | k+1,l,h=>by
   have hne:l≠[]:=by intro e;subst e;simp at h
   obtain ⟨l',x,rfl⟩:∃l' x,l=l'++[x]:=⟨l.dropLast,l.getLast hne,(List.dropLast_concat_getLast hne).symm⟩
   have hl:l'.length=k:=by simpa using h
   have ih:=beNat_lt k l' hl
   rw[beNat_snoc]
   have hx:x.toNat<256:=x.toNat_lt
   rw[Nat.pow_succ]
   omega
def toBE:Nat→Nat→List UInt8
 | 0,_=>[]
 | k+1,n=>toBE k (n / 256)++[UInt8.ofNat (n % 256)]
theorem toBE_len:∀(k n:Nat),(toBE k n).length=k
 | 0,_=>rfl
 | k+1,n=>by simp[toBE,toBE_len k]
theorem beNat_toBE:∀(k n:Nat),n<256 ^ k→beNat (toBE k n)=n
 | 0,n,h=>by
   have h0:n=0:=by simpa using h
   subst h0
   rfl
 | k+1,n,h=>by
   have h1:n / 256<256 ^ k:=by rw[Nat.pow_succ] at h;omega
   rw[toBE,beNat_snoc,beNat_toBE k _ h1]
   have:(UInt8.ofNat (n % 256)).toNat=n % 256:=by simp
   rw[this]
   omega
theorem toBE_get:∀(k n j:Nat),j<k→(toBE k n)[j]?=some (UInt8.ofNat (n / 256 ^ (k - 1 - j) % 256))
 | 0,_,_,h=>by omega
 | k+1,n,j,h=>by
   rw[toBE]
   by_cases hj:j<k
   ·rw[List.getElem?_append_left (by rw[toBE_len];exact hj),toBE_get k _ j hj]
    congr 3
    rw[Nat.div_div_eq_div_mul]
    congr 1
    rw[show k+1 - 1 - j=(k - 1 - j)+1 by omega,Nat.pow_succ,Nat.mul_comm]
   ·obtain rfl:j=k:=by omega
    rw[List.getElem?_append_right (by rw[toBE_len];exact Nat.le_refl _),toBE_len]
    simp
theorem or_byte(a:Nat)(x:Nat)(hx:x<256):(256 * a) ||| x=256 * a+x:=
 (Nat.two_pow_add_eq_or_of_lt (i:=8) (b:=x) hx a).symm
theorem or_u64(m x:Nat)(hm:m<72057594037927936)(hx:x<256):bits .or .u64 ((m:Int) * 256) (x:Int)=((256 * m+x:Nat):Int):=by
 have h:=u64_or_nat (256 * m) x (by omega) (by omega)
 rw[or_byte m x hx] at h
 rw[←h]
 congr 1
 omega
theorem get_ok(l:List UInt8)(s:Value)(w:World)(B:Nat)(hs:Sl byC w B s l)(hl:l.length≤8)(h0:0<l.length) :
  Calls Tryz.prog 271 #[s] w fun e w'=>e=.returned (.tuple #[.int .u64 (beNat l:Nat),.int .i64 0])∧w'=w:=by
 obtain ⟨A,ca,rfl,h1,h2,h3⟩:=hs
 unfold maxLen at h2
 go_enter Tryz.func271,Tryz.ntmps271
 go_wp2
 go_loop [4,17] (fun nv i=>∃k:Nat,k≤l.length∧i=.int .i64 k∧nv=.int .u64 (beNat (l.take k):Nat)) (fun _ i=>(l.length - RowKit.intOf i).toNat)
 case atStart=>exact ⟨0,Nat.zero_le _,rfl,rfl⟩
 case round=>
  obtain ⟨k,hk,rfl,rfl⟩:=hrel
  by_cases hlt:k<l.length
  ·obtain ⟨b,off,rfl,_,hlay⟩:=h3 (by omega)
   have x0:=(hlay.elem byC_len k hlt).by
   rw[Nat.mul_one] at x0
   have hb:=beNat_lt k (l.take k) (by simp;omega)
   have hb2:beNat (l.take k)<256 ^ 7:=Nat.lt_of_lt_of_le hb (Nat.pow_le_pow_right (by omega) (by omega))
   have hb3:beNat (l.take k)<72057594037927936:=by simpa using hb2
   have hs:=Lib.hid (beNat_snoc (l.take k) l[k])
   have ht:=Lib.hid (List.take_succ_eq_append_getElem hlt)
   have hx:l[k].toNat<256:=l[k].toNat_lt
   obtain ⟨m,hm⟩:∃m,m=beNat (l.take k):=⟨_,rfl⟩
   obtain ⟨x,hxx⟩:∃x,x=l[k].toNat:=⟨_,rfl⟩
   rw[←hm,←hxx] at hs
   rw[←hm] at hb3 ⊢
   rw[←hxx] at x0 hx
   have HM:=Lib.hid hm
   clear hb hb2 hlay h3 hm hxx
   go_wp2
   go_round
   case rel=>exact ⟨k+1,by omega,by go_num,by rw[ht.out,hs.out,or_u64 m x hb3 hx]⟩
   case measure=>simp[RowKit.intOf];omega
  ·obtain rfl:k=l.length:=by omega
   rw[List.take_length]
   go_wp2
   go_ret2
   exact ⟨rfl,rfl⟩
theorem by_flat:∀(l:List UInt8) (j:Nat),(l.flatMap byC)[j]?=l[j]?.map fun b=>Value.int .u8 (b.toNat:Int)
 | [],j=>by simp
 | a::l,0=>by simp[byC]
 | a::l,j+1=>by
   have:=by_flat l j
   simpa [byC] using this
theorem two_pow_eq(k:Nat):(2:Int) ^ (8 * k)=((256 ^ k:Nat):Int):=by
 rw[Int.pow_mul]
 norm_cast
def PutPost(w:World)(l:List UInt8)(e:Ending)(w':World):Prop:=∃v,e=.returned (.tuple #[v,.int .i64 0])∧Own byC 1 5 w' w.heap.size v l∧Below w.heap.size w w'
theorem put_ok(n k:Nat)(w:World)(h1:1≤k)(h2:k≤8)(hn:n<18446744073709551616)(hk:n<256 ^ k) :
  Calls Tryz.prog 165 #[.int .u64 n,.int .i64 k] w (PutPost w (toBE k n)):=by
 have hz:(n:Int) / 2 ^ (8 * k)=0:=by
  rw[two_pow_eq,←Int.natCast_ediv,Nat.div_eq_of_lt hk]
  rfl
 have HN:=Lib.hid hn
 have HK:=Lib.hid hk
 have hB0:=Lib.hid ((Below.refl w.heap.size w).alloc (Nat.le_refl _) (.cells #[.int .u8 0,.int .u8 0,.int .u8 0,.int .u8 0,.int .u8 0,.int .u8 0,.int .u8 0,.int .u8 0] 379))
 have hb0:=Lib.hid (Blk.new w 379 #[.int .u8 0,.int .u8 0,.int .u8 0,.int .u8 0,.int .u8 0,.int .u8 0,.int .u8 0,.int .u8 0])
 obtain ⟨i0,z0,hi,hz0,hsz,hby,hzs⟩:=by_elem.inf
 have HI:=Lib.hid (And.intro hi (And.intro hz0 (And.intro hsz (And.intro hby hzs))))
 clear hn hk hi hz0 hsz hby hzs
 by_cases h8:k<8
 all_goals
  go_enter Tryz.func165,Tryz.ntmps165
  go_wp2
  go_loopw [7,26] (fun _ iv wr=>∃i cs,i≤k∧iv=.int .i64 (i:Nat)∧Blk wr w.heap.size 379 cs∧cs.size=8∧(∀j,j<8→∃u,cs[j]?=some (.int .u8 u))∧(∀j,k - i≤j→j<k→cs[j]?=some (.int .u8 ((n / 256 ^ (k - 1 - j) % 256:Nat):Int)))∧Below w.heap.size w wr) (fun _ iv _=>(k - RowKit.intOf iv).toNat)
  case atStart=>exact ⟨0,_,Nat.zero_le _,rfl,hb0.out,rfl,fun j hj=>by (match j,hj with|0,_=>exact ⟨_,rfl⟩|1,_=>exact ⟨_,rfl⟩|2,_=>exact ⟨_,rfl⟩|3,_=>exact ⟨_,rfl⟩|4,_=>exact ⟨_,rfl⟩|5,_=>exact ⟨_,rfl⟩|6,_=>exact ⟨_,rfl⟩|7,_=>exact ⟨_,rfl⟩),fun j hj hj2=>by omega,hB0.out⟩
  case round=>
   obtain ⟨i,cs,hik,rfl,hblk,hcsz,hany,hcs,hbel⟩:=hrel
   by_cases hlt:i<k
   ·obtain ⟨j0,hj0⟩:∃j0,j0+i+1=k:=⟨k - i - 1,by omega⟩
    have hix:(k:Int) - 1 - (i:Int)=(j0:Int):=by omega
    obtain ⟨u0,hu0⟩:=hany j0 (by omega)
    have c0:=hblk.is j0 hu0
    have f0:=hblk.frozen j0
    have hj8:j0<8:=by omega
    have HB:=Lib.hid hblk
    have HC:=Lib.hid hcs
    have HA:=Lib.hid hany
    have HJ:=Lib.hid hj0
    have HX:=Lib.hid hix
    have HS:=Lib.hid hcsz
    clear hblk hcs hany hj0 hcsz hu0
    go_wp2
    go_roundw
    case rel=>
     have hj:=HJ.out
     have hv:(n:Int) / 2 ^ (8 * i) % 256=((n / 256 ^ (k - 1 - j0) % 256:Nat):Int):=by
      rw[two_pow_eq,show k - 1 - j0=i by omega]
      norm_cast
     refine ⟨i+1,_,by omega,by go_num,HB.out.put j0 _,by rw[Array.size_setIfInBounds];exact HS.out,fun j hj8'=>?_,fun j h3 h4=>?_,hbel.setCell (Nat.le_refl _) _⟩
     ·rw[Array.getElem?_setIfInBounds]
      split
      ·exact ⟨_,by rw[if_pos (by rw[HS.out];exact hj8)]⟩
      ·exact HA.out j hj8'
     ·rw[Array.getElem?_setIfInBounds]
      by_cases e:j0=j
      ·subst e
       rw[if_pos rfl,if_pos (by rw[HS.out];exact hj8),hv]
      ·rw[if_neg e]
       exact HC.out j (by omega) h4
    case measure=>simp[RowKit.intOf];omega
   ·obtain rfl:i=k:=by omega
    have hlay:∀j u,((toBE i n).flatMap byC)[j]?=some u→wr.cell? ((⟨w.heap.size,0,none⟩:Addr).add j)=some u:=fun j u hu=>by
     have hadd:(⟨w.heap.size,0,none⟩:Addr).add j=⟨w.heap.size,j,none⟩:=by unfold Addr.add;split<;>simp_all
     rw[by_flat] at hu
     have hjk:j<i:=by
      rcases Nat.lt_or_ge j i with h|h
      ·exact h
      ·rw[List.getElem?_eq_none (by rw[toBE_len];exact h)] at hu
       cases hu
     rw[toBE_get i n j hjk,Option.map_some,Option.some.injEq] at hu
     rw[hadd,hblk.cell,hcs j (by omega) hjk,←hu]
     simp
    have HL:=Lib.hid hlay
    have hwr:=hblk.lt
    clear hlay hblk hany hcs hcsz
    go_wp2_with (at_builtin;refine wpList_append_own _ rfl (.const (.slice none 0 0)) (.tmp 41) 31 rfl w.heap.size 5 i0 z0 1 1 Tryz.underlying31 HI.out.1 HI.out.2.1 HI.out.2.2.1 HI.out.2.2.2.1 HI.out.2.2.2.2 (by omega) _ 0 [] rfl (World.ownsRow_nil wr w.heap.size 5 1) ⟨w.heap.size,0,none⟩ i 8 ((toBE i n).flatMap byC) rfl (by rw[flat_length byC_len,toBE_len]) HL.out (by_enc.flat _) (by unfold maxLen;omega) (by omega) (by omega) ?_;intro v' w1 hown hgrow _)
    go_ret2
    refine ⟨v',rfl,?_,hbel.grown hgrow (by omega) (fun b hb=>by cases hb)⟩
    unfold Own
    rw[toBE_len]
    simpa using hown
@[go_sem high] theorem cutBy(w:World)(A:Option Addr)(n c j:Nat)(k:IntKind)(hj:j≤n):(Instr.slice 31 (.slice A n c) (some (.int k (j:Int))) none none).run Tryz.prog w=.ok (.slice (cutA A c j 1) (n - j) (c - j)) w:=
 run_slice_lo Tryz.underlying31 Tryz.sizeOf5 w A n c j k hj
@[go_sem high] theorem preBy(w:World)(A:Option Addr)(n c j:Nat)(k:IntKind)(hj:j≤c):(Instr.slice 31 (.slice A n c) none (some (.int k (j:Int))) none).run Tryz.prog w=.ok (.slice A j c) w:=
 run_slice_hi Tryz.underlying31 Tryz.sizeOf5 w A n c j k hj
end Go.Proofs.YtmbdghclhpboaaaGreat
namespace Go.Proofs.YtmbdghclhpboaaaGreat
open Go.RowKit Go.Lib
abbrev strV(t:List UInt8):Value:=.string ⟨t.toArray⟩
@[simp,go_sem high] theorem str_size(t:List UInt8):(ByteArray.mk t.toArray).size=t.length:=by show t.toArray.size=_;simp
theorem strCells_by(t:List UInt8):strCells ⟨t.toArray⟩=t.flatMap byC:=by
 unfold strCells
 induction t with
 | nil=>rfl
 | cons a t ih=>simp_all [byC]
end Go.Proofs.YtmbdghclhpboaaaGreat
namespace Go.Proofs.YtmbdghclhpboaaaGreat.Ev
open Go.RowKit
def SlF{α:Type}(v:Value)(l:List α):Prop:=(v=.slice none 0 0∧l=[])∨∃A n,v=.slice (some A) l.length n
theorem Own.slF{α:Type}{enc:α→List Value}{k:Nat}{e:TypeId}{w:World}{base:Nat}{v:Value}{l:List α}(h:Own enc k e w base v l):SlF v l:=by
 rcases h.2 with ⟨rfl,h0⟩|⟨g,cap,cur,rfl,_⟩
 ·exact .inl ⟨rfl,List.eq_nil_of_length_eq_zero h0⟩
 ·exact .inr ⟨_,_,rfl⟩
section
variable{P:Program}{E:Env}{S:List Nat}{t:Tmps}{H:List AObj}{K:AV→List AObj→Prop}
theorem OpM.appO{α:Type}{enc:α→List Value}{k:Nat}{elem:TypeId}{c:Call}{s x:Operand}{v xv:Value}{l l':List α}{i:Nat}{R R1:Res}{R':Value→Res}{ty tx:TypeId}
  (hc:c={ callee:=.builtin .append,args:=#[s,x],argTypes:=#[ty,tx] }) (hs:opnd t s=some (.lit v)) (hx:opnd t x=some (.lit xv)) (hi:H[i]?=some (.res R))
  (hsp:∀w S,R.at_ w S→stars [OwnR enc k elem v l,R1] w S) (hjn:∀v' w S,stars [OwnR enc k elem v' l',R1] w S→(R' v').at_ w S)
  (hrun:∀(F:Frz) (γ:Gam) (w:World) (tt:TypeId),Rs F γ H w→Own enc k elem w 0 v l→∃v' w',(Builtin.append_ #[ty,tx] tt #[v,xv]).run P w=.ok v' w'∧Own enc k elem w' 0 v' l'∧w.grownBy w' v.ownBlock∧∀b,v'.ownBlock=some b→v.ownBlock=some b∨w.heap.size≤b)
  (kk:∀v',SlF v' l'→setK H i (.res (R' v')) fun H'=>K (.lit v') H'):OpM P S t H (.call c) K:=
 ⟨fun F γ w ρ hR hpl hrs hρ o ho=>by
  subst hc
  have q1:=hρ s _ (by simp[Op.operands,Call.operands]) hs
  have q2:=hρ x _ (by simp[Op.operands,Call.operands]) hx
  rw[conc_lit_iff] at q1 q2
  obtain ⟨S1,hRS,hturn⟩:=turn_res hR hrs hi
  obtain ⟨A,B,hA1,⟨B1,B2,hB1,hB2,hBd,hB⟩,hAB,hS1⟩:=hsp w S1 hRS
  have hown:Own enc k elem w 0 v l:=hA1.1
  obtain ⟨v',w',r1,r2,r3,r4⟩:=hrun F γ w o.type hrs hown
  have hfar:∀b,B b→b<w.heap.size∧some b≠v.ownBlock:=fun b hb=>by
   refine ⟨?_,fun e=>hAB b ((hA1.2 b).2 e.symm) hb⟩
   rcases (hB b).1 hb with h|h
   ·exact R1.lt hB1 h
   ·exact absurd h (hB2 b)
  have hdis:∀b,v'.ownBlock=some b→B b→False:=fun b e hb=>by
   have h5:=hfar b hb
   rcases r4 b e with h6|h6
   ·exact h5.2 h6.symm
   ·omega
  have hsub:∀b,(v'.ownBlock=some b∨B b)→S1 b∨w.heap.size≤b:=fun b hb=>by
   rcases hb with h|hb
   ·rcases r4 b h with h6|h6
    ·exact .inl ((hS1 b).2 (.inl ((hA1.2 b).2 h6)))
    ·exact .inr h6
   ·exact .inl ((hS1 b).2 (.inr hb))
  have hst:stars [OwnR enc k elem v' l',R1] w' (fun b=>v'.ownBlock=some b∨B b):=
   ⟨fun b=>v'.ownBlock=some b,B,⟨r2,fun b=>Iff.rfl⟩,⟨B1,B2,R1.keep hB1 fun b hb=>r3.block b (hfar b ((hB b).2 (.inl hb))).1 (hfar b ((hB b).2 (.inl hb))).2,hB2,hBd,hB⟩,hdis,fun b=>Iff.rfl⟩
  obtain ⟨u1,u2⟩:=hturn w' (fun b=>v'.ownBlock=some b∨B b) (R' v') (hjn _ _ _ hst) hsub ⟨r3.os,r3.tape,r3.output,r3.size,fun b hb hn=>r3.block b hb fun e=>hn ((hS1 b).2 (.inl ((hA1.2 b).2 e.symm)))⟩
  have hk2:=kk v' (Own.slF r2)
  rw[setK_eq] at hk2
  refine ⟨_,_,γ,.value v',w',?_,.inl ⟨_,rfl,conc_lit γ _⟩,hk2,u1,?_,fun q hq=>hpl q (by simpa using hq),u2⟩
  ·obtain ⟨dst,op,type,pos,after,guard⟩:=o
   simp only[] at ho
   subst ho
   simp only[execOp,resolve,invoke,builtin,Sem.run_bind,Sem.run_pure,Result.andThen_ok,List.map_toArray,List.map_cons,List.map_nil,q1,q2,r1]
  ·rw[hp_setR hi]
   exact .refl γ _⟩
theorem OpM.appLR(hE:EnvOk P E){α:Type}{enc:α→List Value}{k:Nat}{ty elem:TypeId}(hA:AppT E ty elem k)(hk:∀a,(enc a).length=k)(h0:0<k)(h1:∀a,∀u∈enc a,u.oneCell'=true){c:Call}{s x:Operand}{v:Value}{l l2:List α}{A:Option Addr}{m:Nat}{i j:Nat}{R R1 Rr:Res}{R':Value→Res}
  (hc:c={ callee:=.builtin .append,args:=#[s,x],argTypes:=#[ty,ty] }) (hs:opnd t s=some (.lit v)) (hx:opnd t x=some (.lit (.slice A l2.length m))) (hne:l2≠[]) (hi:H[i]?=some (.res R)) (hjj:H[j]?=some (.res Rr))
  (hrd:∀w S,Rr.at_ w S→∃b off,A=some ⟨b,off,none⟩∧Lay w b off (l2.flatMap enc))
  (hsp:∀w S,R.at_ w S→stars [OwnR enc k elem v l,R1] w S) (hjn:∀v' w S,stars [OwnR enc k elem v' (l++l2),R1] w S→(R' v').at_ w S) (hlen:l.length+l2.length≤2147483648)
  (kk:∀v',SlF v' (l++l2)→setK H i (.res (R' v')) fun H'=>K (.lit v') H'):OpM P S t H (.call c) K:=by
 refine OpM.appO hc hs hx hi hsp hjn (fun F γ w tt hrs hown=>?_) kk
 obtain ⟨r,hr,hu⟩:=hA.ty
 obtain ⟨er,z,he,hes,hz,hzc,hb⟩:=hA.el
 obtain ⟨T0,hT0,_⟩:=hrs.out
 obtain ⟨Sr,_,hRr,_⟩:=stars_at (i:=j) (r:=Rr) hT0 (by unfold rss;rw[List.getElem?_map,hjj];rfl)
 obtain ⟨b,off,rfl,hlay⟩:=hrd w Sr hRr
 have hpos:0<l2.length:=List.length_pos_iff.2 hne
 have hzs:z.cells.size=k:=by
  have:=concs_length (conc_cells (conc_ofValue γ z))
  rw[hzc] at this
  simpa using this
 obtain ⟨g,cap,w',r1,r2,r3,r4,r5⟩:=run_append_lies (P:=P) w ty tt 0 elem er.info z k er.info.bytes (by rw[hE.und ty r hr,hu]) (infoL_of w (hE.info elem er he)) hz hes rfl hzs h0 v l.length _ hown ⟨b,off,none⟩ l2.length m (l2.flatMap enc) (by rw[flat_len hk]) (fun j u hj=>by rw[Addr.add_mid];exact hlay j u hj) (fun u hu=>by
   obtain ⟨a,_,h2⟩:=List.mem_flatMap.1 hu
   exact h1 a u h2) hpos (by unfold maxLen;omega) (Nat.le_trans (Nat.mul_le_mul hlen hb) (by decide)) (Nat.zero_le _) _ rfl
 refine ⟨_,w',r1,?_,r3,fun b hb=>?_⟩
 ·unfold Own
  rw[List.length_append,List.flatMap_append]
  exact r2
 ·simp only[Value.ownBlock,Option.some.injEq] at hb
  subst hb
  rcases r4 with h|h
  ·exact .inl h
  ·exact .inr (by omega)
end
end Go.Proofs.YtmbdghclhpboaaaGreat.Ev

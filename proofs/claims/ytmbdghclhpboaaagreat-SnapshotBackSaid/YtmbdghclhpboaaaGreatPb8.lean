/- Part of the proof: EvN. Conditions: as each states. -/
import Derived.Test.YtmbdghclhpboaaaGreatPb7
set_option linter.all false
namespace Go.Proofs.YtmbdghclhpboaaaGreat.Ev
theorem RelL.move{F:Frz}{γ:Gam}{σ:AS}{w w':World}(h:RelL F γ σ w){o:Nat}{p:Place}{ob:AObj}(base:Nat)(hp:γ o=some (some p))(hl:σ.next<lim)(hd:ob≠.dead)
  (hrel:ObjRel (upd (upd γ o none) σ.next (some ⟨p.block,base,p.top⟩)) ob ⟨p.block,base,p.top⟩ w') (hw:Turn p.block w w') :
  RelL F (upd (upd γ o none) σ.next (some ⟨p.block,base,p.top⟩)) { heap:=(σ.heap.put o .dead).put σ.next ob,next:=σ.next+1 } w':=by
 have hol:=h.next_lt (o:=o) (by rw[hp];simp)
 have ho:o≤lim:=Nat.le_trans (Nat.le_of_lt hol) h.lim
 have hg0:(upd γ o none) σ.next=none:=by rw[upd_ne _ _ (by omega)];exact h.dom _ (Nat.le_refl _)
 have hx:Ext γ (upd (upd γ o none) σ.next (some ⟨p.block,base,p.top⟩)):=(ext_kill o).trans (ext_upd _ hg0)
 have hget:∀q,q≠o→q≠σ.next→((σ.heap.put o .dead).put σ.next ob).get q=σ.heap.get q:=by
  intro q h1 h2
  rw[T.get_put _ _ _ _ (Nat.le_of_lt hl),if_neg h2,T.get_put _ _ _ _ ho,if_neg h1]
 have hgam:∀q,q≠o→q≠σ.next→(upd (upd γ o none) σ.next (some ⟨p.block,base,p.top⟩)) q=γ q:=by
  intro q h1 h2
  rw[upd_ne _ _ h2,upd_ne _ _ h1]
 have hdead:(upd (upd γ o none) σ.next (some ⟨p.block,base,p.top⟩)) o=some none:=by
  rw[upd_ne _ _ (by omega),upd_self]
 refine ⟨⟨fun q hq=>?_,fun q r hq=>?_,fun q hq=>?_,fun q q' r r' hq hq' e=>?_,by simp only[];omega⟩,fun q r hq=>?_,(h.frame.turn (h.frame.own o p hp) hw).less fun q r hq=>?_⟩
 ·simp only[] at hq
  rw[hgam q (by omega) (by omega)];exact h.dom q (by omega)
 ·by_cases e1:q=o
  ·subst e1;rw[hdead] at hq;cases hq
  ·by_cases e2:q=σ.next
   ·subst e2
    rw[upd_self] at hq;cases hq
    refine ⟨ob,?_,hrel⟩
    simp only[]
    rw[T.get_put _ _ _ _ (Nat.le_of_lt hl)];simp
   ·rw[hgam q e1 e2] at hq
    obtain ⟨ob',h1,h2⟩:=h.obj q r hq
    refine ⟨ob',by simp only[];rw[hget q e1 e2];exact h1,h2.mono hx (hw.block _ fun e=>e1 (h.inj q o r p hq hp e))⟩
 ·by_cases e1:q=o
  ·subst e1
   simp only[]
   rw[T.get_put _ _ _ _ (Nat.le_of_lt hl),if_neg (by omega),T.get_put _ _ _ _ ho];simp
  ·by_cases e2:q=σ.next
   ·subst e2;rw[upd_self] at hq;cases hq
   ·rw[hgam q e1 e2] at hq
    simp only[]
    rw[hget q e1 e2];exact h.gone q hq
 ·have n1:q≠o:=fun e=>by rw[e,hdead] at hq;cases hq
  have n2:q'≠o:=fun e=>by rw[e,hdead] at hq';cases hq'
  by_cases e1:q=σ.next<;>by_cases e2:q'=σ.next
  ·rw[e1,e2]
  ·rw[e1,upd_self] at hq;cases hq
   rw[hgam q' n2 e2] at hq'
   exact absurd (h.inj q' o r' p hq' hp e.symm) n2
  ·rw[e2,upd_self] at hq';cases hq'
   rw[hgam q n1 e1] at hq
   exact absurd (h.inj q o r p hq hp e) n1
  ·rw[hgam q n1 e1] at hq
   rw[hgam q' n2 e2] at hq'
   exact h.inj q q' r r' hq hq' e
 ·have n1:q≠o:=fun e=>by rw[e,hdead] at hq;cases hq
  by_cases e2:q=σ.next
  ·subst e2
   simp only[]
   rw[T.get_put _ _ _ _ (Nat.le_of_lt hl)]
   simp only[if_true]
   intro hh;exact hd (Option.some.inj hh)
  ·rw[hgam q n1 e2] at hq
   simp only[]
   rw[hget q n1 e2];exact h.live q r hq
 ·have n1:q≠o:=fun e=>by rw[e,hdead] at hq;cases hq
  by_cases e2:q=σ.next
  ·subst e2;rw[upd_self] at hq;cases hq;exact ⟨o,p,hp,rfl⟩
  ·rw[hgam q n1 e2] at hq;exact ⟨q,r,hq,rfl⟩
theorem Step.grow{F:Frz}{γ:Gam}{σ:AS}{w:World}(h:RelL F γ σ w){o:Nat}(ob:AObj)(q:Option Place)(hp:γ o≠none)(hl:σ.next<lim) :
  Step γ σ (upd (upd γ o none) σ.next q) { heap:=(σ.heap.put o .dead).put σ.next ob,next:=σ.next+1 }:=by
 have hol:=h.next_lt hp
 have ho:o≤lim:=Nat.le_trans (Nat.le_of_lt hol) h.lim
 have hg0:(upd γ o none) σ.next=none:=by rw[upd_ne _ _ (by omega)];exact h.dom _ (Nat.le_refl _)
 refine ⟨(ext_kill o).trans (ext_upd q hg0),fun a ha hg=>?_,Nat.le_succ _,fun a ha hg=>?_⟩
 ·rw[upd_ne _ _ (by omega),upd_ne _ _ (fun e=>hp (by rw[←e];exact hg))];exact hg
 ·simp only[]
  rw[T.get_put _ _ _ _ (Nat.le_of_lt hl),if_neg (by omega),T.get_put _ _ _ _ ho,if_neg (fun e=>hp (by rw[←e];exact hg))]
theorem growBy_le(need:Nat):∀(r c:Nat),4 * c≤5 * need+2048→4 * Builtin.growBy need r c≤5 * need+2048
 | 0,c,h=>by simpa [Builtin.growBy] using h
 | r+1,c,h=>by
   unfold Builtin.growBy
   split
   ·exact h
   ·exact growBy_le need r _ (by omega)
theorem nextcap_le{need old:Nat}(h:old<need):4 * Builtin.nextslicecap need old≤5 * need+2048:=by
 unfold Builtin.nextslicecap
 split
 ·omega
 ·split
  ·omega
  ·exact growBy_le need 4 old (by omega)
theorem zeroCells_size(z:Array Value)(n:Nat):(Builtin.zeroCells z n).size=n * z.size:=by simp[Builtin.zeroCells]
section
variable{F:Frz}{P:Program}{E:Env}(hE:EnvOk P E){γ:Gam}{σ:AS}{w:World}{t:Tmps}{ρ:Operand→Value}
include hE
omit hE in
theorem lenOf_ok{x:AV}{n:Nat}(h:lenOfA x=some n){y:Value}(hx:Conc γ x y):(Builtin.lenOf y).run P w=.ok n w:=by
 unfold lenOfA at h
 split at h
 ·simp only[Conc] at hx;obtain ⟨a,c,rfl,_⟩:=hx
  simp only[Option.some.injEq] at h;subst h;rfl
 ·rw[conc_lit_iff] at hx;subst hx
  simp only[Option.some.injEq] at h;subst h;rfl
 ·rw[conc_lit_iff] at hx;subst hx
  simp only[Option.some.injEq] at h;subst h;rfl
 ·cases h
theorem run_app_in{ts:Array TypeId}{tt ty xt:TypeId}{ys:Array Value}{r xr er:TyRow}{elem:TypeId}{a:Addr}{len c n:Nat}{x:Value}{new:Array Value}{w':World}
  (h0:ts[0]?=some ty) (h1:ts[1]?=some xt) (h2:ys[0]?=some (.slice (some a) len c)) (h3:ys[1]?=some x) (hr:E.ty ty=some r) (hd:r.und=.slice elem) (hxr:E.ty xt=some xr) (hxd:∀k,xr.und≠.int k)
  (her:E.ty elem=some er) (hn:(Builtin.lenOf x).run P w=.ok n w) (hf:(Builtin.firstCells er.info.size n x).run P w=.ok new w) (hle:len+n≤c)
  (hst:(storeCells (a.add (len * er.info.size)) new.toList).run P w=.ok () w') :
  (Builtin.append_ ts tt ys).run P w=.ok (.slice (some a) (len+n) c) w':=by
 have hz:(match xr.und with|.int _=>true|_=>false)=false:=by
  split
  ·exact absurd ‹_› (hxd _)
  ·rfl
 unfold Builtin.append_
 simp only[h0,h1,h2,h3,Sem.run_bind,run_und hE hr w,hd,Result.andThen_ok,run_size hE her w,run_und hE hxr w,Sem.run_pure,hz,Bool.false_eq_true,if_false,hn,if_pos hle,Bool.not_false,if_true,hf,hst]
theorem run_app_new{ts:Array TypeId}{tt ty xt:TypeId}{ys:Array Value}{r xr er:TyRow}{elem:TypeId}{base:Option Addr}{len c n:Nat}{x z:Value}{old new:Array Value}
  (h0:ts[0]?=some ty) (h1:ts[1]?=some xt) (h2:ys[0]?=some (.slice base len c)) (h3:ys[1]?=some x) (hr:E.ty ty=some r) (hd:r.und=.slice elem) (hxr:E.ty xt=some xr) (hxd:∀k,xr.und≠.int k)
  (her:E.ty elem=some er) (hz:er.info.zero=some z) (hn:(Builtin.lenOf x).run P w=.ok n w) (hf:∀w',w'.heap=w.heap→(Builtin.firstCells er.info.size n x).run P w'=.ok new w') (hlt:¬len+n≤c)
  (hso:∀w',w'.heap=w.heap→(Builtin.firstCells er.info.size len (.slice base len c)).run P w'=.ok old w') (hneed:(len+n) * er.info.bytes≤140737488355328∧len+n≤4611686018427387904) (hbytes:er.info.bytes≤65536) :
  ∃cap,len+n≤cap∧(Builtin.append_ ts tt ys).run P w=.ok (.slice (some ⟨w.heap.size,0,none⟩) (len+n) cap) { w with heap:=w.heap.push (.cells (old++new++Builtin.zeroCells z.cells (cap - (len+n))) elem),drawn:=w.drawn+1 }:=by
 have hzz:(match xr.und with|.int _=>true|_=>false)=false:=by
  split
  ·exact absurd ‹_› (hxd _)
  ·rfl
 have hmax:¬(((len+n:Nat):Int)>IntKind.i64.max∧((false=true)∨er.info.bytes=0)):=by
  intro hh
  have:=hh.1
  unfold IntKind.max IntKind.signed IntKind.bits at this
  simp at this
  omega
 have hcap:¬(Builtin.nextslicecap (len+n) c * er.info.bytes>2 ^ 48):=by
  have:=nextcap_le (by omega:c<len+n)
  have h2:=Nat.mul_le_mul_right er.info.bytes this
  rw[Nat.add_mul,Nat.mul_assoc,Nat.mul_assoc] at h2
  have h3:=hneed.1
  have h4:2048 * er.info.bytes≤2048 * 65536:=Nat.mul_le_mul_left _ hbytes
  generalize (len+n) * er.info.bytes=u at *
  generalize Builtin.nextslicecap (len+n) c * er.info.bytes=v at *
  omega
 let w1:World:={ w with drawn:=w.drawn+1 }
 refine ⟨(Question.appendCap (len+n) c elem).cut (w.tape w.drawn (.appendCap (len+n) c elem)),?_,?_⟩
 ·simp only[Question.cut];omega
 ·unfold Builtin.append_
  have hw1:w1.heap=w.heap:=rfl
  have e1:=hf w1 hw1
  have e2:=hso w1 hw1
  have hq:(Question.appendCap (len+n) c elem).forced=false:=rfl
  simp only[h0,h1,h2,h3,Sem.run_bind,run_und hE hr w,hd,Result.andThen_ok,run_size hE her w,run_und hE hxr w,Sem.run_pure,hzz,Bool.false_eq_true,if_false,hn,if_neg hlt,Bool.not_false,if_true,run_info hE her w]
  have hmax':¬(((len+n:Nat):Int)>IntKind.i64.max∧(False∨er.info.bytes=0)):=by simpa using hmax
  rw[if_neg hmax']
  simp only[Sem.run_bind,run_info hE her w,Result.andThen_ok,if_neg hcap,run_choose,hq,Bool.false_eq_true,if_false]
  have hw1':({ heap:=w.heap,tape:=w.tape,drawn:=w.drawn+1,os:=w.os,output:=w.output }:World)=w1:=rfl
  simp only[hw1',run_info hE her w1,Result.andThen_ok,run_askRoom,e1,e2,run_zero hE her w1 hz,newRow,Sem.run_bind,run_newObj,Sem.run_pure]
  rfl
theorem append_ok(hR:RelL F γ σ w){ts:Array TypeId}{tt ty xt:TypeId}{ys:Array Value}{xr:TyRow}{s x v:AV}{σ':AS}{s' x':Value}(h:appendA E σ ty s x=some (v,σ'))(hs:Conc γ s s')(hx:Conc γ x x')
  (h0:ts[0]?=some ty) (h1:ts[1]?=some xt) (h2:ys[0]?=some s') (h3:ys[1]?=some x') (hxr:E.ty xt=some xr) (hxd:∀k,xr.und≠.int k) :
  ∃γ' w' u,(Builtin.append_ ts tt ys).run P w=.ok u w'∧Conc γ' v u∧RelL F γ' σ' w'∧Step γ σ γ' σ':=by
 unfold appendA at h
 cases hr:E.ty ty with
 | none=>rw[hr] at h;cases h
 | some r=>
   rw[hr] at h
   simp only[] at h
   split at h
   ·rename_i elem hd
    split at h
    ·
     rename_i er n len her hln hls
     split at h
     ·rename_i new old z hfn hfo hz
      split at h
      ·cases h
      ·rename_i hb
       simp only[Bool.and_eq_true] at hb
       obtain ⟨⟨⟨⟨⟨⟨⟨hb1,hb2⟩,hb3⟩,hb4⟩,hb5⟩,hb6⟩,hb7⟩,hb8⟩:=hb
       have hb8:fixT elem=false:=by simpa using hb8
       have hb1:=And.intro (Nat.le_of_ble_eq_true hb1.1) (Nat.le_of_ble_eq_true hb1.2)
       have hb2:=Nat.le_of_ble_eq_true hb2
       have hb3:=blt_t hb3
       have hb4:=Nat.eq_of_beq_eq_true hb4
       have hb5:=Nat.eq_of_beq_eq_true hb5
       have hb6:=Nat.eq_of_beq_eq_true hb6
       have hzc:Concs γ (ofValue z).cells z.cells.toList:=conc_cells (conc_ofValue γ z)
       have hzs:z.cells.size=er.info.size:=by have:=concs_length hzc;rw[hb4] at this;simpa using this
       have hnx:=lenOf_ok (P:=P) (w:=w) hln hx
       obtain ⟨cn,hcn,hcnr⟩:=first_all (P:=P) hR.toRel hfn hx
       obtain ⟨co,hco,hcor⟩:=first_all (P:=P) hR.toRel hfo hs
       have hcnl:=concs_length hcnr
       have hcol:=concs_length hcor
       simp only[Array.length_toList] at hcnl hcol
       have fresh:∀(base:Option Addr) (c:Nat),s'=.slice base len c→¬len+(n+1)≤c→∃cap,len+(n+1)≤cap ∧
         (Builtin.append_ ts tt ys).run P w=.ok (.slice (some ⟨w.heap.size,0,none⟩) (len+(n+1)) cap) { w with heap:=w.heap.push (.cells (co++cn++Builtin.zeroCells z.cells (cap - (len+(n+1)))) elem),drawn:=w.drawn+1 }:=by
        intro base c e hlt
        subst e
        exact run_app_new hE h0 h1 h2 h3 hr hd hxr hxd her hz hnx hcn hlt hco hb1 hb2
       have hwd:RelL F γ σ { w with drawn:=w.drawn+1 }:=hR.heap rfl
       have hsz:∀cap,len+(n+1)≤cap→(co++cn++Builtin.zeroCells z.cells (cap - (len+(n+1)))).size=cap * er.info.size:=by
        intro cap hcap
        simp only[Array.size_append,zeroCells_size,hzs,hcnl,hcol,hb5,hb6]
        rw[←Nat.add_mul,←Nat.add_mul]
        congr 1
        omega
       have hobj:∀(γ':Gam) (cap base:Nat) (w':World) (b top:Nat),Ext γ γ'→len+(n+1)≤cap→w'.heap[b]?=some (.cells (co++cn++Builtin.zeroCells z.cells (cap - (len+(n+1)))) elem) →
         ObjRel γ' (.cells (old++new) elem) ⟨b,0,cap * er.info.size⟩ w':=by
        intro γ' cap base w' b top hx' hcap hw'
        refine ⟨_,hw',⟨hsz cap hcap,fun h=>absurd h (by rw[hb8];simp)⟩,?_,fun i u hu=>?_⟩
        ·simp only[List.length_append,hb5,hb6]
         rw[←Nat.add_mul,Nat.zero_add]
         exact Nat.mul_le_mul_right _ hcap
        ·obtain ⟨y,hy,hcy⟩:=concs_get (concs_append hcor hcnr) i u hu
         refine ⟨y,?_,hcy.mono hx' _ _⟩
         have hi:i<(co.toList++cn.toList).length:=(List.getElem?_eq_some_iff.1 hy).1
         have hi':i<(co++cn).size:=by simpa using hi
         rw[Nat.zero_add,Array.getElem?_append_left hi']
         have:(co++cn)[i]?=(co.toList++cn.toList)[i]?:=by rw[←Array.getElem?_toList,Array.toList_append]
         rw[this];exact hy
       have hval:∀(γ':Gam) (cap:Nat),len+(n+1)≤cap→γ' σ.next=some (some ⟨w.heap.size,0,cap * er.info.size⟩)→Conc γ' (.slice σ.next 0 (len+(n+1)) (.grown er.info.size)) (.slice (some ⟨w.heap.size,0,none⟩) (len+(n+1)) cap):=by
        intro γ' cap hcap hg
        simp only[Conc]
        exact ⟨_,_,rfl,.inr (by unfold atP;rw[hg]),hcap,by unfold topP;rw[hg];simp⟩
       have plain:(base:Option Addr)→(c:Nat)→s'=.slice base len c→¬len+(n+1)≤c→v=.slice σ.next 0 (len+(n+1)) (.grown er.info.size)→σ'={ heap:=σ.heap.put σ.next (.cells (old++new) elem),next:=σ.next+1 } →
         ∃γ' w' u,(Builtin.append_ ts tt ys).run P w=.ok u w'∧Conc γ' v u∧RelL F γ' σ' w'∧Step γ σ γ' σ':=by
        intro base c e hlt ev es
        obtain ⟨cap,hcap,hrun⟩:=fresh base c e hlt
        subst ev es
        have hm:=hwd.more hb3 (.cells (old++new) elem)
        have hg0:γ σ.next=none:=hR.dom _ (Nat.le_refl _)
        have hget:(σ.heap.put σ.next (AObj.cells (old++new) elem)).get σ.next=some (.cells (old++new) elem):=by rw[T.get_put _ _ _ _ (Nat.le_of_lt hb3)];simp
        refine ⟨_,_,_,hrun,hval _ cap hcap (upd_self γ σ.next _),hm.place (id:=σ.next) (base:=0) (top:=cap * er.info.size) (by simp) hg0 hget (by simp) _ ?_,Step.place _ hg0 σ (Nat.le_refl _) (Step.more hR hb3 _)⟩
        exact hobj _ cap 0 _ _ 0 (ext_upd _ hg0) hcap (by simp)
       split at h
       ·
        simp only[Option.some.injEq,Prod.mk.injEq] at h
        rw[conc_lit_iff] at hs
        have hlen:∃m,s'=.slice none m 0∧m=len:=by
         refine ⟨_,hs,?_⟩
         simpa [lenOfA] using hls
        obtain ⟨m,e,rfl⟩:=hlen
        exact plain none 0 e (by omega) h.1.symm h.2.symm
       ·rename_i o off m cap
        simp only[lenOfA,Option.some.injEq] at hls
        subst hls
        have hs0:=hs
        simp only[Conc] at hs
        obtain ⟨a,c,rfl,ha,hlc,hcc⟩:=hs
        split at h
        ·
         rename_i s0
         split at h
         ·rename_i hbb
          rw[Bool.and_eq_true] at hbb
          have hss:=Nat.eq_of_beq_eq_true hbb.1
          subst hss
          have hcell:∃l,σ.heap.get o=some (.cells l elem):=by
           have:=hbb.2
           unfold isCells at this
           split at this
           ·rename_i e0 _
            have:=Nat.eq_of_beq_eq_true this
            subst this
            exact ⟨_,by assumption⟩
           ·cases this
          obtain ⟨l0,hl0⟩:=hcell
          simp only[Option.some.injEq,Prod.mk.injEq] at h
          obtain ⟨rfl,rfl⟩:=h
          simp only[] at hcc
          have hno:γ o≠none:=fun e=>by unfold topP at hcc;rw[e] at hcc;exact hcc
          obtain ⟨p,hp,hob⟩:=hR.find hl0 (by simp) hno
          have htop:p.base+(off+c * er.info.size)≤p.top:=by unfold topP at hcc;rw[hp] at hcc;exact hcc
          by_cases hroom:m+(n+1)≤c
          ·
           have ha:atP γ o off a:=ha.resolve_left (by omega)
           obtain rfl:=ha.at hp
           obtain ⟨cb,hbk,⟨hbs,hbf⟩,hbl,hbc⟩:=hob
           have hone:∀y∈cn.toList,y.oneCell'=true:=by
            intro y hy
            obtain ⟨i,hi,e⟩:=List.mem_iff_getElem.1 hy
            have hvi:i<new.length:=by simpa [hcnl] using hi
            obtain ⟨x,hx,hcx⟩:=concs_get hcnr i new[i] (by simp[hvi])
            rw[List.getElem?_eq_getElem hi,e] at hx
            cases hx
            exact conc_one hcx (List.all_eq_true.1 hb7 _ (List.getElem_mem hvi))
           have hfit:p.base+off+m * er.info.size+cn.toList.length≤cb.size:=by
            rw[Array.length_toList,hcnl,hb6,hbs]
            have:=Nat.mul_le_mul_right er.info.size hroom
            rw[Nat.add_mul] at this
            omega
           have hst:=run_storeCells_at (P:=P) p.block (p.base+off+m * er.info.size) elem cn.toList 0 cb w hbk (by omega) hone
           rw[Nat.add_zero] at hst
           have hadd:(⟨p.block,p.base+off,none⟩:Addr).add (m * er.info.size)=⟨p.block,p.base+off+m * er.info.size,none⟩:=addr_add _ _ _
           have hrun:=run_app_in hE (tt:=tt) h0 h1 h2 h3 hr hd hxr hxd her hnx (hcn w rfl) hroom (by rw[hadd];exact hst)
           have hto:(cb.toList.take (p.base+off+m * er.info.size)++cn.toList++cb.toList.drop (p.base+off+m * er.info.size+cn.toList.length))=setFrom cb.toList (p.base+off+m * er.info.size) cn.toList:=rfl
           rw[hto] at hrun
           have hcbl:cb.toList.length=cb.size:=by simp
           have hold:co.toList=(cb.toList.drop (p.base+off)).take (m * er.info.size):=by
            have:=hco w rfl
            have hl:=run_loadCells_list (P:=P) w ⟨p.block,p.base+off,none⟩ ((cb.toList.drop (p.base+off)).take (m * er.info.size)) (by
             intro j u hu
             rw[addr_add]
             rw[List.getElem?_take] at hu
             split at hu
             ·rw[List.getElem?_drop] at hu
              simp only[World.cell?,hbk,Option.isSome_none,Bool.false_eq_true,if_false]
              simpa using hu
             ·simp at hu)
            have hll:((cb.toList.drop (p.base+off)).take (m * er.info.size)).length=m * er.info.size:=by
             rw[List.length_take,List.length_drop,hcbl]
             rw[Array.length_toList] at hfit
             omega
            rw[hll] at hl
            simp only[Builtin.firstCells] at this
            rw[hl] at this
            simp only[Result.ok.injEq,and_true] at this
            rw[←this]
           refine ⟨_,_,_,hrun,?_,RelL.move (base:=p.base+off) hR hp hb3 (by simp) ?_ (turn_row w p.block _),Step.grow hR _ _ hno hb3⟩
           ·simp only[Conc]
            refine ⟨_,_,rfl,.inr ?_,hroom,?_⟩
            ·unfold atP;rw[upd_self];simp
            ·unfold topP;rw[upd_self];simp only[];omega
           ·have hx':Ext γ (upd (upd γ o none) σ.next (some ⟨p.block,p.base+off,p.top⟩)):=(Step.grow hR (.cells (old++new) elem) _ hno hb3).ext
            refine ⟨_,setRow_heap w p.block cb _ elem _ hbk,?_,?_,fun i u hu=>?_⟩
            ·simp only[List.size_toArray]
             rw[setFrom_length _ _ _ (by rw[hcbl];exact hfit),hcbl,hbs]
             exact ⟨rfl,fun h=>absurd h (by rw[hb8];simp)⟩
            ·simp only[List.length_append,hb5,hb6]
             have:=Nat.mul_le_mul_right er.info.size hroom
             rw[Nat.add_mul] at this
             omega
            ·obtain ⟨y,hy,hcy⟩:=concs_get (concs_append hcor hcnr) i u hu
             refine ⟨y,?_,hcy.mono hx' _ _⟩
             simp only[List.getElem?_toArray]
             rw[setFrom_get _ _ _ _ (by rw[hcbl];exact hfit)]
             have hcl:co.toList.length=m * er.info.size:=by rw[Array.length_toList,hcol,hb5]
             by_cases hi:i<m * er.info.size
             ·rw[if_neg (by omega)]
              rw[List.getElem?_append_left (by rw[hcl];exact hi),hold,List.getElem?_take,if_pos hi,List.getElem?_drop] at hy
              exact hy
             ·rw[List.getElem?_append_right (by rw[hcl];omega),hcl] at hy
              have hil:=(List.getElem?_eq_some_iff.1 hy).1
              rw[if_pos (by omega)]
              rw[show p.base+off+i - (p.base+off+m * er.info.size)=i - m * er.info.size by omega]
              exact hy
          ·obtain ⟨cap,hcap,hrun⟩:=fresh _ c rfl hroom
           have hk:=hwd.kill (o:=o) hno
           have hm:=hk.more hb3 (.cells (old++new) elem)
           have hol:=hR.next_lt hno
           have hg0:(upd γ o none) σ.next=none:=by rw[upd_ne _ _ (by omega)];exact hR.dom _ (Nat.le_refl _)
           have hget:((σ.heap.put o .dead).put σ.next (AObj.cells (old++new) elem)).get σ.next=some (.cells (old++new) elem):=by rw[T.get_put _ _ _ _ (Nat.le_of_lt hb3)];simp
           have hst:=Step.grow hR (.cells (old++new) elem) (some ⟨w.heap.size,0,cap * er.info.size⟩) hno hb3
           refine ⟨_,_,_,hrun,hval _ cap hcap (upd_self _ σ.next _),hm.place (id:=σ.next) (base:=0) (top:=cap * er.info.size) (by simp) hg0 hget (by simp) _ ?_,hst⟩
           exact hobj _ cap 0 _ _ 0 hst.ext hcap (by simp)
         ·cases h
        ·
         rename_i c0
         simp only[] at hcc
         subst hcc
         split at h
         ·rename_i hble
          simp only[Option.some.injEq,Prod.mk.injEq] at h
          exact plain (some a) c rfl (fun hle=>by rw[Nat.ble_eq_true_of_le hle] at hble;cases hble) h.1.symm h.2.symm
         ·rename_i hble
          have hroom:=Nat.le_of_ble_eq_true hble
          split at h
          ·rename_i l0 e0 hl0
           split at h
           ·rename_i hfit
            have hfit:=Nat.le_of_ble_eq_true hfit
            simp only[Option.some.injEq,Prod.mk.injEq] at h
            obtain ⟨rfl,rfl⟩:=h
            have ha:atP γ o off a:=ha.resolve_left (by omega)
            have ha2:atP γ o (off+m * er.info.size) (a.add (m * er.info.size)):=by
             unfold atP at ha ⊢
             cases hg:γ o with
             | none=>rw[hg] at ha;exact ha.elim
             | some q=>
               rw[hg] at ha
               cases q with
               | none=>trivial
               | some p=>simp only[] at ha ⊢;rw[ha,addr_add,Nat.add_assoc]
            obtain ⟨w',hst,h5,h6⟩:=RelL.store (P:=P) hR hl0 ha2 hfit hcnr hb7
            have hrun:=run_app_in hE (tt:=tt) h0 h1 h2 h3 hr hd hxr hxd her hnx (hcn w rfl) hroom hst
            refine ⟨γ,w',_,hrun,?_,h5,h6⟩
            simp only[Conc]
            exact ⟨_,_,rfl,.inr ha,hroom,rfl⟩
           ·cases h
          ·cases h
       ·cases h
     ·cases h
    ·
     rename_i er len her hln hls
     have hnx:=lenOf_ok (P:=P) (w:=w) hln hx
     have hf0:∃new:Array Value,(Builtin.firstCells er.info.size 0 x').run P w=.ok new w∧new.toList=[]:=by
      unfold lenOfA at hln
      split at hln
      ·simp only[Conc] at hx;obtain ⟨a,c,rfl,_⟩:=hx
       refine ⟨#[],?_,rfl⟩
       simp only[Builtin.firstCells,Nat.zero_mul]
       simpa using run_loadCells_list (P:=P) w a [] (by simp)
      ·rw[conc_lit_iff] at hx;subst hx;exact ⟨#[],rfl,rfl⟩
      ·rename_i sb
       rw[conc_lit_iff] at hx;subst hx
       refine ⟨_,rfl,?_⟩
       have:sb.extract 0 0=.empty:=by simp
       rw[this]
       simp
      ·cases hln
     obtain ⟨new,hf,hnew⟩:=hf0
     have hz:(match xr.und with|.int _=>true|_=>false)=false:=by
      split
      ·exact absurd ‹_› (hxd _)
      ·rfl
     have main:∀(base:Option Addr) (c:Nat),s'=.slice base len c→len≤c→(Builtin.append_ ts tt ys).run P w=.ok s' w:=by
      intro base c e hle
      subst e
      unfold Builtin.append_
      cases base with
      | none=>simp only[h0,h1,h2,h3,Sem.run_bind,run_und hE hr w,hd,Result.andThen_ok,run_size hE her w,run_und hE hxr w,Sem.run_pure,hz,Bool.false_eq_true,if_false,hnx,Nat.add_zero,if_pos hle,Bool.not_false,if_true,hf]
      | some a=>simp only[h0,h1,h2,h3,Sem.run_bind,run_und hE hr w,hd,Result.andThen_ok,run_size hE her w,run_und hE hxr w,Sem.run_pure,hz,Bool.false_eq_true,if_false,hnx,Nat.add_zero,if_pos hle,Bool.not_false,if_true,hf,hnew,storeCells]
     split at h
     ·simp only[Option.some.injEq,Prod.mk.injEq] at h
      obtain ⟨rfl,rfl⟩:=h
      have hs0:=hs
      simp only[lenOfA,Option.some.injEq] at hls
      simp only[Conc] at hs
      obtain ⟨a,c,e,_,hlc,_⟩:=hs
      rw[hls] at e hlc
      exact ⟨γ,w,s',main _ c e hlc,hs0,hR,.refl γ σ⟩
     ·rename_i l c
      split at h
      ·rename_i hble
       simp only[Option.some.injEq,Prod.mk.injEq] at h
       obtain ⟨rfl,rfl⟩:=h
       simp only[lenOfA,Option.some.injEq] at hls
       have hs0:=hs
       rw[conc_lit_iff] at hs
       have hble:=Nat.le_of_ble_eq_true hble
       rw[hls] at hs hble
       exact ⟨γ,w,s',main none c hs hble,hs0,hR,.refl γ σ⟩
      ·cases h
     ·cases h
    ·cases h
   ·cases h
theorem copy_ok(hR:RelL F γ σ w){ts:Array TypeId}{tt ty:TypeId}{ys:Array Value}{d x v:AV}{σ':AS}{d' x':Value}(h:copyA E σ ty d x=some (v,σ'))(hd':Conc γ d d')(hx:Conc γ x x')
  (h0:ts[0]?=some ty) (h2:ys[0]?=some d') (h3:ys[1]?=some x') :
  ∃w' u,(Builtin.copy_ ts tt ys).run P w=.ok u w'∧Conc γ v u∧RelL F γ σ' w'∧Step γ σ γ σ':=by
 unfold copyA at h
 cases hr:E.ty ty with
 | none=>rw[hr] at h;cases h
 | some r=>
   rw[hr] at h
   simp only[] at h
   split at h
   ·rename_i elem hd
    split at h
    ·rename_i er n o off len cap her hln
     have hnx:=lenOf_ok (P:=P) (w:=w) hln hx
     have hdd:=hd'
     simp only[Conc] at hd'
     obtain ⟨a,c,rfl,ha,hlc,_⟩:=hd'
     split at h
     ·rename_i hmin
      simp only[Option.some.injEq,Prod.mk.injEq] at h
      obtain ⟨rfl,rfl⟩:=h
      have hf0:∃new:Array Value,(Builtin.firstCells er.info.size 0 x').run P w=.ok new w∧new.toList=[]:=by
       unfold lenOfA at hln
       split at hln
       ·simp only[Conc] at hx;obtain ⟨a,c,rfl,_⟩:=hx
        refine ⟨#[],?_,rfl⟩
        simp only[Builtin.firstCells,Nat.zero_mul]
        simpa using run_loadCells_list (P:=P) w a [] (by simp)
       ·rw[conc_lit_iff] at hx;subst hx;exact ⟨#[],rfl,rfl⟩
       ·rename_i sb
        rw[conc_lit_iff] at hx;subst hx
        refine ⟨_,rfl,?_⟩
        have:sb.extract 0 0=.empty:=by simp
        rw[this]
        simp
       ·cases hln
      obtain ⟨new,hf,hnew⟩:=hf0
      refine ⟨w,goInt 0,?_,conc_lit γ _,hR,.refl γ σ⟩
      unfold Builtin.copy_
      simp only[h0,h2,h3,Sem.run_bind,run_und hE hr w,hd,Result.andThen_ok,hnx,run_size hE her w,hmin,hf,hnew,storeCells,Sem.run_pure]
      rfl
     ·rename_i k hmin
      split at h
      ·rename_i new l e hfn hg
       split at h
       ·rename_i hb
        rw[Bool.and_eq_true] at hb
        have hb1:=Nat.le_of_ble_eq_true hb.1
        simp only[Option.some.injEq,Prod.mk.injEq] at h
        obtain ⟨rfl,rfl⟩:=h
        have hlen:k+1≤len:=by have:=Nat.min_le_right n len;have h9:n.min len=min n len:=rfl;omega
        have ha:atP γ o off a:=ha.resolve_left (by omega)
        obtain ⟨cn,hcn,hcnr⟩:=first_ok (P:=P) hR.toRel hfn hx
        obtain ⟨w',hst,h5,h6⟩:=RelL.store (P:=P) hR hg ha hb1 hcnr hb.2
        refine ⟨w',_,?_,conc_lit γ _,h5,h6⟩
        unfold Builtin.copy_
        simp only[h0,h2,h3,Sem.run_bind,run_und hE hr w,hd,Result.andThen_ok,hnx,run_size hE her w,hmin,hcn,hst,Sem.run_pure]
       ·cases h
      ·cases h
    ·cases h
   ·cases h
end
end Go.Proofs.YtmbdghclhpboaaaGreat.Ev

/- Part of the proof: Szd OpBy Closed ClReads. Conditions: as each states. -/
import Derived.Test.YtmbdghclhpboaaaGreatPq46
set_option linter.all false
set_option maxRecDepth 100000
namespace Go.Proofs.YtmbdghclhpboaaaGreat
open Go.RowKit Go.ChangeShapes Go.WideShapes
section
variable{H:Type}{enc:TypeId×Value->H}{P:Program}
theorem yE{C:Checked}(own:ownKnob C.prog.godebug=none)(hl:laidOutB C.prog=true){os:Os}(started:os.Started){f:FuncId}{fn:Func}{s:ChangeSpec}{apart fresh handsOn:Bool}{tb:TypeId}
  (Gj:C.prog.inits.idxOf? f=none) (BS:C.prog.funcs[f]?=some fn)
  (hb:C.prog.underlying tb=some .bool) (hr:fn.resultTypes=#[tb]) (nP:∀t∈fn.params.toList,C.prog.readableRec t=true/\t<C.prog.types.size) (hv:s.vars=[])
  (B4:∀ds:List (DataW H),ds.length=fn.params.toList.length->(s.fn H ds).results=[.lit (.bool true)]/\(s.fn H ds).args=ds/\(s.fn H ds).vars=[])
  (witness:∃(w:World) (tape:Tape) (i:Input),w.os=os/\(w.forCall tape i).Shaped C.prog/\i.vars=[]/\Input.okWide C.prog (w.forCall tape i) .any w.heap.size f i /\
   s.pre6 enc C.prog fn [] apart (w.forCall tape i).memory i.args/\({}:Assume).holds C.prog (lone (Frame.enter C.prog f i.args .normal) [] (w.forCall tape i)))
  (yi:∀(W:World) (base:Nat) (args:Array Value) (ds:List (DataW H)) (ps:List MemPlace),
   (∀(j:Nat) t v,fn.params[j]?=some t->args[j]?=some v->Value.okWide C.prog W .any base t v) ->
   DataW.TrodAll enc C.prog W 0 (fun _=>true) true fn.params.toList args.toList ds ps->(DataW.weightsEach C.prog fn.params.toList ds).all (·<=reachBytes)=true->Calls C.prog f args W (OT W)) :
  ReturnsInHanded {} C os f .any (s.pre6 enc C.prog fn [] apart) (s.post enc C.prog fn apart fresh handsOn false):=by
 refine returnsInHanded_of_change_sized own started Gj BS witness ?_;intro W base args ds gs before rZ hW _ XO _;have PR:=hW;obtain ⟨p,q,hA,hV,rfl,NL,nN⟩:=hW;have hvt:s.plain.varTypes C.prog=[]:=by
  unfold DataSpec.varTypes ChangeSpec.plain;simp[hv]
 rw[hv] at hV;obtain ⟨rfl,rfl⟩:=trodVars_none hV;rw[hvt,List.append_nil,List.append_nil] at XO;exact (yi W base args ds p rZ hA XO).mono fun e W' ⟨he,qi⟩=>⟨_,he,Ek hl hb hr nP hv B4 PR qi⟩
end
end Go.Proofs.YtmbdghclhpboaaaGreat
namespace Go.Proofs.YtmbdghclhpboaaaGreat
open Go.RowKit Go.ChangeShapes Go.WideShapes Go.Deep Ev
section
variable{H:Type}{enc:TypeId×Value->H}{w:World}{base:Nat}{spare:Nat->Bool}{held:Bool}
theorem Yt{n:Int}(h:(Lit.int .u8 n).wf=true):∃b:UInt8,n=(b.toNat:Int):=by
 have h2:(0:Int)<=n/\n<256:=by
  simp only[Lit.wf,Bool.and_eq_true,decide_eq_true_eq] at h;have e1:IntKind.u8.min=0:=rfl;have e2:IntKind.u8.max=255:=rfl;omega
 refine ⟨UInt8.ofNat n.toNat,?_⟩;simp;omega
theorem Sy(n:Nat)(cs:List Value)(x:DataW H×List MemPlace)(h:DataW.trod enc Tryz.prog w base spare held n 5 cs=some x)(_hl:cs.length=1):∃a:UInt8,cs=cB a/\True:=by
 obtain ⟨a0,rfl,-,hw⟩:=DataW.trod_int Tryz.underlying5 h;obtain ⟨b,rfl⟩:=Yt hw;exact ⟨b,rfl,tU⟩
theorem I9{r:Reach}{b0:Nat}{v:Value}{d:DataW H}{ps:List MemPlace}(hv:Value.okWide Tryz.prog w r b0 31 v)(h:DataW.Trod enc Tryz.prog w base spare held 31 v d ps):∃l:List UInt8,Sl cB w w.heap.size v l:=by
 obtain ⟨l,hl,_⟩:=QX (enc':=cB) (by omega) fE (fun _=>True) Tryz.underlying31 (by kernel_rfl) Sy hv h;exact ⟨l,hl⟩
theorem Kg{r:Reach}{b0:Nat}{v:Value}{l:List UInt8}(hv:Value.okWide Tryz.prog w r b0 31 v)(hs:Sl cB w w.heap.size v l):∃A c,v=.slice A l.length c/\(⟨A,c,l,false⟩:aH).Ok (pN 0 w):=by
 obtain ⟨A,c,rfl,h1,h2,h3⟩:=hs;have hc:Cell.ok Tryz.prog w r b0 31 (.slice A l.length c):=by
  have h:=hv;unfold Value.okWide at h;rw[Tryz.underlying31] at h;simp only[] at h;unfold Cell.okWide at h;rw[Tryz.underlying31] at h;exact h
 unfold Cell.ok at hc;rw[Tryz.underlying31] at hc;refine ⟨A,c,rfl,⟨fun h=>?_,fun a h=>?_⟩⟩
 ·simp only[] at h;subst h;simp only[] at hc;split at hc;all_goals first
   | (rename_i e1 e2
      injection e2 with e3 e4 e5
      exact ⟨List.eq_nil_of_length_eq_zero e4,e5⟩)
   | exact hc.elim
   | (rename_i e1 e2;cases e2)
 ·simp only[] at h;subst h;have lK:a.spot=none:=hc.2.2.2.1;refine ⟨a.block,a.off,by rw[<-lK],h1,fun w' S hw j u hj=>?_⟩;have nC:0<l.length:=by
   rcases Nat.eq_zero_or_pos l.length with h0|h0
   ·rw[List.eq_nil_of_length_eq_zero h0] at hj;simp at hj
   ·exact h0
  obtain ⟨b,off,e,_,hl⟩:=h3 nC;injection e with e;subst e;exact pN.cell hw (Nat.zero_le _) (hl j u hj)
end
end Go.Proofs.YtmbdghclhpboaaaGreat
namespace Go.Proofs.YtmbdghclhpboaaaGreat
theorem eA{a b:Bool}(h:a=true)(k:b=true):(a&&b)=true:=by rw[h,k];rfl
theorem CU:laidOutB Tryz.prog=true:=by kernel_rfl
theorem Aj:mapsRowed Tryz.prog=true:=by kernel_rfl
theorem JF:(Tryz.prog.stops==[])=true:=by kernel_rfl
theorem Ak:(Tryz.prog.stopKnobs==[])=true:=by kernel_rfl
theorem JE:Tryz.prog.stopsHeard=true:=by kernel_rfl
theorem JD:Tryz.prog.mayEnter=true:=by kernel_rfl
theorem KW:ownKnob Tryz.prog.godebug=none:=by kernel_rfl
theorem xN:(Rows.snapshotReadsRow.wf (OpenSpec.ofChange Rows.snapshotReadsSpec))=true:=by kernel_rfl
theorem xO:(Tryz.f5.params.all (Tryz.prog.readableRec ·))=true:=by kernel_rfl
theorem xP:(namedTie Tryz.prog Rows.snapshotReadsRow.named Rows.snapshotReadsSpec.vars)=true:=by kernel_rfl
theorem xQ:(Rows.snapshotReadsRow.stops==[])=true:=by kernel_rfl
theorem xR:(Rows.snapshotReadsRow.knobs==[])=true:=by kernel_rfl
theorem xS:(Rows.snapshotReadsRow.inPlace==Tryz.prog.inPlace 5)=true:=by kernel_rfl
theorem vW:(Rows.snapshotReadsRow.unfollowed==Tryz.prog.unfollowed 5)=true:=by kernel_rfl
theorem vX:(Rows.snapshotReadsRow.recurses==Tryz.prog.recurses 5)=true:=by kernel_rfl
theorem vY:(Rows.snapshotReadsRow.named==Tryz.prog.varsNamed 5)=true:=by kernel_rfl
theorem vZ:(Rows.snapshotReadsRow.maps==(Tryz.f5.params.toList++Rows.snapshotReadsSpec.plain.varTypes Tryz.prog).any (Tryz.prog.mapsRec ·))=true:=by kernel_rfl
theorem v3:(Rows.snapshotReadsRow.ifaces==(Tryz.f5.params.toList++Rows.snapshotReadsSpec.plain.varTypes Tryz.prog).any (Tryz.prog.ifacesRec ·))=true:=by kernel_rfl
theorem v5:(Rows.snapshotReadsRow.mapsOut==Tryz.prog.mapsAmong Tryz.f5.resultTypes.toList)=true:=by kernel_rfl
theorem v7:(Rows.snapshotReadsRow.loops==(Tryz.f5.params.toList++Rows.snapshotReadsSpec.plain.varTypes Tryz.prog).any (Tryz.prog.loopsFrom ·))=true:=by kernel_rfl
theorem v8:(Rows.snapshotReadsRow.wideKeys==(Tryz.f5.params.toList++Rows.snapshotReadsSpec.plain.varTypes Tryz.prog++Tryz.f5.resultTypes.toList).any (Tryz.prog.wideKeysFrom ·))=true:=by kernel_rfl
theorem v9:(Rows.snapshotReadsSpec.vars.all (Tryz.prog.varReadable ·))=true:=by kernel_rfl
theorem wa:(Tryz.f5.resultTypes.all (fun t=>Tryz.prog.readableRec t&&decide (t<Tryz.prog.types.size)))=true:=by kernel_rfl
theorem wb:(Rows.snapshotReadsRow.ifacesOut==Tryz.f5.resultTypes.toList.any (Tryz.prog.ifacesRec ·))=true:=by kernel_rfl
theorem we:(Rows.snapshotReadsRow.loopsOut==Tryz.f5.resultTypes.toList.any (Tryz.prog.loopsFrom ·))=true:=by kernel_rfl
theorem wg:(Rows.snapshotReadsRow.plainKeys==Tryz.prog.plainKeys)=true:=by kernel_rfl
theorem wi:(Rows.snapshotReadsRow.shortTexts.isNone)=true:=by kernel_rfl
theorem wj:(Rows.snapshotReadsRow.lifted==Tryz.prog.liftsFinal)=true:=by kernel_rfl
theorem wm:(Tryz.prog.make==some Rows.snapshotReadsRow.make)=true:=by kernel_rfl
theorem wo:(Rows.snapshotReadsRow.pinned==Rows.snapshotReadsRow.pinnedBy)=true:=by kernel_rfl
theorem wq:(Rows.snapshotReadsRow.veiled==(Tryz.f5.params.toList++Rows.snapshotReadsSpec.plain.varTypes Tryz.prog++Tryz.f5.resultTypes.toList).any (Tryz.prog.veiledRec ·))=true:=by kernel_rfl
theorem wu:(Rows.snapshotReadsRow.veiledFits Tryz.prog Tryz.f5.params.toList (Tryz.f5.params.toList++Rows.snapshotReadsSpec.plain.varTypes Tryz.prog++Tryz.f5.resultTypes.toList))=true:=by kernel_rfl
theorem sq:joinedFacts Tryz.prog 5 Tryz.f5 Rows.snapshotReadsSpec Rows.snapshotReadsRow=true:=by
 rw[joinedFacts];exact (eA (eA (eA (eA (eA (eA (eA (eA (eA (eA (eA (eA (eA (eA (eA (eA (eA (eA (eA (eA (eA (eA (eA (eA (eA (eA (eA (eA (eA (eA (eA xN CU) Aj) xO) xP) xQ) JF) xR) Ak) xS) vW) vX) vY) vZ) v3) v5) v7) v8) v9) wa) wb) we) wg) wi) JE) JD) wj) wm) (by kernel_rfl)) wo) wq) wu)
theorem tW:Tryz.prog.funcNamed Rows.snapshotReadsRow.func=some 5:=by kernel_rfl
theorem sw:Tryz.prog.inits.idxOf? 5=none:=by kernel_rfl

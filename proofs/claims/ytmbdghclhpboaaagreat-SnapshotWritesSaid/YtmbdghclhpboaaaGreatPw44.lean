/- Part of the proof: Szd OpSt Closed ClWrites. Conditions: as each states. -/
import Derived.Test.YtmbdghclhpboaaaGreatPw43
set_option linter.all false
set_option maxRecDepth 100000
set_option maxHeartbeats 8000000
namespace Go.Proofs.YtmbdghclhpboaaaGreat
open Go.RowKit Go.ChangeShapes Go.WideShapes
section
variable{H:Type}{enc:TypeId×Value->H}{P:Program}
theorem xF{C:Checked}(own:ownKnob C.prog.godebug=none)(hl:laidOutB C.prog=true){os:Os}(started:os.Started){f:FuncId}{fn:Func}{s:ChangeSpec}{apart fresh handsOn:Bool}{tb:TypeId}
  (E2:C.prog.inits.idxOf? f=none) (AL:C.prog.funcs[f]?=some fn)
  (hb:C.prog.underlying tb=some .bool) (hr:fn.resultTypes=#[tb]) (mR:∀t∈fn.params.toList,C.prog.readableRec t=true/\t<C.prog.types.size) (hv:s.vars=[])
  (AU:∀ds:List (DataW H),ds.length=fn.params.toList.length->(s.fn H ds).results=[.lit (.bool true)]/\(s.fn H ds).args=ds/\(s.fn H ds).vars=[])
  (witness:∃(w:World) (tape:Tape) (i:Input),w.os=os/\(w.forCall tape i).Shaped C.prog/\i.vars=[]/\Input.okWide C.prog (w.forCall tape i) .any w.heap.size f i /\
   s.pre6 enc C.prog fn [] apart (w.forCall tape i).memory i.args/\({}:Assume).holds C.prog (lone (Frame.enter C.prog f i.args .normal) [] (w.forCall tape i)))
  (xk:∀(W:World) (base:Nat) (args:Array Value) (ds:List (DataW H)) (ps:List MemPlace),
   (∀(j:Nat) t v,fn.params[j]?=some t->args[j]?=some v->Value.okWide C.prog W .any base t v) ->
   DataW.TrodAll enc C.prog W 0 (fun _=>true) true fn.params.toList args.toList ds ps->(DataW.weightsEach C.prog fn.params.toList ds).all (·<=reachBytes)=true->Calls C.prog f args W (M0 W)) :
  ReturnsInHanded {} C os f .any (s.pre6 enc C.prog fn [] apart) (s.post enc C.prog fn apart fresh handsOn false):=by
 refine returnsInHanded_of_change_sized own started E2 AL witness ?_;intro W base args ds gs before sn hW _ Q8 _;have NM:=hW;obtain ⟨p,q,hA,hV,rfl,LK,mP⟩:=hW;have Zs:s.plain.varTypes C.prog=[]:=by
  unfold DataSpec.varTypes ChangeSpec.plain;simp[hv]
 rw[hv] at hV;obtain ⟨rfl,rfl⟩:=trodVars_none hV;rw[Zs,List.append_nil,List.append_nil] at Q8;exact (xk W base args ds p sn hA Q8).mono fun e W' ⟨he,pz⟩=>⟨_,he,Di hl hb hr mR hv AU NM pz⟩
end
end Go.Proofs.YtmbdghclhpboaaaGreat
namespace Go.Proofs.YtmbdghclhpboaaaGreat
open Go.RowKit Go.ChangeShapes Go.WideShapes Go.Deep Ev
theorem xd{H:Type}{P:Program}{e:TypeId}:∀{ds:List (DataW H)} {d:DataW H},d∈ds->∀n∈d.weights P e,n∈DataW.weightsAll P e ds
 | d0::ds,d,hd,n,hn=>by
   simp only[DataW.weightsAll,List.mem_append];rcases List.mem_cons.1 hd with rfl|h
   ·exact .inl hn
   ·exact .inr (xd h n hn)
 | [],_,hd,_,_=>by simp at hd
section
variable{H:Type}{enc:TypeId×Value->H}{P:Program}{w:World}{base:Nat}{spare:Nat->Bool}{held:Bool}
theorem nD{α:Type}[Inhabited α]{enc':α->List Value}{k:Nat}(Xb:0<k)(hk:∀a,(enc' a).length=k)(Pa:α->DataW H->Prop){t e:TypeId}(ht:P.underlying t=some (.slice e))(hC:P.cellsOf e=k)
  (EG:∀n y6 x,DataW.trod enc P w base spare held n e y6=some x->y6.length=k->∃a,y6=enc' a/\Pa a x.1)
  {fuel:Nat} {c:Value} {X:DataW H×List MemPlace} (hf:DataW.trod enc P w base spare held fuel t [c]=some X):∃(l:List α) (A:Option Addr) (cap:Nat),c=.slice A l.length cap/\Sl enc' w w.heap.size (.slice A l.length cap) l/\∀a∈l,∃x:DataW H,Pa a x/\∀n∈x.weights P e,n∈X.1.weights P t:=by
 rcases open_slice ht hf with ⟨oE,_⟩|⟨a,len,cap,m,n,D,Pl,oE,hb,hl,hm,QS,hd,hi⟩
 ·simp only[List.cons.injEq,and_true] at oE;subst oE;exact ⟨[],none,0,rfl,Sl.nil,by simp⟩
 ·simp only[List.cons.injEq,and_true] at oE;subst oE;have gi:len<=m:=by rw[QS];split<;>omega
  obtain ⟨f,hf⟩:=choose_lt (n:=len) (p:=fun i x=>w.cells? base (a.add (i * k)) k=some (enc' x)/\Pa x (D i)) (fun i r9=>by
   obtain ⟨y6,hc,Zo⟩:=hi i (by omega);rw[hC] at hc;obtain ⟨_,uT,_⟩:=World.cells?_some hc;obtain ⟨x,rfl,hx⟩:=EG _ _ _ Zo uT;exact ⟨x,hc,hx⟩)
  refine ⟨(List.range len).map f,some a,cap,by simp,⟨some a,cap,by simp,by simpa using hl,hm,fun hp=>?_⟩,fun x hx=>?_⟩
  ·have hlen:0<len:=by simpa using hp
   have h0:=(World.cells?_some (hf 0 hlen).1).2.2 0 Xb;have UY:∃u,w.cell? a=some u:=by
    have e:(a.add (0 * k)).add 0=a:=by simp[Addr.add]
    rw[e] at h0;exact ⟨_,h0.trans (List.getElem?_eq_getElem (by rw[hk];exact Xb))⟩
   obtain ⟨u,hu⟩:=UY;have UA:=fun j=>(CN (j:=j) hu).1;have lM:=(CN (j:=0) hu).2;obtain ⟨b,off,sp⟩:=a;simp only at lM;subst lM;refine ⟨b,off,rfl,World.block_lt_of_cell? w ⟨b,off,none⟩ hu,Dj hk _ _ fun i hi=>?_⟩;simp only[List.length_map,List.length_range] at hi;simp only[List.getElem_map,List.getElem_range];intro j u' zd;have Jk:j<k:=by
    have:=(List.getElem?_eq_some_iff.1 zd).1;rwa [hk] at this
   have hc:=(World.cells?_some (hf i hi).1).2.2 j Jk;rw[zd,Go.Deep.add_add,UA] at hc;simpa [Nat.add_assoc] using hc
  ·simp only[List.mem_map,List.mem_range] at hx;obtain ⟨i,hi,rfl⟩:=hx;refine ⟨D i,(hf i hi).2,fun n hn=>?_⟩;have o6:X.1=.slice ((List.range len).map D) ((List.range (m - len)).map fun j=>D (len+j)):=congrArg Prod.fst hd;rw[o6];simp only[DataW.weights,ht,List.mem_cons,List.mem_append];exact .inr (.inl (xd (List.mem_map.2 ⟨i,List.mem_range.2 hi,rfl⟩) n hn))
end
theorem Fy{n:Int}(h:(Lit.int .u64 n).wf=true):∃b:Nat,n=(b:Int)/\b<18446744073709551616:=by
 have h2:(0:Int)<=n/\n<=18446744073709551615:=by
  simp only[Lit.wf,Bool.and_eq_true,decide_eq_true_eq] at h;have e1:IntKind.u64.min=0:=rfl;have e2:IntKind.u64.max=18446744073709551615:=rfl;omega
 exact ⟨n.toNat,by omega,by omega⟩
theorem Q9{n:Int}(h:(Lit.int .i64 n).wf=true):-9223372036854775808<=n/\n<=9223372036854775807:=by
 simp only[Lit.wf,Bool.and_eq_true,decide_eq_true_eq] at h;have e1:IntKind.i64.min=-9223372036854775808:=rfl;have e2:IntKind.i64.max=9223372036854775807:=rfl;omega
instance:Inhabited Mem:=⟨⟨0,0,0,0,0,0⟩⟩
instance:Inhabited cw:=⟨⟨0,0,0,0⟩⟩
instance:Inhabited eA:=⟨⟨0,0,0,0,0,0⟩⟩
instance:Inhabited jU:=⟨⟨0,0,0,0⟩⟩
instance:Inhabited dN:=⟨⟨0,0,yZ.zero⟩⟩
instance:Inhabited iL:=⟨⟨none,0,[]⟩⟩
section
variable{H:Type}{enc:TypeId×Value->H}{w:World}{base:Nat}{spare:Nat->Bool}{held:Bool}
theorem L9{fuel:Nat}{cl:List Value}{x:DataW H×List MemPlace}(hlen:cl.length=6)(hf:DataW.trod enc Tryz.prog w base spare held fuel 51 cl=some x):∃a:Mem,cl=mL a/\0<=a.cf/\a.cf<18446744073709551616:=by
 have wy:Tryz.prog.cellsOf 49=2:=by kernel_rfl
 have zg:Tryz.prog.cellsOf 3=1:=by kernel_rfl
 have L1:Tryz.prog.cellsOf 47=1:=by kernel_rfl
 match cl,hlen with
 | [c0,c1,c2,c3,c4,c5],_=>
   obtain ⟨mf,n0,_,_,_,j6,kX⟩:=DataW.trod_struct Tryz.underlying51 hf;have j6:mf.length=5:=j6;have oQ:DataW.trod enc Tryz.prog w base spare held n0 3 (([c0,c1,c2,c3,c4,c5].drop 0).take (Tryz.prog.cellsOf 3))=some (mf[0]'(by omega)):=(kX 0 _ rfl).trans (List.getElem?_eq_getElem (by omega));have oR:DataW.trod enc Tryz.prog w base spare held n0 3 (([c0,c1,c2,c3,c4,c5].drop 1).take (Tryz.prog.cellsOf 3))=some (mf[1]'(by omega)):=(kX 1 _ rfl).trans (List.getElem?_eq_getElem (by omega));have oS:DataW.trod enc Tryz.prog w base spare held n0 3 (([c0,c1,c2,c3,c4,c5].drop 2).take (Tryz.prog.cellsOf 3))=some (mf[2]'(by omega)):=(kX 2 _ rfl).trans (List.getElem?_eq_getElem (by omega));have Gw:DataW.trod enc Tryz.prog w base spare held n0 3 (([c0,c1,c2,c3,c4,c5].drop 3).take (Tryz.prog.cellsOf 3))=some (mf[3]'(by omega)):=(kX 3 _ rfl).trans (List.getElem?_eq_getElem (by omega));have Sz:DataW.trod enc Tryz.prog w base spare held n0 49 (([c0,c1,c2,c3,c4,c5].drop 4).take (Tryz.prog.cellsOf 49))=some (mf[4]'(by omega)):=(kX 4 _ rfl).trans (List.getElem?_eq_getElem (by omega));simp only[wy,zg,L1,List.drop_zero,List.drop_succ_cons,List.take_succ_cons,List.take_zero] at oQ oR oS Gw Sz;obtain ⟨a0,e0,-,w0⟩:=DataW.trod_int Tryz.underlying3 oQ;obtain ⟨a1,e1,-,w1⟩:=DataW.trod_int Tryz.underlying3 oR;obtain ⟨a2,e2,-,w2⟩:=DataW.trod_int Tryz.underlying3 oS;obtain ⟨a3,e3,-,w3⟩:=DataW.trod_int Tryz.underlying3 Gw;obtain ⟨pW,n1,_,_,_,kW,kY⟩:=DataW.trod_struct Tryz.underlying49 Sz;have kW:pW.length=2:=kW;have rW:DataW.trod enc Tryz.prog w base spare held n1 3 (([c4,c5].drop 0).take (Tryz.prog.cellsOf 3))=some (pW[0]'(by omega)):=(kY 0 _ rfl).trans (List.getElem?_eq_getElem (by omega));have rX:DataW.trod enc Tryz.prog w base spare held n1 47 (([c4,c5].drop 1).take (Tryz.prog.cellsOf 47))=some (pW[1]'(by omega)):=(kY 1 _ rfl).trans (List.getElem?_eq_getElem (by omega));simp only[wy,zg,L1,List.drop_zero,List.drop_succ_cons,List.take_succ_cons,List.take_zero] at rW rX;obtain ⟨a4,e4,-,w4⟩:=DataW.trod_int Tryz.underlying3 rW;obtain ⟨z5,e5,-,v5⟩:=DataW.trod_int Tryz.underlying47 rX;obtain ⟨a5,rfl,w5⟩:=Fy v5;simp only[List.cons.injEq,and_true] at e0 e1 e2 e3 e4 e5;subst e0 e1 e2 e3 e4 e5;exact ⟨⟨a0,a1,a2,a3,a4,(a5:Nat)⟩,rfl,by dsimp only;omega,by dsimp only;omega⟩
theorem Ma{fuel:Nat}{cl:List Value}{x:DataW H×List MemPlace}(hlen:cl.length=4)(hf:DataW.trod enc Tryz.prog w base spare held fuel 72 cl=some x):∃a:cw,cl=pN a/\True:=by
 have wy:Tryz.prog.cellsOf 70=2:=by kernel_rfl
 have zg:Tryz.prog.cellsOf 3=1:=by kernel_rfl
 match cl,hlen with
 | [c0,c1,c2,c3],_=>
   obtain ⟨mf,n0,_,_,_,j6,kX⟩:=DataW.trod_struct Tryz.underlying72 hf;have j6:mf.length=3:=j6;have oQ:DataW.trod enc Tryz.prog w base spare held n0 3 (([c0,c1,c2,c3].drop 0).take (Tryz.prog.cellsOf 3))=some (mf[0]'(by omega)):=(kX 0 _ rfl).trans (List.getElem?_eq_getElem (by omega));have oR:DataW.trod enc Tryz.prog w base spare held n0 70 (([c0,c1,c2,c3].drop 1).take (Tryz.prog.cellsOf 70))=some (mf[1]'(by omega)):=(kX 1 _ rfl).trans (List.getElem?_eq_getElem (by omega));have oS:DataW.trod enc Tryz.prog w base spare held n0 3 (([c0,c1,c2,c3].drop 3).take (Tryz.prog.cellsOf 3))=some (mf[2]'(by omega)):=(kX 2 _ rfl).trans (List.getElem?_eq_getElem (by omega));simp only[wy,zg,List.drop_zero,List.drop_succ_cons,List.take_succ_cons,List.take_zero] at oQ oR oS;obtain ⟨a0,e0,-,w0⟩:=DataW.trod_int Tryz.underlying3 oQ;obtain ⟨pW,n1,_,_,_,kW,kY⟩:=DataW.trod_struct Tryz.underlying70 oR;have kW:pW.length=2:=kW;have rW:DataW.trod enc Tryz.prog w base spare held n1 3 (([c1,c2].drop 0).take (Tryz.prog.cellsOf 3))=some (pW[0]'(by omega)):=(kY 0 _ rfl).trans (List.getElem?_eq_getElem (by omega));have rX:DataW.trod enc Tryz.prog w base spare held n1 3 (([c1,c2].drop 1).take (Tryz.prog.cellsOf 3))=some (pW[1]'(by omega)):=(kY 1 _ rfl).trans (List.getElem?_eq_getElem (by omega));simp only[wy,zg,List.drop_zero,List.drop_succ_cons,List.take_succ_cons,List.take_zero] at rW rX;obtain ⟨a1,e1,-,w1⟩:=DataW.trod_int Tryz.underlying3 rW;obtain ⟨a2,e2,-,w2⟩:=DataW.trod_int Tryz.underlying3 rX;obtain ⟨a3,e3,-,w3⟩:=DataW.trod_int Tryz.underlying3 oS;simp only[List.cons.injEq,and_true] at e0 e1 e2 e3;subst e0 e1 e2 e3;exact ⟨⟨a0,a1,a2,a3⟩,rfl,tU⟩
theorem Mb{fuel:Nat}{cl:List Value}{x:DataW H×List MemPlace}(hlen:cl.length=6)(hf:DataW.trod enc Tryz.prog w base spare held fuel 78 cl=some x):∃a:eA,cl=VF a/\True:=by
 have wy:Tryz.prog.cellsOf 76=4:=by kernel_rfl
 have zg:Tryz.prog.cellsOf 3=1:=by kernel_rfl
 match cl,hlen with
 | [c0,c1,c2,c3,c4,c5],_=>
   obtain ⟨mf,n0,_,_,_,j6,kX⟩:=DataW.trod_struct Tryz.underlying78 hf;have j6:mf.length=3:=j6;have oQ:DataW.trod enc Tryz.prog w base spare held n0 3 (([c0,c1,c2,c3,c4,c5].drop 0).take (Tryz.prog.cellsOf 3))=some (mf[0]'(by omega)):=(kX 0 _ rfl).trans (List.getElem?_eq_getElem (by omega));have oR:DataW.trod enc Tryz.prog w base spare held n0 76 (([c0,c1,c2,c3,c4,c5].drop 1).take (Tryz.prog.cellsOf 76))=some (mf[1]'(by omega)):=(kX 1 _ rfl).trans (List.getElem?_eq_getElem (by omega));have oS:DataW.trod enc Tryz.prog w base spare held n0 3 (([c0,c1,c2,c3,c4,c5].drop 5).take (Tryz.prog.cellsOf 3))=some (mf[2]'(by omega)):=(kX 2 _ rfl).trans (List.getElem?_eq_getElem (by omega));simp only[wy,zg,List.drop_zero,List.drop_succ_cons,List.take_succ_cons,List.take_zero] at oQ oR oS;obtain ⟨a0,e0,-,w0⟩:=DataW.trod_int Tryz.underlying3 oQ;obtain ⟨pW,n1,_,_,_,kW,kY⟩:=DataW.trod_struct Tryz.underlying76 oR;have kW:pW.length=4:=kW;have rW:DataW.trod enc Tryz.prog w base spare held n1 3 (([c1,c2,c3,c4].drop 0).take (Tryz.prog.cellsOf 3))=some (pW[0]'(by omega)):=(kY 0 _ rfl).trans (List.getElem?_eq_getElem (by omega));have rX:DataW.trod enc Tryz.prog w base spare held n1 3 (([c1,c2,c3,c4].drop 1).take (Tryz.prog.cellsOf 3))=some (pW[1]'(by omega)):=(kY 1 _ rfl).trans (List.getElem?_eq_getElem (by omega));have Gx:DataW.trod enc Tryz.prog w base spare held n1 3 (([c1,c2,c3,c4].drop 2).take (Tryz.prog.cellsOf 3))=some (pW[2]'(by omega)):=(kY 2 _ rfl).trans (List.getElem?_eq_getElem (by omega));have Gy:DataW.trod enc Tryz.prog w base spare held n1 3 (([c1,c2,c3,c4].drop 3).take (Tryz.prog.cellsOf 3))=some (pW[3]'(by omega)):=(kY 3 _ rfl).trans (List.getElem?_eq_getElem (by omega));simp only[wy,zg,List.drop_zero,List.drop_succ_cons,List.take_succ_cons,List.take_zero] at rW rX Gx Gy;obtain ⟨a1,e1,-,w1⟩:=DataW.trod_int Tryz.underlying3 rW;obtain ⟨a2,e2,-,w2⟩:=DataW.trod_int Tryz.underlying3 rX;obtain ⟨a3,e3,-,w3⟩:=DataW.trod_int Tryz.underlying3 Gx;obtain ⟨a4,e4,-,w4⟩:=DataW.trod_int Tryz.underlying3 Gy;obtain ⟨a5,e5,-,w5⟩:=DataW.trod_int Tryz.underlying3 oS;simp only[List.cons.injEq,and_true] at e0 e1 e2 e3 e4 e5;subst e0 e1 e2 e3 e4 e5;exact ⟨⟨a0,a1,a2,a3,a4,a5⟩,rfl,tU⟩
theorem L8{fuel:Nat}{cl:List Value}{x:DataW H×List MemPlace}(hlen:cl.length=4)(hf:DataW.trod enc Tryz.prog w base spare held fuel 81 cl=some x):∃a:jU,cl=Et a/\True:=by
 have wy:Tryz.prog.cellsOf 3=1:=by kernel_rfl
 match cl,hlen with
 | [c0,c1,c2,c3],_=>
   obtain ⟨mf,n0,_,_,_,j6,kX⟩:=DataW.trod_struct Tryz.underlying81 hf;have j6:mf.length=4:=j6;have oQ:DataW.trod enc Tryz.prog w base spare held n0 3 (([c0,c1,c2,c3].drop 0).take (Tryz.prog.cellsOf 3))=some (mf[0]'(by omega)):=(kX 0 _ rfl).trans (List.getElem?_eq_getElem (by omega));have oR:DataW.trod enc Tryz.prog w base spare held n0 3 (([c0,c1,c2,c3].drop 1).take (Tryz.prog.cellsOf 3))=some (mf[1]'(by omega)):=(kX 1 _ rfl).trans (List.getElem?_eq_getElem (by omega));have oS:DataW.trod enc Tryz.prog w base spare held n0 3 (([c0,c1,c2,c3].drop 2).take (Tryz.prog.cellsOf 3))=some (mf[2]'(by omega)):=(kX 2 _ rfl).trans (List.getElem?_eq_getElem (by omega));have Gw:DataW.trod enc Tryz.prog w base spare held n0 3 (([c0,c1,c2,c3].drop 3).take (Tryz.prog.cellsOf 3))=some (mf[3]'(by omega)):=(kX 3 _ rfl).trans (List.getElem?_eq_getElem (by omega));simp only[wy,List.drop_zero,List.drop_succ_cons,List.take_succ_cons,List.take_zero] at oQ oR oS Gw;obtain ⟨a0,e0,-,w0⟩:=DataW.trod_int Tryz.underlying3 oQ;obtain ⟨a1,e1,-,w1⟩:=DataW.trod_int Tryz.underlying3 oR;obtain ⟨a2,e2,-,w2⟩:=DataW.trod_int Tryz.underlying3 oS;obtain ⟨a3,e3,-,w3⟩:=DataW.trod_int Tryz.underlying3 Gw;simp only[List.cons.injEq,and_true] at e0 e1 e2 e3;subst e0 e1 e2 e3;exact ⟨⟨a0,a1,a2,a3⟩,rfl,tU⟩
theorem Mc{fuel:Nat}{cl:List Value}{x:DataW H×List MemPlace}(hlen:cl.length=10)(hf:DataW.trod enc Tryz.prog w base spare held fuel 96 cl=some x):∃a:dN,cl=tC a/\Nb a:=by
 have wy:Tryz.prog.cellsOf 94=8:=by kernel_rfl
 have zg:Tryz.prog.cellsOf 76=4:=by kernel_rfl
 have L1:Tryz.prog.cellsOf 4=1:=by kernel_rfl
 have Vg:Tryz.prog.cellsOf 3=1:=by kernel_rfl
 have Vh:Tryz.prog.cellsOf 47=1:=by kernel_rfl
 match cl,hlen with
 | [c0,c1,c2,c3,c4,c5,c6,c7,c8,c9],_=>
   obtain ⟨mf,n0,_,_,_,j6,kX⟩:=DataW.trod_struct Tryz.underlying96 hf;have j6:mf.length=3:=j6;have oQ:DataW.trod enc Tryz.prog w base spare held n0 47 (([c0,c1,c2,c3,c4,c5,c6,c7,c8,c9].drop 0).take (Tryz.prog.cellsOf 47))=some (mf[0]'(by omega)):=(kX 0 _ rfl).trans (List.getElem?_eq_getElem (by omega));have oR:DataW.trod enc Tryz.prog w base spare held n0 47 (([c0,c1,c2,c3,c4,c5,c6,c7,c8,c9].drop 1).take (Tryz.prog.cellsOf 47))=some (mf[1]'(by omega)):=(kX 1 _ rfl).trans (List.getElem?_eq_getElem (by omega));have oS:DataW.trod enc Tryz.prog w base spare held n0 94 (([c0,c1,c2,c3,c4,c5,c6,c7,c8,c9].drop 2).take (Tryz.prog.cellsOf 94))=some (mf[2]'(by omega)):=(kX 2 _ rfl).trans (List.getElem?_eq_getElem (by omega));simp only[wy,zg,L1,Vg,Vh,List.drop_zero,List.drop_succ_cons,List.take_succ_cons,List.take_zero] at oQ oR oS;obtain ⟨z0,e0,-,v0⟩:=DataW.trod_int Tryz.underlying47 oQ;obtain ⟨a0,rfl,w0⟩:=Fy v0;obtain ⟨z1,e1,-,v1⟩:=DataW.trod_int Tryz.underlying47 oR;obtain ⟨a1,rfl,w1⟩:=Fy v1;obtain ⟨pW,n1,_,_,_,kW,kY⟩:=DataW.trod_struct Tryz.underlying94 oS;have kW:pW.length=5:=kW;have rW:DataW.trod enc Tryz.prog w base spare held n1 3 (([c2,c3,c4,c5,c6,c7,c8,c9].drop 0).take (Tryz.prog.cellsOf 3))=some (pW[0]'(by omega)):=(kY 0 _ rfl).trans (List.getElem?_eq_getElem (by omega));have rX:DataW.trod enc Tryz.prog w base spare held n1 3 (([c2,c3,c4,c5,c6,c7,c8,c9].drop 1).take (Tryz.prog.cellsOf 3))=some (pW[1]'(by omega)):=(kY 1 _ rfl).trans (List.getElem?_eq_getElem (by omega));have Gx:DataW.trod enc Tryz.prog w base spare held n1 76 (([c2,c3,c4,c5,c6,c7,c8,c9].drop 2).take (Tryz.prog.cellsOf 76))=some (pW[2]'(by omega)):=(kY 2 _ rfl).trans (List.getElem?_eq_getElem (by omega));have Gy:DataW.trod enc Tryz.prog w base spare held n1 4 (([c2,c3,c4,c5,c6,c7,c8,c9].drop 6).take (Tryz.prog.cellsOf 4))=some (pW[3]'(by omega)):=(kY 3 _ rfl).trans (List.getElem?_eq_getElem (by omega));have SA:DataW.trod enc Tryz.prog w base spare held n1 3 (([c2,c3,c4,c5,c6,c7,c8,c9].drop 7).take (Tryz.prog.cellsOf 3))=some (pW[4]'(by omega)):=(kY 4 _ rfl).trans (List.getElem?_eq_getElem (by omega));simp only[wy,zg,L1,Vg,Vh,List.drop_zero,List.drop_succ_cons,List.take_succ_cons,List.take_zero] at rW rX Gx Gy SA;obtain ⟨a2,e2,-,w2⟩:=DataW.trod_int Tryz.underlying3 rW;obtain ⟨a3,e3,-,w3⟩:=DataW.trod_int Tryz.underlying3 rX;obtain ⟨Qd,n2,_,_,_,gd,nW⟩:=DataW.trod_struct Tryz.underlying76 Gx;have gd:Qd.length=4:=gd;have SB:DataW.trod enc Tryz.prog w base spare held n2 3 (([c4,c5,c6,c7].drop 0).take (Tryz.prog.cellsOf 3))=some (Qd[0]'(by omega)):=(nW 0 _ rfl).trans (List.getElem?_eq_getElem (by omega));have SC:DataW.trod enc Tryz.prog w base spare held n2 3 (([c4,c5,c6,c7].drop 1).take (Tryz.prog.cellsOf 3))=some (Qd[1]'(by omega)):=(nW 1 _ rfl).trans (List.getElem?_eq_getElem (by omega));have SD:DataW.trod enc Tryz.prog w base spare held n2 3 (([c4,c5,c6,c7].drop 2).take (Tryz.prog.cellsOf 3))=some (Qd[2]'(by omega)):=(nW 2 _ rfl).trans (List.getElem?_eq_getElem (by omega));have SE:DataW.trod enc Tryz.prog w base spare held n2 3 (([c4,c5,c6,c7].drop 3).take (Tryz.prog.cellsOf 3))=some (Qd[3]'(by omega)):=(nW 3 _ rfl).trans (List.getElem?_eq_getElem (by omega));simp only[wy,zg,L1,Vg,Vh,List.drop_zero,List.drop_succ_cons,List.take_succ_cons,List.take_zero] at SB SC SD SE;obtain ⟨a4,e4,-,w4⟩:=DataW.trod_int Tryz.underlying3 SB;obtain ⟨a5,e5,-,w5⟩:=DataW.trod_int Tryz.underlying3 SC;obtain ⟨a6,e6,-,w6⟩:=DataW.trod_int Tryz.underlying3 SD;obtain ⟨a7,e7,-,w7⟩:=DataW.trod_int Tryz.underlying3 SE;obtain ⟨a8,e8,-⟩:=DataW.trod_bool Tryz.underlying4 Gy;obtain ⟨a9,e9,-,w9⟩:=DataW.trod_int Tryz.underlying3 SA;simp only[List.cons.injEq,and_true] at e0 e1 e2 e3 e4 e5 e6 e7 e8 e9;subst e0 e1 e2 e3 e4 e5 e6 e7 e8 e9;exact ⟨⟨a0,a1,⟨a2,a3,a4,a5,a6,a7,a8,a9⟩⟩,rfl,⟨w0,w1⟩⟩
def Km(w:World)(x:iL):Prop:=Sl tC w w.heap.size (BZ x) x.l/\∀k∈x.l,Nb k
theorem Md{fuel:Nat}{cl:List Value}{x:DataW H×List MemPlace}(hlen:cl.length=1)(hf:DataW.trod enc Tryz.prog w base spare held fuel 52 cl=some x):∃a:iL,cl=[BZ a]/\Km w a:=by
 match cl,hlen with
 | [c],_=>
   obtain ⟨l,A,cap,rfl,hs,hu⟩:=nD (enc':=tC) (k:=10) (by omega) zJ (fun k _=>Nb k) Tryz.underlying52 (by kernel_rfl) (fun n y6 x hx hl=>Mc hl hx) hf;exact ⟨⟨A,cap,l⟩,rfl,hs,fun k hk=>(hu k hk).elim fun _ h=>h.1⟩
theorem wW{α:Type}{e:TypeId}{k:Nat}{enc':α->List Value}{A:Option Addr}{cap:Nat}{l:List α}(h:Sl enc' w w.heap.size (.slice A l.length cap) l)(hk:∀a,(enc' a).length=k)(j7:∃r,ev.ty e=some r/\r.info.size=k/\bG r.bg=true):eG Tryz.prog (kq 0 w) e k A (fun a=>.agg (enc' a).toArray) l:=by
 obtain ⟨A',m,e1,_,_,h3⟩:=h;injection e1 with e1;subst e1;exact eG.snap U hk j7 fun aN=>by
  obtain ⟨b,off,rfl,_,hl⟩:=h3 (List.length_pos_iff.2 aN);exact ⟨b,off,rfl,Nat.zero_le _,hl⟩
theorem L6{α:Type}(f:α->Value)(l:List α):l.flatMap (fun x=>[f x])=l.map f:=by
 induction l with
 | nil=>rfl
 | cons a l ih=>rw[List.flatMap_cons,ih];rfl
theorem R8{α:Type}{e:TypeId}{f:α->Value}{A:Option Addr}{cap:Nat}{l:List α}(h:Sl (fun x=>[f x]) w w.heap.size (.slice A l.length cap) l)(j7:∃r,ev.ty e=some r/\bG r.bg=false):eG Tryz.prog (kq 0 w) e 1 A f l:=by
 obtain ⟨A',m,e1,_,_,h3⟩:=h;injection e1 with e1;subst e1;exact eG.cells U j7 fun aN=>by
  obtain ⟨b,off,rfl,_,hl⟩:=h3 (List.length_pos_iff.2 aN);rw[L6] at hl;exact ⟨b,off,rfl,fun w' S hw j u hj=>kq.cell hw (Nat.zero_le _) (hl j u hj)⟩
structure Qi(w:World)(q:bM)(tk:List iL):Prop where
 rd:q.Rd (kq 0 w)
 cap:∀x∈tk,x.l.length<=x.c/\x.l.length<=9223372036854775807
 tk:q.Tk (kq 0 w) tk
 ar:∀m∈q.ms,0<=m.cf/\m.cf<18446744073709551616
 past:-9223372036854775808<=q.past/\q.past<=9223372036854775807
 sz:q.tx.size<=maxLen
 sm:Sl mL w w.heap.size (.slice q.om q.ms.length q.cm) q.ms
 se:Sl Et w w.heap.size (.slice q.oe q.es.length q.ce) q.es
theorem Ht{r:Reach}{b0:Nat}{v:Value}{d:DataW H}{ps:List MemPlace}(hv:Value.okWide Tryz.prog w r b0 28 v)(h:DataW.Trod enc Tryz.prog w base spare held 28 v d ps) :
  ∃q tk,AV.jP [.agg q.a]=some [v]/\Qi w q tk/\q.tx.size∈d.weights Tryz.prog 28:=by
 obtain ⟨cs,rfl,iW⟩:=okWide_struct Tryz.underlying28 hv;have hC:Tryz.prog.cellsOf 28=7:=by kernel_rfl
 have k0:Tryz.prog.cellsOf 22=1:=by kernel_rfl
 have k1:Tryz.prog.cellsOf 23=1:=by kernel_rfl
 have k2:Tryz.prog.cellsOf 24=1:=by kernel_rfl
 have k3:Tryz.prog.cellsOf 25=1:=by kernel_rfl
 have k4:Tryz.prog.cellsOf 9=1:=by kernel_rfl
 have k5:Tryz.prog.cellsOf 26=1:=by kernel_rfl
 have k6:Tryz.prog.cellsOf 3=1:=by kernel_rfl
 obtain ⟨fuel,hf⟩:=h;obtain ⟨ys,n,_,hx,_,Hb,hf⟩:=DataW.trod_struct Tryz.underlying28 hf;have Hb:ys.length=7:=Hb;simp only[Prod.mk.injEq] at hx;have uT:cs.toList.length=7:=by rw[Array.length_toList];exact iW.trans hC
 obtain ⟨c0,c1,c2,c3,c4,c5,c6,e⟩:∃c0 c1 c2 c3 c4 c5 c6,cs.toList=[c0,c1,c2,c3,c4,c5,c6]:=by
  match oE:cs.toList,uT with
  | [c0,c1,c2,c3,c4,c5,c6],_=>exact ⟨c0,c1,c2,c3,c4,c5,c6,rfl⟩
 have YY:(Value.agg cs).cells.toList=[c0,c1,c2,c3,c4,c5,c6]:=e;rw[YY] at hf;have g0:DataW.trod enc Tryz.prog w base spare held n 22 (([c0,c1,c2,c3,c4,c5,c6].drop 0).take (Tryz.prog.cellsOf 22))=some (ys[0]'(by omega)):=(hf 0 _ rfl).trans (List.getElem?_eq_getElem (by omega));have g1:DataW.trod enc Tryz.prog w base spare held n 23 (([c0,c1,c2,c3,c4,c5,c6].drop 1).take (Tryz.prog.cellsOf 23))=some (ys[1]'(by omega)):=(hf 1 _ rfl).trans (List.getElem?_eq_getElem (by omega));have g2:DataW.trod enc Tryz.prog w base spare held n 24 (([c0,c1,c2,c3,c4,c5,c6].drop 2).take (Tryz.prog.cellsOf 24))=some (ys[2]'(by omega)):=(hf 2 _ rfl).trans (List.getElem?_eq_getElem (by omega));have g3:DataW.trod enc Tryz.prog w base spare held n 25 (([c0,c1,c2,c3,c4,c5,c6].drop 3).take (Tryz.prog.cellsOf 25))=some (ys[3]'(by omega)):=(hf 3 _ rfl).trans (List.getElem?_eq_getElem (by omega));have g4:DataW.trod enc Tryz.prog w base spare held n 9 (([c0,c1,c2,c3,c4,c5,c6].drop 4).take (Tryz.prog.cellsOf 9))=some (ys[4]'(by omega)):=(hf 4 _ rfl).trans (List.getElem?_eq_getElem (by omega));have g5:DataW.trod enc Tryz.prog w base spare held n 26 (([c0,c1,c2,c3,c4,c5,c6].drop 5).take (Tryz.prog.cellsOf 26))=some (ys[5]'(by omega)):=(hf 5 _ rfl).trans (List.getElem?_eq_getElem (by omega));have g6:DataW.trod enc Tryz.prog w base spare held n 3 (([c0,c1,c2,c3,c4,c5,c6].drop 6).take (Tryz.prog.cellsOf 3))=some (ys[6]'(by omega)):=(hf 6 _ rfl).trans (List.getElem?_eq_getElem (by omega));simp only[k0,k1,k2,k3,k4,k5,k6,List.drop_zero,List.drop_succ_cons,List.take_succ_cons,List.take_zero] at g0 g1 g2 g3 g4 g5 g6;obtain ⟨ms,A0,p0,rfl,s0,u0⟩:=nD (enc':=mL) (k:=6) (by omega) KK (fun m _=>0<=m.cf/\m.cf<18446744073709551616) Tryz.underlying22 (by kernel_rfl) (fun n y6 x hx hl=>L9 hl hx) g0;obtain ⟨tk,A1,p1,rfl,s1,u1⟩:=nD (enc':=fun x=>[BZ x]) (k:=1) (by omega) (fun _=>rfl) (fun x _=>Km w x) Tryz.underlying23 (by kernel_rfl) (fun n y6 x hx hl=>Md hl hx) g1;obtain ⟨rs,A2,p2,rfl,s2,u2⟩:=nD (enc':=pN) (k:=4) (by omega) sC (fun _ _=>True) Tryz.underlying24 (by kernel_rfl) (fun n y6 x hx hl=>Ma hl hx) g2;obtain ⟨ss,A3,p3,rfl,s3,u3⟩:=nD (enc':=VF) (k:=6) (by omega) Is (fun _ _=>True) Tryz.underlying25 (by kernel_rfl) (fun n y6 x hx hl=>Mb hl hx) g3;obtain ⟨tx,e4,Zv,u4⟩:=DataW.trod_string Tryz.underlying9 g4;obtain ⟨es,A5,p5,rfl,s5,u5⟩:=nD (enc':=Et) (k:=4) (by omega) Al (fun _ _=>True) Tryz.underlying26 (by kernel_rfl) (fun n y6 x hx hl=>L8 hl hx) g5;obtain ⟨z,e6,-,u6⟩:=DataW.trod_int Tryz.underlying3 g6;simp only[List.cons.injEq,and_true] at e4 e6;subst e4 e6;refine ⟨⟨ms,tk.length,rs,ss,tx,es,z,A0,A1,A2,A3,A5,p0,p1,p2,p3,p5⟩,tk,?_,⟨⟨wW s0 KK L4,wW s2 sC Mu,wW s3 Is MD,wW s5 Al Lx⟩,fun x hx=>?_,⟨rfl,R8 s1 MS,fun x hx=>?_,fun x hx=>?_⟩,fun m hm=>?_,Q9 u6,u4,s0,s5⟩,?_⟩
 ·have ea:cs=#[.slice A0 ms.length p0,.slice A1 tk.length p1,.slice A2 rs.length p2,.slice A3 ss.length p3,.string tx,.slice A5 es.length p5,.int .i64 z]:=by rw[<-Array.toArray_toList (xs:=cs),e]
  rw[ea];rfl
 ·obtain ⟨_,h,_⟩:=u1 x hx;obtain ⟨A',m,e1,h1,h2,_⟩:=h.1;injection e1 with _ _ e1;rw[e1];exact ⟨h1,by unfold maxLen at h2;omega⟩
 ·obtain ⟨_,h,_⟩:=u1 x hx;exact wW (cap:=x.c) h.1 zJ MQ
 ·obtain ⟨_,h,_⟩:=u1 x hx;exact h.2
 ·obtain ⟨_,h,_⟩:=u0 m hm;exact h
 ·rw[hx.1];have hw:(DataW.agg (ys.map (·.1)):DataW H).weights Tryz.prog 28=DataW.weightsEach Tryz.prog (Tryz.prog.fieldsOf 28 |>.toList.map (·.type)) (ys.map (·.1)):=by
   simp only[DataW.weights,Tryz.underlying28,Program.fieldsOf]
  rw[hw];refine DataW.weights_mem_each (j:=4) (t:=9) (d:=.lit (.string tx.data.toList)) ?_ ?_ _ ?_
  ·simp only[Program.fieldsOf,Tryz.underlying28];rfl
  ·rw[List.getElem?_map,List.getElem?_eq_getElem (by omega),Zv];rfl
  ·simp[DataW.weights]
theorem PW{q:bM}{ts:List TypeId}{ds:List (DataW H)}{j:Nat}{d:DataW H}(hd:ds[j]?=some d)(ht:ts[j]?=some 28)(hm:q.tx.size∈d.weights Tryz.prog 28)(h:(DataW.weightsEach Tryz.prog ts ds).all (·<=reachBytes)=true):q.s.length<=140737488351232:=by
 have h1:=List.all_eq_true.1 h _ (DataW.weights_mem_each ht hd _ hm);have h2:q.tx.size<=reachBytes:=by simpa using h1
 have h3:reachBytes=140737488351232 - 4096+4096:=by decide
 have h4:q.s.length=q.tx.size:=rfl;omega
end
end Go.Proofs.YtmbdghclhpboaaaGreat
namespace Go.Proofs.YtmbdghclhpboaaaGreat
theorem dO{a b:Bool}(h:a=true)(k:b=true):(a&&b)=true:=by rw[h,k];rfl
theorem BQ:laidOutB Tryz.prog=true:=by kernel_rfl
theorem zl:mapsRowed Tryz.prog=true:=by kernel_rfl
theorem Im:(Tryz.prog.stops==[])=true:=by kernel_rfl
theorem zm:(Tryz.prog.stopKnobs==[])=true:=by kernel_rfl
theorem Il:Tryz.prog.stopsHeard=true:=by kernel_rfl
theorem Ik:Tryz.prog.mayEnter=true:=by kernel_rfl
theorem Jw:ownKnob Tryz.prog.godebug=none:=by kernel_rfl
theorem vp:(Rows.snapshotWritesRow.wf (OpenSpec.ofChange Rows.snapshotWritesSpec))=true:=by kernel_rfl
theorem vq:(Tryz.f3.params.all (Tryz.prog.readableRec ·))=true:=by kernel_rfl
theorem vr:(namedTie Tryz.prog Rows.snapshotWritesRow.named Rows.snapshotWritesSpec.vars)=true:=by kernel_rfl
theorem vt:(Rows.snapshotWritesRow.stops==[])=true:=by kernel_rfl
theorem vu:(Rows.snapshotWritesRow.knobs==[])=true:=by kernel_rfl
theorem vx:(Rows.snapshotWritesRow.inPlace==Tryz.prog.inPlace 3)=true:=by kernel_rfl
theorem tO:(Rows.snapshotWritesRow.unfollowed==Tryz.prog.unfollowed 3)=true:=by kernel_rfl
theorem tP:(Rows.snapshotWritesRow.recurses==Tryz.prog.recurses 3)=true:=by kernel_rfl
theorem tQ:(Rows.snapshotWritesRow.named==Tryz.prog.varsNamed 3)=true:=by kernel_rfl
theorem tR:(Rows.snapshotWritesRow.maps==(Tryz.f3.params.toList++Rows.snapshotWritesSpec.plain.varTypes Tryz.prog).any (Tryz.prog.mapsRec ·))=true:=by kernel_rfl
theorem tS:(Rows.snapshotWritesRow.ifaces==(Tryz.f3.params.toList++Rows.snapshotWritesSpec.plain.varTypes Tryz.prog).any (Tryz.prog.ifacesRec ·))=true:=by kernel_rfl
theorem tT:(Rows.snapshotWritesRow.mapsOut==Tryz.prog.mapsAmong Tryz.f3.resultTypes.toList)=true:=by kernel_rfl
theorem tV:(Rows.snapshotWritesRow.loops==(Tryz.f3.params.toList++Rows.snapshotWritesSpec.plain.varTypes Tryz.prog).any (Tryz.prog.loopsFrom ·))=true:=by kernel_rfl
theorem tW:(Rows.snapshotWritesRow.wideKeys==(Tryz.f3.params.toList++Rows.snapshotWritesSpec.plain.varTypes Tryz.prog++Tryz.f3.resultTypes.toList).any (Tryz.prog.wideKeysFrom ·))=true:=by kernel_rfl
theorem tX:(Rows.snapshotWritesSpec.vars.all (Tryz.prog.varReadable ·))=true:=by kernel_rfl
theorem tY:(Tryz.f3.resultTypes.all (fun t=>Tryz.prog.readableRec t&&decide (t<Tryz.prog.types.size)))=true:=by kernel_rfl
theorem tZ:(Rows.snapshotWritesRow.ifacesOut==Tryz.f3.resultTypes.toList.any (Tryz.prog.ifacesRec ·))=true:=by kernel_rfl
theorem ua:(Rows.snapshotWritesRow.loopsOut==Tryz.f3.resultTypes.toList.any (Tryz.prog.loopsFrom ·))=true:=by kernel_rfl
theorem ub:(Rows.snapshotWritesRow.plainKeys==Tryz.prog.plainKeys)=true:=by kernel_rfl
theorem uc:(Rows.snapshotWritesRow.shortTexts.isNone)=true:=by kernel_rfl
theorem ud:(Rows.snapshotWritesRow.lifted==Tryz.prog.liftsFinal)=true:=by kernel_rfl
theorem ue:(Tryz.prog.make==some Rows.snapshotWritesRow.make)=true:=by kernel_rfl
theorem uf:(Rows.snapshotWritesRow.pinned==Rows.snapshotWritesRow.pinnedBy)=true:=by kernel_rfl
theorem ug:(Rows.snapshotWritesRow.veiled==(Tryz.f3.params.toList++Rows.snapshotWritesSpec.plain.varTypes Tryz.prog++Tryz.f3.resultTypes.toList).any (Tryz.prog.veiledRec ·))=true:=by kernel_rfl
theorem uh:(Rows.snapshotWritesRow.veiledFits Tryz.prog Tryz.f3.params.toList (Tryz.f3.params.toList++Rows.snapshotWritesSpec.plain.varTypes Tryz.prog++Tryz.f3.resultTypes.toList))=true:=by kernel_rfl
theorem qK:joinedFacts Tryz.prog 3 Tryz.f3 Rows.snapshotWritesSpec Rows.snapshotWritesRow=true:=by
 rw[joinedFacts];exact (dO (dO (dO (dO (dO (dO (dO (dO (dO (dO (dO (dO (dO (dO (dO (dO (dO (dO (dO (dO (dO (dO (dO (dO (dO (dO (dO (dO (dO (dO (dO vp BQ) zl) vq) vr) vt) Im) vu) zm) vx) tO) tP) tQ) tR) tS) tT) tV) tW) tX) tY) tZ) ua) ub) uc) Il) Ik) ud) ue) (by kernel_rfl)) uf) ug) uh)
theorem rz:Tryz.prog.funcNamed Rows.snapshotWritesRow.func=some 3:=by kernel_rfl
theorem qM:Tryz.prog.inits.idxOf? 3=none:=by kernel_rfl
end Go.Proofs.YtmbdghclhpboaaaGreat

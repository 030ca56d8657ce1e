/- Part of the proof: OpSt Closed ClBack. Conditions: as each states. -/
import Derived.Test.YtmbdghclhpboaaaGreatPb42
set_option linter.all false
set_option maxRecDepth 100000
set_option maxHeartbeats 8000000
namespace Go.Proofs.YtmbdghclhpboaaaGreat
open Go.RowKit Go.ChangeShapes Go.WideShapes Go.Deep Ev
theorem weights_all{H:Type}{P:Program}{e:TypeId}:∀{ds:List (DataW H)} {d:DataW H},d∈ds→∀n∈d.weights P e,n∈DataW.weightsAll P e ds
 | d0::ds,d,hd,n,hn=>by
   simp only[DataW.weightsAll,List.mem_append]
   rcases List.mem_cons.1 hd with rfl|h
   ·exact .inl hn
   ·exact .inr (weights_all h n hn)
 | [],_,hd,_,_=>by simp at hd
section
variable{H:Type}{enc:TypeId×Value→H}{P:Program}{w:World}{base:Nat}{spare:Nat→Bool}{held:Bool}
theorem open_slc{α:Type}[Inhabited α]{enc':α→List Value}{k:Nat}(hkp:0<k)(hk:∀a,(enc' a).length=k)(Pa:α→DataW H→Prop){t e:TypeId}(ht:P.underlying t=some (.slice e))(hC:P.cellsOf e=k)
  (hel:∀n cs' x,DataW.trod enc P w base spare held n e cs'=some x→cs'.length=k→∃a,cs'=enc' a∧Pa a x.1)
  {fuel:Nat} {c:Value} {X:DataW H×List MemPlace} (hf:DataW.trod enc P w base spare held fuel t [c]=some X):∃(l:List α) (A:Option Addr) (cap:Nat),c=.slice A l.length cap∧Sl enc' w w.heap.size (.slice A l.length cap) l∧∀a∈l,∃x:DataW H,Pa a x∧∀n∈x.weights P e,n∈X.1.weights P t:=by
 rcases open_slice ht hf with ⟨hcs,_⟩|⟨a,len,cap,m,n,D,Pl,hcs,hb,hl,hm,hmm,hd,hi⟩
 ·simp only[List.cons.injEq,and_true] at hcs
  subst hcs
  exact ⟨[],none,0,rfl,Sl.nil,by simp⟩
 ·simp only[List.cons.injEq,and_true] at hcs
  subst hcs
  have hlm:len≤m:=by rw[hmm];split<;>omega
  obtain ⟨f,hf⟩:=choose_lt (n:=len) (p:=fun i x=>w.cells? base (a.add (i * k)) k=some (enc' x)∧Pa x (D i)) (fun i hil=>by
   obtain ⟨cs',hc,htr⟩:=hi i (by omega)
   rw[hC] at hc
   obtain ⟨_,hcl,_⟩:=World.cells?_some hc
   obtain ⟨x,rfl,hx⟩:=hel _ _ _ htr hcl
   exact ⟨x,hc,hx⟩)
  refine ⟨(List.range len).map f,some a,cap,by simp,⟨some a,cap,by simp,by simpa using hl,hm,fun hp=>?_⟩,fun x hx=>?_⟩
  ·have hlen:0<len:=by simpa using hp
   have h0:=(World.cells?_some (hf 0 hlen).1).2.2 0 hkp
   have hsome:∃u,w.cell? a=some u:=by
    have e:(a.add (0 * k)).add 0=a:=by simp[Addr.add]
    rw[e] at h0
    exact ⟨_,h0.trans (List.getElem?_eq_getElem (by rw[hk];exact hkp))⟩
   obtain ⟨u,hu⟩:=hsome
   have hform:=fun j=>(add_form (j:=j) hu).1
   have hsp:=(add_form (j:=0) hu).2
   obtain ⟨b,off,sp⟩:=a
   simp only at hsp
   subst hsp
   refine ⟨b,off,rfl,World.block_lt_of_cell? w ⟨b,off,none⟩ hu,lay_join hk _ _ fun i hi=>?_⟩
   simp only[List.length_map,List.length_range] at hi
   simp only[List.getElem_map,List.getElem_range]
   intro j u' hu'
   have hjk:j<k:=by
    have:=(List.getElem?_eq_some_iff.1 hu').1
    rwa [hk] at this
   have hc:=(World.cells?_some (hf i hi).1).2.2 j hjk
   rw[hu',Go.Deep.add_add,hform] at hc
   simpa [Nat.add_assoc] using hc
  ·simp only[List.mem_map,List.mem_range] at hx
   obtain ⟨i,hi,rfl⟩:=hx
   refine ⟨D i,(hf i hi).2,fun n hn=>?_⟩
   have hd1:X.1=.slice ((List.range len).map D) ((List.range (m - len)).map fun j=>D (len+j)):=congrArg Prod.fst hd
   rw[hd1]
   simp only[DataW.weights,ht,List.mem_cons,List.mem_append]
   exact .inr (.inl (weights_all (List.mem_map.2 ⟨i,List.mem_range.2 hi,rfl⟩) n hn))
end
theorem u64_wf{n:Int}(h:(Lit.int .u64 n).wf=true):∃b:Nat,n=(b:Int)∧b<18446744073709551616:=by
 have h2:(0:Int)≤n∧n≤18446744073709551615:=by
  simp only[Lit.wf,Bool.and_eq_true,decide_eq_true_eq] at h
  have e1:IntKind.u64.min=0:=rfl
  have e2:IntKind.u64.max=18446744073709551615:=rfl
  omega
 exact ⟨n.toNat,by omega,by omega⟩
theorem i64_wf{n:Int}(h:(Lit.int .i64 n).wf=true):-9223372036854775808≤n∧n≤9223372036854775807:=by
 simp only[Lit.wf,Bool.and_eq_true,decide_eq_true_eq] at h
 have e1:IntKind.i64.min=-9223372036854775808:=rfl
 have e2:IntKind.i64.max=9223372036854775807:=rfl
 omega
instance:Inhabited Mem:=⟨⟨0,0,0,0,0,0⟩⟩
instance:Inhabited Rcd:=⟨⟨0,0,0,0⟩⟩
instance:Inhabited Shp:=⟨⟨0,0,0,0,0,0⟩⟩
instance:Inhabited Evn:=⟨⟨0,0,0,0⟩⟩
instance:Inhabited Tik:=⟨⟨0,0,Gra.zero⟩⟩
instance:Inhabited TkS:=⟨⟨none,0,[]⟩⟩
section
variable{H:Type}{enc:TypeId×Value→H}{w:World}{base:Nat}{spare:Nat→Bool}{held:Bool}
theorem open_mem{fuel:Nat}{cl:List Value}{x:DataW H×List MemPlace}(hlen:cl.length=6)(hf:DataW.trod enc Tryz.prog w base spare held fuel 51 cl=some x):∃a:Mem,cl=mL a∧0≤a.area∧a.area<18446744073709551616:=by
 have kk0:Tryz.prog.cellsOf 49=2:=by kernel_rfl
 have kk1:Tryz.prog.cellsOf 3=1:=by kernel_rfl
 have kk2:Tryz.prog.cellsOf 47=1:=by kernel_rfl
 match cl,hlen with
 | [c0,c1,c2,c3,c4,c5],_=>
   obtain ⟨ys0,n0,_,_,_,hl0,hq0⟩:=DataW.trod_struct Tryz.underlying51 hf
   have hl0:ys0.length=5:=hl0
   have g0_0:DataW.trod enc Tryz.prog w base spare held n0 3 (([c0,c1,c2,c3,c4,c5].drop 0).take (Tryz.prog.cellsOf 3))=some (ys0[0]'(by omega)):=(hq0 0 _ rfl).trans (List.getElem?_eq_getElem (by omega))
   have g0_1:DataW.trod enc Tryz.prog w base spare held n0 3 (([c0,c1,c2,c3,c4,c5].drop 1).take (Tryz.prog.cellsOf 3))=some (ys0[1]'(by omega)):=(hq0 1 _ rfl).trans (List.getElem?_eq_getElem (by omega))
   have g0_2:DataW.trod enc Tryz.prog w base spare held n0 3 (([c0,c1,c2,c3,c4,c5].drop 2).take (Tryz.prog.cellsOf 3))=some (ys0[2]'(by omega)):=(hq0 2 _ rfl).trans (List.getElem?_eq_getElem (by omega))
   have g0_3:DataW.trod enc Tryz.prog w base spare held n0 3 (([c0,c1,c2,c3,c4,c5].drop 3).take (Tryz.prog.cellsOf 3))=some (ys0[3]'(by omega)):=(hq0 3 _ rfl).trans (List.getElem?_eq_getElem (by omega))
   have g0_4:DataW.trod enc Tryz.prog w base spare held n0 49 (([c0,c1,c2,c3,c4,c5].drop 4).take (Tryz.prog.cellsOf 49))=some (ys0[4]'(by omega)):=(hq0 4 _ rfl).trans (List.getElem?_eq_getElem (by omega))
   simp only[kk0,kk1,kk2,List.drop_zero,List.drop_succ_cons,List.take_succ_cons,List.take_zero] at g0_0 g0_1 g0_2 g0_3 g0_4
   obtain ⟨a0,e0,-,w0⟩:=DataW.trod_int Tryz.underlying3 g0_0
   obtain ⟨a1,e1,-,w1⟩:=DataW.trod_int Tryz.underlying3 g0_1
   obtain ⟨a2,e2,-,w2⟩:=DataW.trod_int Tryz.underlying3 g0_2
   obtain ⟨a3,e3,-,w3⟩:=DataW.trod_int Tryz.underlying3 g0_3
   obtain ⟨ys1,n1,_,_,_,hl1,hq1⟩:=DataW.trod_struct Tryz.underlying49 g0_4
   have hl1:ys1.length=2:=hl1
   have g1_0:DataW.trod enc Tryz.prog w base spare held n1 3 (([c4,c5].drop 0).take (Tryz.prog.cellsOf 3))=some (ys1[0]'(by omega)):=(hq1 0 _ rfl).trans (List.getElem?_eq_getElem (by omega))
   have g1_1:DataW.trod enc Tryz.prog w base spare held n1 47 (([c4,c5].drop 1).take (Tryz.prog.cellsOf 47))=some (ys1[1]'(by omega)):=(hq1 1 _ rfl).trans (List.getElem?_eq_getElem (by omega))
   simp only[kk0,kk1,kk2,List.drop_zero,List.drop_succ_cons,List.take_succ_cons,List.take_zero] at g1_0 g1_1
   obtain ⟨a4,e4,-,w4⟩:=DataW.trod_int Tryz.underlying3 g1_0
   obtain ⟨z5,e5,-,v5⟩:=DataW.trod_int Tryz.underlying47 g1_1
   obtain ⟨a5,rfl,w5⟩:=u64_wf v5
   simp only[List.cons.injEq,and_true] at e0 e1 e2 e3 e4 e5
   subst e0 e1 e2 e3 e4 e5
   exact ⟨⟨a0,a1,a2,a3,a4,(a5:Nat)⟩,rfl,by dsimp only;omega,by dsimp only;omega⟩
theorem open_rcd{fuel:Nat}{cl:List Value}{x:DataW H×List MemPlace}(hlen:cl.length=4)(hf:DataW.trod enc Tryz.prog w base spare held fuel 72 cl=some x):∃a:Rcd,cl=rcL a∧True:=by
 have kk0:Tryz.prog.cellsOf 70=2:=by kernel_rfl
 have kk1:Tryz.prog.cellsOf 3=1:=by kernel_rfl
 match cl,hlen with
 | [c0,c1,c2,c3],_=>
   obtain ⟨ys0,n0,_,_,_,hl0,hq0⟩:=DataW.trod_struct Tryz.underlying72 hf
   have hl0:ys0.length=3:=hl0
   have g0_0:DataW.trod enc Tryz.prog w base spare held n0 3 (([c0,c1,c2,c3].drop 0).take (Tryz.prog.cellsOf 3))=some (ys0[0]'(by omega)):=(hq0 0 _ rfl).trans (List.getElem?_eq_getElem (by omega))
   have g0_1:DataW.trod enc Tryz.prog w base spare held n0 70 (([c0,c1,c2,c3].drop 1).take (Tryz.prog.cellsOf 70))=some (ys0[1]'(by omega)):=(hq0 1 _ rfl).trans (List.getElem?_eq_getElem (by omega))
   have g0_2:DataW.trod enc Tryz.prog w base spare held n0 3 (([c0,c1,c2,c3].drop 3).take (Tryz.prog.cellsOf 3))=some (ys0[2]'(by omega)):=(hq0 2 _ rfl).trans (List.getElem?_eq_getElem (by omega))
   simp only[kk0,kk1,List.drop_zero,List.drop_succ_cons,List.take_succ_cons,List.take_zero] at g0_0 g0_1 g0_2
   obtain ⟨a0,e0,-,w0⟩:=DataW.trod_int Tryz.underlying3 g0_0
   obtain ⟨ys1,n1,_,_,_,hl1,hq1⟩:=DataW.trod_struct Tryz.underlying70 g0_1
   have hl1:ys1.length=2:=hl1
   have g1_0:DataW.trod enc Tryz.prog w base spare held n1 3 (([c1,c2].drop 0).take (Tryz.prog.cellsOf 3))=some (ys1[0]'(by omega)):=(hq1 0 _ rfl).trans (List.getElem?_eq_getElem (by omega))
   have g1_1:DataW.trod enc Tryz.prog w base spare held n1 3 (([c1,c2].drop 1).take (Tryz.prog.cellsOf 3))=some (ys1[1]'(by omega)):=(hq1 1 _ rfl).trans (List.getElem?_eq_getElem (by omega))
   simp only[kk0,kk1,List.drop_zero,List.drop_succ_cons,List.take_succ_cons,List.take_zero] at g1_0 g1_1
   obtain ⟨a1,e1,-,w1⟩:=DataW.trod_int Tryz.underlying3 g1_0
   obtain ⟨a2,e2,-,w2⟩:=DataW.trod_int Tryz.underlying3 g1_1
   obtain ⟨a3,e3,-,w3⟩:=DataW.trod_int Tryz.underlying3 g0_2
   simp only[List.cons.injEq,and_true] at e0 e1 e2 e3
   subst e0 e1 e2 e3
   exact ⟨⟨a0,a1,a2,a3⟩,rfl,tU⟩
theorem open_shp{fuel:Nat}{cl:List Value}{x:DataW H×List MemPlace}(hlen:cl.length=6)(hf:DataW.trod enc Tryz.prog w base spare held fuel 78 cl=some x):∃a:Shp,cl=shL a∧True:=by
 have kk0:Tryz.prog.cellsOf 76=4:=by kernel_rfl
 have kk1:Tryz.prog.cellsOf 3=1:=by kernel_rfl
 match cl,hlen with
 | [c0,c1,c2,c3,c4,c5],_=>
   obtain ⟨ys0,n0,_,_,_,hl0,hq0⟩:=DataW.trod_struct Tryz.underlying78 hf
   have hl0:ys0.length=3:=hl0
   have g0_0:DataW.trod enc Tryz.prog w base spare held n0 3 (([c0,c1,c2,c3,c4,c5].drop 0).take (Tryz.prog.cellsOf 3))=some (ys0[0]'(by omega)):=(hq0 0 _ rfl).trans (List.getElem?_eq_getElem (by omega))
   have g0_1:DataW.trod enc Tryz.prog w base spare held n0 76 (([c0,c1,c2,c3,c4,c5].drop 1).take (Tryz.prog.cellsOf 76))=some (ys0[1]'(by omega)):=(hq0 1 _ rfl).trans (List.getElem?_eq_getElem (by omega))
   have g0_2:DataW.trod enc Tryz.prog w base spare held n0 3 (([c0,c1,c2,c3,c4,c5].drop 5).take (Tryz.prog.cellsOf 3))=some (ys0[2]'(by omega)):=(hq0 2 _ rfl).trans (List.getElem?_eq_getElem (by omega))
   simp only[kk0,kk1,List.drop_zero,List.drop_succ_cons,List.take_succ_cons,List.take_zero] at g0_0 g0_1 g0_2
   obtain ⟨a0,e0,-,w0⟩:=DataW.trod_int Tryz.underlying3 g0_0
   obtain ⟨ys1,n1,_,_,_,hl1,hq1⟩:=DataW.trod_struct Tryz.underlying76 g0_1
   have hl1:ys1.length=4:=hl1
   have g1_0:DataW.trod enc Tryz.prog w base spare held n1 3 (([c1,c2,c3,c4].drop 0).take (Tryz.prog.cellsOf 3))=some (ys1[0]'(by omega)):=(hq1 0 _ rfl).trans (List.getElem?_eq_getElem (by omega))
   have g1_1:DataW.trod enc Tryz.prog w base spare held n1 3 (([c1,c2,c3,c4].drop 1).take (Tryz.prog.cellsOf 3))=some (ys1[1]'(by omega)):=(hq1 1 _ rfl).trans (List.getElem?_eq_getElem (by omega))
   have g1_2:DataW.trod enc Tryz.prog w base spare held n1 3 (([c1,c2,c3,c4].drop 2).take (Tryz.prog.cellsOf 3))=some (ys1[2]'(by omega)):=(hq1 2 _ rfl).trans (List.getElem?_eq_getElem (by omega))
   have g1_3:DataW.trod enc Tryz.prog w base spare held n1 3 (([c1,c2,c3,c4].drop 3).take (Tryz.prog.cellsOf 3))=some (ys1[3]'(by omega)):=(hq1 3 _ rfl).trans (List.getElem?_eq_getElem (by omega))
   simp only[kk0,kk1,List.drop_zero,List.drop_succ_cons,List.take_succ_cons,List.take_zero] at g1_0 g1_1 g1_2 g1_3
   obtain ⟨a1,e1,-,w1⟩:=DataW.trod_int Tryz.underlying3 g1_0
   obtain ⟨a2,e2,-,w2⟩:=DataW.trod_int Tryz.underlying3 g1_1
   obtain ⟨a3,e3,-,w3⟩:=DataW.trod_int Tryz.underlying3 g1_2
   obtain ⟨a4,e4,-,w4⟩:=DataW.trod_int Tryz.underlying3 g1_3
   obtain ⟨a5,e5,-,w5⟩:=DataW.trod_int Tryz.underlying3 g0_2
   simp only[List.cons.injEq,and_true] at e0 e1 e2 e3 e4 e5
   subst e0 e1 e2 e3 e4 e5
   exact ⟨⟨a0,a1,a2,a3,a4,a5⟩,rfl,tU⟩
theorem open_evn{fuel:Nat}{cl:List Value}{x:DataW H×List MemPlace}(hlen:cl.length=4)(hf:DataW.trod enc Tryz.prog w base spare held fuel 81 cl=some x):∃a:Evn,cl=evL a∧True:=by
 have kk0:Tryz.prog.cellsOf 3=1:=by kernel_rfl
 match cl,hlen with
 | [c0,c1,c2,c3],_=>
   obtain ⟨ys0,n0,_,_,_,hl0,hq0⟩:=DataW.trod_struct Tryz.underlying81 hf
   have hl0:ys0.length=4:=hl0
   have g0_0:DataW.trod enc Tryz.prog w base spare held n0 3 (([c0,c1,c2,c3].drop 0).take (Tryz.prog.cellsOf 3))=some (ys0[0]'(by omega)):=(hq0 0 _ rfl).trans (List.getElem?_eq_getElem (by omega))
   have g0_1:DataW.trod enc Tryz.prog w base spare held n0 3 (([c0,c1,c2,c3].drop 1).take (Tryz.prog.cellsOf 3))=some (ys0[1]'(by omega)):=(hq0 1 _ rfl).trans (List.getElem?_eq_getElem (by omega))
   have g0_2:DataW.trod enc Tryz.prog w base spare held n0 3 (([c0,c1,c2,c3].drop 2).take (Tryz.prog.cellsOf 3))=some (ys0[2]'(by omega)):=(hq0 2 _ rfl).trans (List.getElem?_eq_getElem (by omega))
   have g0_3:DataW.trod enc Tryz.prog w base spare held n0 3 (([c0,c1,c2,c3].drop 3).take (Tryz.prog.cellsOf 3))=some (ys0[3]'(by omega)):=(hq0 3 _ rfl).trans (List.getElem?_eq_getElem (by omega))
   simp only[kk0,List.drop_zero,List.drop_succ_cons,List.take_succ_cons,List.take_zero] at g0_0 g0_1 g0_2 g0_3
   obtain ⟨a0,e0,-,w0⟩:=DataW.trod_int Tryz.underlying3 g0_0
   obtain ⟨a1,e1,-,w1⟩:=DataW.trod_int Tryz.underlying3 g0_1
   obtain ⟨a2,e2,-,w2⟩:=DataW.trod_int Tryz.underlying3 g0_2
   obtain ⟨a3,e3,-,w3⟩:=DataW.trod_int Tryz.underlying3 g0_3
   simp only[List.cons.injEq,and_true] at e0 e1 e2 e3
   subst e0 e1 e2 e3
   exact ⟨⟨a0,a1,a2,a3⟩,rfl,tU⟩
theorem open_tik{fuel:Nat}{cl:List Value}{x:DataW H×List MemPlace}(hlen:cl.length=10)(hf:DataW.trod enc Tryz.prog w base spare held fuel 96 cl=some x):∃a:Tik,cl=tC a∧TikU a:=by
 have kk0:Tryz.prog.cellsOf 94=8:=by kernel_rfl
 have kk1:Tryz.prog.cellsOf 76=4:=by kernel_rfl
 have kk2:Tryz.prog.cellsOf 4=1:=by kernel_rfl
 have kk3:Tryz.prog.cellsOf 3=1:=by kernel_rfl
 have kk4:Tryz.prog.cellsOf 47=1:=by kernel_rfl
 match cl,hlen with
 | [c0,c1,c2,c3,c4,c5,c6,c7,c8,c9],_=>
   obtain ⟨ys0,n0,_,_,_,hl0,hq0⟩:=DataW.trod_struct Tryz.underlying96 hf
   have hl0:ys0.length=3:=hl0
   have g0_0:DataW.trod enc Tryz.prog w base spare held n0 47 (([c0,c1,c2,c3,c4,c5,c6,c7,c8,c9].drop 0).take (Tryz.prog.cellsOf 47))=some (ys0[0]'(by omega)):=(hq0 0 _ rfl).trans (List.getElem?_eq_getElem (by omega))
   have g0_1:DataW.trod enc Tryz.prog w base spare held n0 47 (([c0,c1,c2,c3,c4,c5,c6,c7,c8,c9].drop 1).take (Tryz.prog.cellsOf 47))=some (ys0[1]'(by omega)):=(hq0 1 _ rfl).trans (List.getElem?_eq_getElem (by omega))
   have g0_2:DataW.trod enc Tryz.prog w base spare held n0 94 (([c0,c1,c2,c3,c4,c5,c6,c7,c8,c9].drop 2).take (Tryz.prog.cellsOf 94))=some (ys0[2]'(by omega)):=(hq0 2 _ rfl).trans (List.getElem?_eq_getElem (by omega))
   simp only[kk0,kk1,kk2,kk3,kk4,List.drop_zero,List.drop_succ_cons,List.take_succ_cons,List.take_zero] at g0_0 g0_1 g0_2
   obtain ⟨z0,e0,-,v0⟩:=DataW.trod_int Tryz.underlying47 g0_0
   obtain ⟨a0,rfl,w0⟩:=u64_wf v0
   obtain ⟨z1,e1,-,v1⟩:=DataW.trod_int Tryz.underlying47 g0_1
   obtain ⟨a1,rfl,w1⟩:=u64_wf v1
   obtain ⟨ys1,n1,_,_,_,hl1,hq1⟩:=DataW.trod_struct Tryz.underlying94 g0_2
   have hl1:ys1.length=5:=hl1
   have g1_0:DataW.trod enc Tryz.prog w base spare held n1 3 (([c2,c3,c4,c5,c6,c7,c8,c9].drop 0).take (Tryz.prog.cellsOf 3))=some (ys1[0]'(by omega)):=(hq1 0 _ rfl).trans (List.getElem?_eq_getElem (by omega))
   have g1_1:DataW.trod enc Tryz.prog w base spare held n1 3 (([c2,c3,c4,c5,c6,c7,c8,c9].drop 1).take (Tryz.prog.cellsOf 3))=some (ys1[1]'(by omega)):=(hq1 1 _ rfl).trans (List.getElem?_eq_getElem (by omega))
   have g1_2:DataW.trod enc Tryz.prog w base spare held n1 76 (([c2,c3,c4,c5,c6,c7,c8,c9].drop 2).take (Tryz.prog.cellsOf 76))=some (ys1[2]'(by omega)):=(hq1 2 _ rfl).trans (List.getElem?_eq_getElem (by omega))
   have g1_3:DataW.trod enc Tryz.prog w base spare held n1 4 (([c2,c3,c4,c5,c6,c7,c8,c9].drop 6).take (Tryz.prog.cellsOf 4))=some (ys1[3]'(by omega)):=(hq1 3 _ rfl).trans (List.getElem?_eq_getElem (by omega))
   have g1_4:DataW.trod enc Tryz.prog w base spare held n1 3 (([c2,c3,c4,c5,c6,c7,c8,c9].drop 7).take (Tryz.prog.cellsOf 3))=some (ys1[4]'(by omega)):=(hq1 4 _ rfl).trans (List.getElem?_eq_getElem (by omega))
   simp only[kk0,kk1,kk2,kk3,kk4,List.drop_zero,List.drop_succ_cons,List.take_succ_cons,List.take_zero] at g1_0 g1_1 g1_2 g1_3 g1_4
   obtain ⟨a2,e2,-,w2⟩:=DataW.trod_int Tryz.underlying3 g1_0
   obtain ⟨a3,e3,-,w3⟩:=DataW.trod_int Tryz.underlying3 g1_1
   obtain ⟨ys2,n2,_,_,_,hl2,hq2⟩:=DataW.trod_struct Tryz.underlying76 g1_2
   have hl2:ys2.length=4:=hl2
   have g2_0:DataW.trod enc Tryz.prog w base spare held n2 3 (([c4,c5,c6,c7].drop 0).take (Tryz.prog.cellsOf 3))=some (ys2[0]'(by omega)):=(hq2 0 _ rfl).trans (List.getElem?_eq_getElem (by omega))
   have g2_1:DataW.trod enc Tryz.prog w base spare held n2 3 (([c4,c5,c6,c7].drop 1).take (Tryz.prog.cellsOf 3))=some (ys2[1]'(by omega)):=(hq2 1 _ rfl).trans (List.getElem?_eq_getElem (by omega))
   have g2_2:DataW.trod enc Tryz.prog w base spare held n2 3 (([c4,c5,c6,c7].drop 2).take (Tryz.prog.cellsOf 3))=some (ys2[2]'(by omega)):=(hq2 2 _ rfl).trans (List.getElem?_eq_getElem (by omega))
   have g2_3:DataW.trod enc Tryz.prog w base spare held n2 3 (([c4,c5,c6,c7].drop 3).take (Tryz.prog.cellsOf 3))=some (ys2[3]'(by omega)):=(hq2 3 _ rfl).trans (List.getElem?_eq_getElem (by omega))
   simp only[kk0,kk1,kk2,kk3,kk4,List.drop_zero,List.drop_succ_cons,List.take_succ_cons,List.take_zero] at g2_0 g2_1 g2_2 g2_3
   obtain ⟨a4,e4,-,w4⟩:=DataW.trod_int Tryz.underlying3 g2_0
   obtain ⟨a5,e5,-,w5⟩:=DataW.trod_int Tryz.underlying3 g2_1
   obtain ⟨a6,e6,-,w6⟩:=DataW.trod_int Tryz.underlying3 g2_2
   obtain ⟨a7,e7,-,w7⟩:=DataW.trod_int Tryz.underlying3 g2_3
   obtain ⟨a8,e8,-⟩:=DataW.trod_bool Tryz.underlying4 g1_3
   obtain ⟨a9,e9,-,w9⟩:=DataW.trod_int Tryz.underlying3 g1_4
   simp only[List.cons.injEq,and_true] at e0 e1 e2 e3 e4 e5 e6 e7 e8 e9
   subst e0 e1 e2 e3 e4 e5 e6 e7 e8 e9
   exact ⟨⟨a0,a1,⟨a2,a3,a4,a5,a6,a7,a8,a9⟩⟩,rfl,⟨w0,w1⟩⟩
def TkOpen(w:World)(x:TkS):Prop:=Sl tC w w.heap.size (tkV x) x.l∧∀k∈x.l,TikU k
theorem open_tks{fuel:Nat}{cl:List Value}{x:DataW H×List MemPlace}(hlen:cl.length=1)(hf:DataW.trod enc Tryz.prog w base spare held fuel 52 cl=some x):∃a:TkS,cl=[tkV a]∧TkOpen w a:=by
 match cl,hlen with
 | [c],_=>
   obtain ⟨l,A,cap,rfl,hs,hu⟩:=open_slc (enc':=tC) (k:=10) (by omega) tC_len (fun k _=>TikU k) Tryz.underlying52 (by kernel_rfl) (fun n cs' x hx hl=>open_tik hl hx) hf
   exact ⟨⟨A,cap,l⟩,rfl,hs,fun k hk=>(hu k hk).elim fun _ h=>h.1⟩
theorem sl_rdv{α:Type}{e:TypeId}{k:Nat}{enc':α→List Value}{A:Option Addr}{cap:Nat}{l:List α}(h:Sl enc' w w.heap.size (.slice A l.length cap) l)(hk:∀a,(enc' a).length=k)(hty:∃r,ev.ty e=some r∧r.info.size=k∧isAggD r.und=true):RdV Tryz.prog (SnapR 0 w) e k A (fun a=>.agg (enc' a).toArray) l:=by
 obtain ⟨A',m,e1,_,_,h3⟩:=h
 injection e1 with e1
 subst e1
 exact RdV.snap ev_ok hk hty fun hne=>by
  obtain ⟨b,off,rfl,_,hl⟩:=h3 (List.length_pos_iff.2 hne)
  exact ⟨b,off,rfl,Nat.zero_le _,hl⟩
theorem one_flat{α:Type}(f:α→Value)(l:List α):l.flatMap (fun x=>[f x])=l.map f:=by
 induction l with
 | nil=>rfl
 | cons a l ih=>rw[List.flatMap_cons,ih];rfl
theorem sl_rdc{α:Type}{e:TypeId}{f:α→Value}{A:Option Addr}{cap:Nat}{l:List α}(h:Sl (fun x=>[f x]) w w.heap.size (.slice A l.length cap) l)(hty:∃r,ev.ty e=some r∧isAggD r.und=false):RdV Tryz.prog (SnapR 0 w) e 1 A f l:=by
 obtain ⟨A',m,e1,_,_,h3⟩:=h
 injection e1 with e1
 subst e1
 exact RdV.cells ev_ok hty fun hne=>by
  obtain ⟨b,off,rfl,_,hl⟩:=h3 (List.length_pos_iff.2 hne)
  rw[one_flat] at hl
  exact ⟨b,off,rfl,fun w' S hw j u hj=>SnapR.cell hw (Nat.zero_le _) (hl j u hj)⟩
structure StOpen(w:World)(q:Sta)(tk:List TkS):Prop where
 rd:q.Rd (SnapR 0 w)
 tk:q.Tk (SnapR 0 w) tk
 ar:∀m∈q.ms,0≤m.area∧m.area<18446744073709551616
 past:-9223372036854775808≤q.past∧q.past≤9223372036854775807
 sz:q.tx.size≤maxLen
 sm:Sl mL w w.heap.size (.slice q.om q.ms.length q.cm) q.ms
 se:Sl evL w w.heap.size (.slice q.oe q.es.length q.ce) q.es
theorem open_state{r:Reach}{b0:Nat}{v:Value}{d:DataW H}{ps:List MemPlace}(hv:Value.okWide Tryz.prog w r b0 28 v)(h:DataW.Trod enc Tryz.prog w base spare held 28 v d ps) :
  ∃q tk,AV.flats [.agg q.a]=some [v]∧StOpen w q tk:=by
 obtain ⟨cs,rfl,hsz⟩:=okWide_struct Tryz.underlying28 hv
 have hC:Tryz.prog.cellsOf 28=7:=by kernel_rfl
 have k0:Tryz.prog.cellsOf 22=1:=by kernel_rfl
 have k1:Tryz.prog.cellsOf 23=1:=by kernel_rfl
 have k2:Tryz.prog.cellsOf 24=1:=by kernel_rfl
 have k3:Tryz.prog.cellsOf 25=1:=by kernel_rfl
 have k4:Tryz.prog.cellsOf 9=1:=by kernel_rfl
 have k5:Tryz.prog.cellsOf 26=1:=by kernel_rfl
 have k6:Tryz.prog.cellsOf 3=1:=by kernel_rfl
 obtain ⟨fuel,hf⟩:=h
 obtain ⟨ys,n,_,hx,_,hyl,hf⟩:=DataW.trod_struct Tryz.underlying28 hf
 have hyl:ys.length=7:=hyl
 have hcl:cs.toList.length=7:=by rw[Array.length_toList];exact hsz.trans hC
 obtain ⟨c0,c1,c2,c3,c4,c5,c6,e⟩:∃c0 c1 c2 c3 c4 c5 c6,cs.toList=[c0,c1,c2,c3,c4,c5,c6]:=by
  match hcs:cs.toList,hcl with
  | [c0,c1,c2,c3,c4,c5,c6],_=>exact ⟨c0,c1,c2,c3,c4,c5,c6,rfl⟩
 have hce:(Value.agg cs).cells.toList=[c0,c1,c2,c3,c4,c5,c6]:=e
 rw[hce] at hf
 have g0:DataW.trod enc Tryz.prog w base spare held n 22 (([c0,c1,c2,c3,c4,c5,c6].drop 0).take (Tryz.prog.cellsOf 22))=some (ys[0]'(by omega)):=(hf 0 _ rfl).trans (List.getElem?_eq_getElem (by omega))
 have g1:DataW.trod enc Tryz.prog w base spare held n 23 (([c0,c1,c2,c3,c4,c5,c6].drop 1).take (Tryz.prog.cellsOf 23))=some (ys[1]'(by omega)):=(hf 1 _ rfl).trans (List.getElem?_eq_getElem (by omega))
 have g2:DataW.trod enc Tryz.prog w base spare held n 24 (([c0,c1,c2,c3,c4,c5,c6].drop 2).take (Tryz.prog.cellsOf 24))=some (ys[2]'(by omega)):=(hf 2 _ rfl).trans (List.getElem?_eq_getElem (by omega))
 have g3:DataW.trod enc Tryz.prog w base spare held n 25 (([c0,c1,c2,c3,c4,c5,c6].drop 3).take (Tryz.prog.cellsOf 25))=some (ys[3]'(by omega)):=(hf 3 _ rfl).trans (List.getElem?_eq_getElem (by omega))
 have g4:DataW.trod enc Tryz.prog w base spare held n 9 (([c0,c1,c2,c3,c4,c5,c6].drop 4).take (Tryz.prog.cellsOf 9))=some (ys[4]'(by omega)):=(hf 4 _ rfl).trans (List.getElem?_eq_getElem (by omega))
 have g5:DataW.trod enc Tryz.prog w base spare held n 26 (([c0,c1,c2,c3,c4,c5,c6].drop 5).take (Tryz.prog.cellsOf 26))=some (ys[5]'(by omega)):=(hf 5 _ rfl).trans (List.getElem?_eq_getElem (by omega))
 have g6:DataW.trod enc Tryz.prog w base spare held n 3 (([c0,c1,c2,c3,c4,c5,c6].drop 6).take (Tryz.prog.cellsOf 3))=some (ys[6]'(by omega)):=(hf 6 _ rfl).trans (List.getElem?_eq_getElem (by omega))
 simp only[k0,k1,k2,k3,k4,k5,k6,List.drop_zero,List.drop_succ_cons,List.take_succ_cons,List.take_zero] at g0 g1 g2 g3 g4 g5 g6
 obtain ⟨ms,A0,p0,rfl,s0,u0⟩:=open_slc (enc':=mL) (k:=6) (by omega) mL_len (fun m _=>0≤m.area∧m.area<18446744073709551616) Tryz.underlying22 (by kernel_rfl) (fun n cs' x hx hl=>open_mem hl hx) g0
 obtain ⟨tk,A1,p1,rfl,s1,u1⟩:=open_slc (enc':=fun x=>[tkV x]) (k:=1) (by omega) (fun _=>rfl) (fun x _=>TkOpen w x) Tryz.underlying23 (by kernel_rfl) (fun n cs' x hx hl=>open_tks hl hx) g1
 obtain ⟨rs,A2,p2,rfl,s2,u2⟩:=open_slc (enc':=rcL) (k:=4) (by omega) rcL_len (fun _ _=>True) Tryz.underlying24 (by kernel_rfl) (fun n cs' x hx hl=>open_rcd hl hx) g2
 obtain ⟨ss,A3,p3,rfl,s3,u3⟩:=open_slc (enc':=shL) (k:=6) (by omega) shL_len (fun _ _=>True) Tryz.underlying25 (by kernel_rfl) (fun n cs' x hx hl=>open_shp hl hx) g3
 obtain ⟨tx,e4,-,u4⟩:=DataW.trod_string Tryz.underlying9 g4
 obtain ⟨es,A5,p5,rfl,s5,u5⟩:=open_slc (enc':=evL) (k:=4) (by omega) evL_len (fun _ _=>True) Tryz.underlying26 (by kernel_rfl) (fun n cs' x hx hl=>open_evn hl hx) g5
 obtain ⟨z,e6,-,u6⟩:=DataW.trod_int Tryz.underlying3 g6
 simp only[List.cons.injEq,and_true] at e4 e6
 subst e4 e6
 refine ⟨⟨ms,tk.length,rs,ss,tx,es,z,A0,A1,A2,A3,A5,p0,p1,p2,p3,p5⟩,tk,?_,⟨⟨sl_rdv s0 mL_len memty_ok,sl_rdv s2 rcL_len recty_ok,sl_rdv s3 shL_len shpty_ok,sl_rdv s5 evL_len evnty_ok⟩,⟨rfl,sl_rdc s1 tksty_ok,fun x hx=>?_,fun x hx=>?_⟩,fun m hm=>?_,i64_wf u6,u4,s0,s5⟩⟩
 ·have ea:cs=#[.slice A0 ms.length p0,.slice A1 tk.length p1,.slice A2 rs.length p2,.slice A3 ss.length p3,.string tx,.slice A5 es.length p5,.int .i64 z]:=by rw[←Array.toArray_toList (xs:=cs),e]
  rw[ea]
  rfl
 ·obtain ⟨_,h,_⟩:=u1 x hx
  exact sl_rdv (cap:=x.c) h.1 tC_len tikty_ok
 ·obtain ⟨_,h,_⟩:=u1 x hx
  exact h.2
 ·obtain ⟨_,h,_⟩:=u0 m hm
  exact h
end
end Go.Proofs.YtmbdghclhpboaaaGreat
namespace Go.Proofs.YtmbdghclhpboaaaGreat
theorem and_t{a b:Bool}(h:a=true)(k:b=true):(a&&b)=true:=by rw[h,k];rfl
theorem seat_laid:laidOutB Tryz.prog=true:=by kernel_rfl
theorem seat_mapsRowed:mapsRowed Tryz.prog=true:=by kernel_rfl
theorem seat_stops:(Tryz.prog.stops==[])=true:=by kernel_rfl
theorem seat_stopKnobs:(Tryz.prog.stopKnobs==[])=true:=by kernel_rfl
theorem seat_heard:Tryz.prog.stopsHeard=true:=by kernel_rfl
theorem seat_enter:Tryz.prog.mayEnter=true:=by kernel_rfl
theorem knob_none:ownKnob Tryz.prog.godebug=none:=by kernel_rfl
theorem snapshotBack_c0:(Rows.snapshotBackRow.wf (OpenSpec.ofChange Rows.snapshotBackSpec))=true:=by kernel_rfl
theorem snapshotBack_c3:(Tryz.f4.params.all (Tryz.prog.readableRec ·))=true:=by kernel_rfl
theorem snapshotBack_c4:(namedTie Tryz.prog Rows.snapshotBackRow.named Rows.snapshotBackSpec.vars)=true:=by kernel_rfl
theorem snapshotBack_c5:(Rows.snapshotBackRow.stops==[])=true:=by kernel_rfl
theorem snapshotBack_c7:(Rows.snapshotBackRow.knobs==[])=true:=by kernel_rfl
theorem snapshotBack_c9:(Rows.snapshotBackRow.inPlace==Tryz.prog.inPlace 4)=true:=by kernel_rfl
theorem snapshotBack_c10:(Rows.snapshotBackRow.unfollowed==Tryz.prog.unfollowed 4)=true:=by kernel_rfl
theorem snapshotBack_c11:(Rows.snapshotBackRow.recurses==Tryz.prog.recurses 4)=true:=by kernel_rfl
theorem snapshotBack_c12:(Rows.snapshotBackRow.named==Tryz.prog.varsNamed 4)=true:=by kernel_rfl
theorem snapshotBack_c13:(Rows.snapshotBackRow.maps==(Tryz.f4.params.toList++Rows.snapshotBackSpec.plain.varTypes Tryz.prog).any (Tryz.prog.mapsRec ·))=true:=by kernel_rfl
theorem snapshotBack_c14:(Rows.snapshotBackRow.ifaces==(Tryz.f4.params.toList++Rows.snapshotBackSpec.plain.varTypes Tryz.prog).any (Tryz.prog.ifacesRec ·))=true:=by kernel_rfl
theorem snapshotBack_c15:(Rows.snapshotBackRow.mapsOut==Tryz.prog.mapsAmong Tryz.f4.resultTypes.toList)=true:=by kernel_rfl
theorem snapshotBack_c16:(Rows.snapshotBackRow.loops==(Tryz.f4.params.toList++Rows.snapshotBackSpec.plain.varTypes Tryz.prog).any (Tryz.prog.loopsFrom ·))=true:=by kernel_rfl
theorem snapshotBack_c17:(Rows.snapshotBackRow.wideKeys==(Tryz.f4.params.toList++Rows.snapshotBackSpec.plain.varTypes Tryz.prog++Tryz.f4.resultTypes.toList).any (Tryz.prog.wideKeysFrom ·))=true:=by kernel_rfl
theorem snapshotBack_c18:(Rows.snapshotBackSpec.vars.all (Tryz.prog.varReadable ·))=true:=by kernel_rfl
theorem snapshotBack_c19:(Tryz.f4.resultTypes.all (fun t=>Tryz.prog.readableRec t&&decide (t<Tryz.prog.types.size)))=true:=by kernel_rfl
theorem snapshotBack_c20:(Rows.snapshotBackRow.ifacesOut==Tryz.f4.resultTypes.toList.any (Tryz.prog.ifacesRec ·))=true:=by kernel_rfl
theorem snapshotBack_c21:(Rows.snapshotBackRow.loopsOut==Tryz.f4.resultTypes.toList.any (Tryz.prog.loopsFrom ·))=true:=by kernel_rfl
theorem snapshotBack_c22:(Rows.snapshotBackRow.plainKeys==Tryz.prog.plainKeys)=true:=by kernel_rfl
theorem snapshotBack_c23:(Rows.snapshotBackRow.shortTexts.isNone)=true:=by kernel_rfl
theorem snapshotBack_c26:(Rows.snapshotBackRow.lifted==Tryz.prog.liftsFinal)=true:=by kernel_rfl
theorem snapshotBack_c27:(Tryz.prog.make==some Rows.snapshotBackRow.make)=true:=by kernel_rfl
theorem snapshotBack_c29:(Rows.snapshotBackRow.pinned==Rows.snapshotBackRow.pinnedBy)=true:=by kernel_rfl
theorem snapshotBack_c30:(Rows.snapshotBackRow.veiled==(Tryz.f4.params.toList++Rows.snapshotBackSpec.plain.varTypes Tryz.prog++Tryz.f4.resultTypes.toList).any (Tryz.prog.veiledRec ·))=true:=by kernel_rfl
theorem snapshotBack_c31:(Rows.snapshotBackRow.veiledFits Tryz.prog Tryz.f4.params.toList (Tryz.f4.params.toList++Rows.snapshotBackSpec.plain.varTypes Tryz.prog++Tryz.f4.resultTypes.toList))=true:=by kernel_rfl
theorem snapshotBack_closed:joinedFacts Tryz.prog 4 Tryz.f4 Rows.snapshotBackSpec Rows.snapshotBackRow=true:=by
 rw[joinedFacts]
 exact (and_t (and_t (and_t (and_t (and_t (and_t (and_t (and_t (and_t (and_t (and_t (and_t (and_t (and_t (and_t (and_t (and_t (and_t (and_t (and_t (and_t (and_t (and_t (and_t (and_t (and_t (and_t (and_t (and_t (and_t (and_t snapshotBack_c0 seat_laid) seat_mapsRowed) snapshotBack_c3) snapshotBack_c4) snapshotBack_c5) seat_stops) snapshotBack_c7) seat_stopKnobs) snapshotBack_c9) snapshotBack_c10) snapshotBack_c11) snapshotBack_c12) snapshotBack_c13) snapshotBack_c14) snapshotBack_c15) snapshotBack_c16) snapshotBack_c17) snapshotBack_c18) snapshotBack_c19) snapshotBack_c20) snapshotBack_c21) snapshotBack_c22) snapshotBack_c23) seat_heard) seat_enter) snapshotBack_c26) snapshotBack_c27) (by kernel_rfl)) snapshotBack_c29) snapshotBack_c30) snapshotBack_c31)
theorem snapshotBack_named:Tryz.prog.funcNamed Rows.snapshotBackRow.func=some 4:=by kernel_rfl
theorem snapshotBack_noInit:Tryz.prog.inits.idxOf? 4=none:=by kernel_rfl
end Go.Proofs.YtmbdghclhpboaaaGreat

/- Part of the proof: Rdr2 Rdr3 Rdr4 Rdr5. Conditions: as each states. -/
import Derived.Test.YtmbdghclhpboaaaGreatPq34
set_option linter.all false
set_option maxRecDepth 100000
namespace Go.Proofs.YtmbdghclhpboaaaGreat
open Ev
theorem Gv{R:aC}{s:aH}{k:Nat}(h:s.Ok R)(h1:1<=k)(h8:k<=8):CP [] 183 [.ptr 0 0,iA k] [c9 s,.res R] (fun v H'=>∃n s' G,s.gB k=(n,s')/\s'.Ok R/\v=uA (n:Nat)/\H'=c9 s'::.res R::G):=
 aj.mono (RB h h1 h8) (by rintro _ _ ⟨rfl,G,rfl⟩;exact ⟨_,_,G,rfl,h.take k,rfl,rfl⟩)
theorem mS{R:aC}{s:aH}{k:Nat}(h:s.Ok R)(h1:1<=k)(h8:k<=8):CP [] 103 [.ptr 0 0,iA k] [c9 s,.res R] (fun v H'=>∃n s' G,s.num k=(n,s')/\s'.Ok R/\v=iA (n:Nat)/\H'=c9 s'::.res R::G):=
 aj.mono (Jo h h1 h8) (by rintro _ _ ⟨rfl,G,rfl⟩;exact ⟨_,_,G,rfl,h.num k,rfl,rfl⟩)
theorem ov{R:aC}{s:aH}{k j0:Nat}{cs:List AV}{T P:TypeId}(h:s.Ok R)(h1:1<=k)(h8:k<=8)(z7:j0<cs.length)(hc:∀g,cs.map (AV.cI g)=cs):CP [] 102 [.ptr 0 0,iA k,.slice 3 0 1 (.k 1)] [c9 s,.res R,.cells cs T,.cells [.ptr 2 j0] P] (fun u H'=>∃x0 s1 G,(s.num k=(x0,s1))/\s1.Ok R/\u=aQ/\H'=c9 s1::.res R::.cells (cs.set j0 (iA (x0:Nat))) T::.cells [.ptr 2 j0] P::G):=
 aj.mono (Gs (is:=[j0]) (T:=T) (P:=P) h h1 h8 (by show 1<=1000;decide) (fun j hj=>by simp only[List.mem_cons,List.not_mem_nil,or_false] at hj;obtain rfl:=hj;exact z7) hc) (by rintro _ _ ⟨rfl,G,rfl⟩;exact ⟨_,_,G,rfl,h.lD k 1,rfl,rfl⟩)
theorem Gt{R:aC}{s:aH}{k j0 j1:Nat}{cs:List AV}{T P:TypeId}(h:s.Ok R)(h1:1<=k)(h8:k<=8)(z7:j0<cs.length)(FT:j1<cs.length)(hc:∀g,cs.map (AV.cI g)=cs):CP [] 102 [.ptr 0 0,iA k,.slice 3 0 2 (.k 2)] [c9 s,.res R,.cells cs T,.cells [.ptr 2 j0,.ptr 2 j1] P] (fun u H'=>∃x0 s1 x1 s2 G,(s.num k=(x0,s1)/\s1.num k=(x1,s2))/\s2.Ok R/\u=aQ/\H'=c9 s2::.res R::.cells ((cs.set j0 (iA (x0:Nat))).set j1 (iA (x1:Nat))) T::.cells [.ptr 2 j0,.ptr 2 j1] P::G):=
 aj.mono (Gs (is:=[j0,j1]) (T:=T) (P:=P) h h1 h8 (by show 2<=1000;decide) (fun j hj=>by simp only[List.mem_cons,List.not_mem_nil,or_false] at hj;rcases hj with rfl|rfl<;>assumption) hc) (by rintro _ _ ⟨rfl,G,rfl⟩;exact ⟨_,_,_,_,G,⟨rfl,rfl⟩,h.lD k 2,rfl,rfl⟩)
theorem Uy{R:aC}{s:aH}{k j0 j1 j2:Nat}{cs:List AV}{T P:TypeId}(h:s.Ok R)(h1:1<=k)(h8:k<=8)(z7:j0<cs.length)(FT:j1<cs.length)(uP:j2<cs.length)(hc:∀g,cs.map (AV.cI g)=cs):CP [] 102 [.ptr 0 0,iA k,.slice 3 0 3 (.k 3)] [c9 s,.res R,.cells cs T,.cells [.ptr 2 j0,.ptr 2 j1,.ptr 2 j2] P] (fun u H'=>∃x0 s1 x1 s2 x2 s3 G,(s.num k=(x0,s1)/\s1.num k=(x1,s2)/\s2.num k=(x2,s3))/\s3.Ok R/\u=aQ/\H'=c9 s3::.res R::.cells (((cs.set j0 (iA (x0:Nat))).set j1 (iA (x1:Nat))).set j2 (iA (x2:Nat))) T::.cells [.ptr 2 j0,.ptr 2 j1,.ptr 2 j2] P::G):=
 aj.mono (Gs (is:=[j0,j1,j2]) (T:=T) (P:=P) h h1 h8 (by show 3<=1000;decide) (fun j hj=>by simp only[List.mem_cons,List.not_mem_nil,or_false] at hj;rcases hj with rfl|rfl|rfl<;>assumption) hc) (by rintro _ _ ⟨rfl,G,rfl⟩;exact ⟨_,_,_,_,_,_,G,⟨rfl,rfl,rfl⟩,h.lD k 3,rfl,rfl⟩)
theorem MI{R:aC}{s:aH}{k j0 j1 j2 j3:Nat}{cs:List AV}{T P:TypeId}(h:s.Ok R)(h1:1<=k)(h8:k<=8)(z7:j0<cs.length)(FT:j1<cs.length)(uP:j2<cs.length)(hj3:j3<cs.length)(hc:∀g,cs.map (AV.cI g)=cs):CP [] 102 [.ptr 0 0,iA k,.slice 3 0 4 (.k 4)] [c9 s,.res R,.cells cs T,.cells [.ptr 2 j0,.ptr 2 j1,.ptr 2 j2,.ptr 2 j3] P] (fun u H'=>∃x0 s1 x1 s2 x2 s3 x3 s4 G,(s.num k=(x0,s1)/\s1.num k=(x1,s2)/\s2.num k=(x2,s3)/\s3.num k=(x3,s4))/\s4.Ok R/\u=aQ/\H'=c9 s4::.res R::.cells ((((cs.set j0 (iA (x0:Nat))).set j1 (iA (x1:Nat))).set j2 (iA (x2:Nat))).set j3 (iA (x3:Nat))) T::.cells [.ptr 2 j0,.ptr 2 j1,.ptr 2 j2,.ptr 2 j3] P::G):=
 aj.mono (Gs (is:=[j0,j1,j2,j3]) (T:=T) (P:=P) h h1 h8 (by show 4<=1000;decide) (fun j hj=>by simp only[List.mem_cons,List.not_mem_nil,or_false] at hj;rcases hj with rfl|rfl|rfl|rfl<;>assumption) hc) (by rintro _ _ ⟨rfl,G,rfl⟩;exact ⟨_,_,_,_,_,_,_,_,G,⟨rfl,rfl,rfl,rfl⟩,h.lD k 4,rfl,rfl⟩)
def aH.se(s:aH):fS×aH:=
 let a:=s.num 2
 let b:=a.2.num 1
 let c:=b.2.num 1
 let d:=c.2.num 4
 (⟨a.1,b.1,c.1,d.1⟩,d.2)
def aH.rD(s:aH):bW×aH:=
 let a:=s.num 2
 let b:=a.2.num 2
 let c:=b.2.num 2
 let d:=c.2.num 1
 (⟨a.1,b.1,c.1,d.1⟩,d.2)
def aH.rJ(s:aH):df×aH:=
 let a:=s.num 2
 let b:=a.2.num 2
 let c:=b.2.num 2
 let d:=c.2.num 2
 let e:=d.2.num 2
 let f:=e.2.num 1
 (⟨a.1,b.1,c.1,d.1,e.1,f.1⟩,f.2)
theorem MH{R:aC}{s:aH}(h:s.Ok R):CP [] 111 [.ptr 0 0] [c9 s,.res R] (fun v H'=>∃x s' G,s.se=(x,s')/\s'.Ok R/\v=.agg (Bt x)/\H'=c9 s'::.res R::G):=by
 refine ag aa rfl ?_;repeat' ((conv=>whnf);first|with_reducible apply af<;>intro _|(refine (ov (k:=2) (j0:=0) (cs:=[iA 0,iA 0,iA 0,iA 0]) (T:=81) (P:=189) h (by decide) (by decide) (by simp) (fun _=>rfl)).use [0,1,3,4] rfl rfl ⟨⟨_,rfl,rfl⟩,ko,⟨_,rfl,rfl⟩,⟨_,rfl,rfl⟩,tU⟩ ?_;rintro _ _ ⟨x0,s1,G1,e0,h1,rfl,rfl⟩;refine ⟨[],?_⟩)|(refine (Gt (k:=1) (j0:=1) (j1:=2) (cs:=[iA (x0:Nat),iA 0,iA 0,iA 0]) (T:=81) (P:=189) h1 (by decide) (by decide) (by simp) (by simp) (fun _=>rfl)).use [0,1,3,5] rfl rfl ⟨⟨_,rfl,rfl⟩,ko,⟨_,rfl,rfl⟩,⟨_,rfl,rfl⟩,tU⟩ ?_;rintro _ _ ⟨x1,s2,x2,s3,G3,⟨e1,e2⟩,h3,rfl,rfl⟩;refine ⟨[],?_⟩)|(refine (ov (k:=4) (j0:=3) (cs:=[iA (x0:Nat),iA (x1:Nat),iA (x2:Nat),iA 0]) (T:=81) (P:=189) h3 (by decide) (by decide) (by simp) (fun _=>rfl)).use [0,1,3,6] rfl rfl ⟨⟨_,rfl,rfl⟩,ko,⟨_,rfl,rfl⟩,⟨_,rfl,rfl⟩,tU⟩ ?_;rintro _ _ ⟨x3,s4,G4,e3,h4,rfl,rfl⟩;refine ⟨[],?_⟩))
 all_goals (try conv=>whnf)
 exact ⟨⟨x0,x1,x2,x3⟩,s4,_,by simp only[aH.se,e0,e1,e2,e3],h4,rfl,rfl⟩
theorem Jt{R:aC}{s:aH}(h:s.Ok R):CP [] 106 [.ptr 0 0] [c9 s,.res R] (fun v H'=>∃x s' G,s.rD=(x,s')/\s'.Ok R/\v=.agg (lE x)/\H'=c9 s'::.res R::G):=by
 refine ag aa rfl ?_;repeat' ((conv=>whnf);first|with_reducible apply af<;>intro _|(refine (Uy (k:=2) (j0:=0) (j1:=1) (j2:=2) (cs:=[iA 0,iA 0,iA 0,iA 0]) (T:=72) (P:=189) h (by decide) (by decide) (by simp) (by simp) (by simp) (fun _=>rfl)).use [0,1,3,4] rfl rfl ⟨⟨_,rfl,rfl⟩,ko,⟨_,rfl,rfl⟩,⟨_,rfl,rfl⟩,tU⟩ ?_;rintro _ _ ⟨x0,s1,x1,s2,x2,s3,G3,⟨e0,e1,e2⟩,h3,rfl,rfl⟩;refine ⟨[],?_⟩)|(refine (ov (k:=1) (j0:=3) (cs:=[iA (x0:Nat),iA (x1:Nat),iA (x2:Nat),iA 0]) (T:=72) (P:=189) h3 (by decide) (by decide) (by simp) (fun _=>rfl)).use [0,1,3,5] rfl rfl ⟨⟨_,rfl,rfl⟩,ko,⟨_,rfl,rfl⟩,⟨_,rfl,rfl⟩,tU⟩ ?_;rintro _ _ ⟨x3,s4,G4,e3,h4,rfl,rfl⟩;refine ⟨[],?_⟩))
 all_goals (try conv=>whnf)
 exact ⟨⟨x0,x1,x2,x3⟩,s4,_,by simp only[aH.rD,e0,e1,e2,e3],h4,rfl,rfl⟩
theorem UB{R:aC}{s:aH}{a0:Int}{a1:Int}{a2:Int}{a3:Int}{a4:Int}{a5:Int}(h:s.Ok R):CP [] 186 [.ptr 0 0,.ptr 2 1] [c9 s,.res R,.cells [iA a0,iA a1,iA a2,iA a3,iA a4,iA a5] 78] (fun u H'=>∃x0 s1 x1 s2 x2 s3 x3 s4 G,(s.num 2=(x0,s1)/\s1.num 2=(x1,s2)/\s2.num 2=(x2,s3)/\s3.num 2=(x3,s4))/\s4.Ok R/\u=aQ/\H'=c9 s4::.res R::.cells [iA a0,iA (x0:Nat),iA (x1:Nat),iA (x2:Nat),iA (x3:Nat),iA a5] 78::G):=by
 refine ag aa rfl ?_;repeat' ((conv=>whnf);first|with_reducible apply af<;>intro _|refine aM.drawn aa rfl rfl ?_|with_reducible refine And.intro (aN.mk ⟨_,rfl,rfl⟩) ?_|(refine (MI (k:=2) (j0:=1) (j1:=2) (j2:=3) (j3:=4) (cs:=[iA a0,iA a1,iA a2,iA a3,iA a4,iA a5]) (T:=78) (P:=189) h (by decide) (by decide) (by simp) (by simp) (by simp) (by simp) (fun _=>rfl)).use [0,1,2,3] rfl rfl ⟨⟨_,rfl,rfl⟩,ko,⟨_,rfl,rfl⟩,⟨_,rfl,rfl⟩,tU⟩ ?_;rintro _ _ ⟨x0,s1,x1,s2,x2,s3,x3,s4,G,⟨e0,e1,e2,e3⟩,h4,rfl,rfl⟩;refine ⟨[],?_⟩))
 all_goals (try conv=>whnf)
 exact ⟨x0,s1,x1,s2,x2,s3,x3,s4,_,⟨e0,e1,e2,e3⟩,h4,rfl,rfl⟩
theorem ML{R:aC}{s:aH}(h:s.Ok R):CP [] 108 [.ptr 0 0] [c9 s,.res R] (fun v H'=>∃x s' G,s.rJ=(x,s')/\s'.Ok R/\v=.agg (pG x)/\H'=c9 s'::.res R::G):=by
 refine ag aa rfl ?_;repeat' ((conv=>whnf);first|with_reducible apply af<;>intro _|(refine (ov (k:=2) (j0:=0) (cs:=[iA 0,iA 0,iA 0,iA 0,iA 0,iA 0]) (T:=78) (P:=189) h (by decide) (by decide) (by simp) (fun _=>rfl)).use [0,1,3,4] rfl rfl ⟨⟨_,rfl,rfl⟩,ko,⟨_,rfl,rfl⟩,⟨_,rfl,rfl⟩,tU⟩ ?_;rintro _ _ ⟨x0,s1,G1,e0,h1,rfl,rfl⟩;refine ⟨[],?_⟩)|(refine (UB (a0:=(x0:Nat)) (a1:=0) (a2:=0) (a3:=0) (a4:=0) (a5:=0) h1).use [0,1,3] rfl rfl ⟨⟨_,rfl,rfl⟩,ko,⟨_,rfl,rfl⟩,tU⟩ ?_;rintro _ _ ⟨x1,s2,x2,s3,x3,s4,x4,s5,G5,⟨e1,e2,e3,e4⟩,h5,rfl,rfl⟩;refine ⟨[],?_⟩)|(refine (ov (k:=1) (j0:=5) (cs:=[iA (x0:Nat),iA (x1:Nat),iA (x2:Nat),iA (x3:Nat),iA (x4:Nat),iA 0]) (T:=78) (P:=189) h5 (by decide) (by decide) (by simp) (fun _=>rfl)).use [0,1,3,5] rfl rfl ⟨⟨_,rfl,rfl⟩,ko,⟨_,rfl,rfl⟩,⟨_,rfl,rfl⟩,tU⟩ ?_;rintro _ _ ⟨x5,s6,G6,e5,h6,rfl,rfl⟩;refine ⟨[],?_⟩))
 all_goals (try conv=>whnf)
 exact ⟨⟨x0,x1,x2,x3,x4,x5⟩,s6,_,by simp only[aH.rJ,e0,e1,e2,e3,e4,e5],h6,rfl,rfl⟩
theorem AF{R:aC}{s:aH}{a0:Int}{a1:Int}{a2:Int}{a3:Int}{a4:Int}{a5:Int}{a6:Int}{a7:Int}{a8:Bool}{a9:Int}(h:s.Ok R):CP [] 186 [.ptr 0 0,.ptr 2 4] [c9 s,.res R,.cells [uA a0,uA a1,iA a2,iA a3,iA a4,iA a5,iA a6,iA a7,.lit (.bool a8),iA a9] 96] (fun u H'=>∃x0 s1 x1 s2 x2 s3 x3 s4 G,(s.num 2=(x0,s1)/\s1.num 2=(x1,s2)/\s2.num 2=(x2,s3)/\s3.num 2=(x3,s4))/\s4.Ok R/\u=aQ/\H'=c9 s4::.res R::.cells [uA a0,uA a1,iA a2,iA a3,iA (x0:Nat),iA (x1:Nat),iA (x2:Nat),iA (x3:Nat),.lit (.bool a8),iA a9] 96::G):=by
 refine ag aa rfl ?_;repeat' ((conv=>whnf);first|with_reducible apply af<;>intro _|refine aM.drawn aa rfl rfl ?_|with_reducible refine And.intro (aN.mk ⟨_,rfl,rfl⟩) ?_|(refine (MI (k:=2) (j0:=4) (j1:=5) (j2:=6) (j3:=7) (cs:=[uA a0,uA a1,iA a2,iA a3,iA a4,iA a5,iA a6,iA a7,.lit (.bool a8),iA a9]) (T:=96) (P:=189) h (by decide) (by decide) (by simp) (by simp) (by simp) (by simp) (fun _=>rfl)).use [0,1,2,3] rfl rfl ⟨⟨_,rfl,rfl⟩,ko,⟨_,rfl,rfl⟩,⟨_,rfl,rfl⟩,tU⟩ ?_;rintro _ _ ⟨x0,s1,x1,s2,x2,s3,x3,s4,G,⟨e0,e1,e2,e3⟩,h4,rfl,rfl⟩;refine ⟨[],?_⟩))
 all_goals (try conv=>whnf)
 exact ⟨x0,s1,x1,s2,x2,s3,x3,s4,_,⟨e0,e1,e2,e3⟩,h4,rfl,rfl⟩
theorem RA{R:aC}{s:aH}{a0 a1:Int}{T U P:TypeId}(h:s.Ok R):CP [] 102 [.ptr 0 0,iA 1,.slice 4 0 3 (.k 3)] [c9 s,.res R,.cells [uA a0,uA a1,iA 0,iA 0,iA 0,iA 0,iA 0,iA 0,.lit (.bool false),iA 0] T,.cells [iA 0] U,.cells [.ptr 2 2,.ptr 2 3,.ptr 3 0] P] (fun u H'=>∃x0 s1 x1 s2 x2 s3 G,(s.num 1=(x0,s1)/\s1.num 1=(x1,s2)/\s2.num 1=(x2,s3))/\s3.Ok R/\u=aQ/\H'=c9 s3::.res R::.cells [uA a0,uA a1,iA (x0:Nat),iA (x1:Nat),iA 0,iA 0,iA 0,iA 0,.lit (.bool false),iA 0] T::.cells [iA (x2:Nat)] U::.cells [.ptr 2 2,.ptr 2 3,.ptr 3 0] P::G):=by
 refine ag aa rfl ?_;conv=>whnf
 refine bS.loop 4 ?_;repeat' ((conv=>whnf);first|with_reducible apply af<;>intro _|refine bS.step aa rfl ?_|refine aO.of (k:=0) rfl (by decide) ?_|refine aO.of (k:=1) rfl (by decide) ?_|refine aO.of (k:=2) rfl (by decide) ?_|(refine (mS (k:=1) h2 (by decide) (by decide)).use [0,1] rfl rfl ⟨⟨_,rfl,rfl⟩,ko,tU⟩ ?_;rintro _ _ ⟨x2,s3,G3,e2,h3,rfl,rfl⟩;refine ⟨[],?_⟩)|(refine (mS (k:=1) h1 (by decide) (by decide)).use [0,1] rfl rfl ⟨⟨_,rfl,rfl⟩,ko,tU⟩ ?_;rintro _ _ ⟨x1,s2,G2,e1,h2,rfl,rfl⟩;refine ⟨[],?_⟩)|(refine (mS (k:=1) h (by decide) (by decide)).use [0,1] rfl rfl ⟨⟨_,rfl,rfl⟩,ko,tU⟩ ?_;rintro _ _ ⟨x0,s1,G1,e0,h1,rfl,rfl⟩;refine ⟨[],?_⟩))
 all_goals (try conv=>whnf)
 exact ⟨x0,s1,x1,s2,x2,s3,_,⟨e0,e1,e2⟩,h3,rfl,rfl⟩
def aH.qG(s:aH):cy×aH:=
 let a:=s.gB 8
 let b:=a.2.gB 8
 let o:=b.2.num 1
 let z:=o.2.num 1
 let v:=z.2.num 1
 let w:aH:=⟨v.2.A,v.2.c,v.2.l,v.2.bad || decide (1<v.1)⟩
 let x0:=w.num 2
 let y0:=x0.2.num 2
 let x1:=y0.2.num 2
 let y1:=x1.2.num 2
 let u:=y1.2.num 4
 (⟨a.1,b.1,⟨o.1,z.1,x0.1,y0.1,x1.1,y1.1,decide (v.1=1),u.1⟩⟩,u.2)
theorem aH.Ok.turn{R:aC}{s:aH}(h:s.Ok R)(b:Bool):(⟨s.A,s.c,s.l,b⟩:aH).Ok R:=⟨h.nil,h.KX⟩
theorem GN{s s1 s2 s3 s4 s5 s6 s7 s8 s9 Ai:aH}{x0 x1 x2 x3 x4 x5 x6 x7 x8 x9:Nat}{b v:Bool}(e0:s.gB 8=(x0,s1))(e1:s1.gB 8=(x1,s2))(e2:s2.num 1=(x2,s3))(e3:s3.num 1=(x3,s4))(e4:s4.num 1=(x4,s5))(e5:aH.num 2 ⟨s5.A,s5.c,s5.l,b⟩=(x5,s6))(e6:s6.num 2=(x6,s7))(e7:s7.num 2=(x7,s8))(e8:s8.num 2=(x8,s9))(e9:s9.num 4=(x9,Ai))(hb:(s5.bad || decide (1<x4))=b)(hv:decide (x4=1)=v):s.qG=(⟨x0,x1,⟨x2,x3,x5,x6,x7,x8,v,x9⟩⟩,Ai):=by
 subst hb hv;simp only[aH.qG,e0,e1,e2,e3,e4,e5,e6,e7,e8,e9]
theorem Pc{x:Nat}{b:Bool}(h:((x:Int)==1)=b):decide (x=1)=b:=by
 subst h;by_cases e:x=1
 ·subst e;rfl
 ·rw[decide_eq_false e];exact (beq_eq_false_iff_ne.2 (by omega)).symm
theorem gt1{x:Nat}{b:Bool}(h:decide ((x:Int)>1)=b):decide (1<x)=b:=by
 subst h;exact decide_eq_decide.2 ⟨fun h=>by omega,fun h=>by omega⟩
theorem Jy{R:aC}{s:aH}(h:s.Ok R):CP [] 185 [.ptr 0 0] [c9 s,.res R] (fun v H'=>∃x s' G,s.qG=(x,s')/\s'.Ok R/\v=.agg ((tC x).map .lit)/\H'=c9 s'::.res R::G):=by
 refine ag aa rfl ?_;refine eX.of rfl rfl ?_;refine aI.az fun F hF=>?_;repeat' ((conv=>whnf);first|with_reducible apply af<;>intro _|(refine (Gv (k:=8) h1 (by decide) (by decide)).use [0,1] rfl rfl ⟨⟨_,rfl,rfl⟩,ko,tU⟩ ?_;rintro _ _ ⟨x1,s2,G2,e1,h2,rfl,rfl⟩;refine ⟨[],?_⟩)|(refine (Gv (k:=8) h (by decide) (by decide)).use [0,1] rfl rfl ⟨⟨_,rfl,rfl⟩,ko,tU⟩ ?_;rintro _ _ ⟨x0,s1,G1,e0,h1,rfl,rfl⟩;refine ⟨[],?_⟩)|(refine (RA (a0:=x0) (a1:=x1) (T:=96) (U:=3) (P:=189) h2).use [0,1,3,4,5] rfl rfl ⟨⟨_,rfl,rfl⟩,ko,⟨_,rfl,rfl⟩,⟨_,rfl,rfl⟩,⟨_,rfl,rfl⟩,tU⟩ ?_;rintro _ _ ⟨x2,s3,x3,s4,x4,s5,G5,⟨e2,e3,e4⟩,h5,rfl,rfl⟩;refine ⟨[],?_⟩)|(refine (AF (a0:=x0) (a1:=x1) (a2:=(x2:Nat)) (a3:=(x3:Nat)) (a4:=0) (a5:=0) (a6:=0) (a7:=0) (a8:=true) (a9:=0) (h5.turn true)).use [0,1,3] rfl rfl ⟨⟨_,rfl,rfl⟩,ko,⟨_,rfl,rfl⟩,tU⟩ ?_;rintro _ _ ⟨x5,s6,x6,s7,x7,s8,x8,s9,G9,⟨e5,e6,e7,e8⟩,h9,rfl,rfl⟩;refine ⟨[],?_⟩)|(refine (AF (a0:=x0) (a1:=x1) (a2:=(x2:Nat)) (a3:=(x3:Nat)) (a4:=0) (a5:=0) (a6:=0) (a7:=0) (a8:=false) (a9:=0) (h5.turn true)).use [0,1,3] rfl rfl ⟨⟨_,rfl,rfl⟩,ko,⟨_,rfl,rfl⟩,tU⟩ ?_;rintro _ _ ⟨x5,s6,x6,s7,x7,s8,x8,s9,G9,⟨e5,e6,e7,e8⟩,h9,rfl,rfl⟩;refine ⟨[],?_⟩)|(refine (AF (a0:=x0) (a1:=x1) (a2:=(x2:Nat)) (a3:=(x3:Nat)) (a4:=0) (a5:=0) (a6:=0) (a7:=0) (a8:=true) (a9:=0) (h5.turn false)).use [0,1,3] rfl rfl ⟨⟨_,rfl,rfl⟩,ko,⟨_,rfl,rfl⟩,tU⟩ ?_;rintro _ _ ⟨x5,s6,x6,s7,x7,s8,x8,s9,G9,⟨e5,e6,e7,e8⟩,h9,rfl,rfl⟩;refine ⟨[],?_⟩)|(refine (AF (a0:=x0) (a1:=x1) (a2:=(x2:Nat)) (a3:=(x3:Nat)) (a4:=0) (a5:=0) (a6:=0) (a7:=0) (a8:=false) (a9:=0) (h5.turn false)).use [0,1,3] rfl rfl ⟨⟨_,rfl,rfl⟩,ko,⟨_,rfl,rfl⟩,tU⟩ ?_;rintro _ _ ⟨x5,s6,x6,s7,x7,s8,x8,s9,G9,⟨e5,e6,e7,e8⟩,h9,rfl,rfl⟩;refine ⟨[],?_⟩)|(refine (ov (k:=4) (j0:=9) (cs:=[uA x0,uA x1,iA (x2:Nat),iA (x3:Nat),iA (x5:Nat),iA (x6:Nat),iA (x7:Nat),iA (x8:Nat),.lit (.bool true),iA 0]) (T:=96) (P:=189) h9 (by decide) (by decide) (by simp) (fun _=>rfl)).use [0,1,3,6] rfl rfl ⟨⟨_,rfl,rfl⟩,ko,⟨_,rfl,rfl⟩,⟨_,rfl,rfl⟩,tU⟩ ?_;rintro _ _ ⟨x9,Ai,VV,e9,od,rfl,rfl⟩;refine ⟨[],?_⟩)|(refine (ov (k:=4) (j0:=9) (cs:=[uA x0,uA x1,iA (x2:Nat),iA (x3:Nat),iA (x5:Nat),iA (x6:Nat),iA (x7:Nat),iA (x8:Nat),.lit (.bool false),iA 0]) (T:=96) (P:=189) h9 (by decide) (by decide) (by simp) (fun _=>rfl)).use [0,1,3,6] rfl rfl ⟨⟨_,rfl,rfl⟩,ko,⟨_,rfl,rfl⟩,⟨_,rfl,rfl⟩,tU⟩ ?_;rintro _ _ ⟨x9,Ai,VV,e9,od,rfl,rfl⟩;refine ⟨[],?_⟩)|(show F _ _ _;subst hF;refine aI.az fun F hF=>?_)|(show F _ _ _;subst hF))
 all_goals (try conv=>whnf)
 all_goals (rename_i hv)
 ·rename_i hb;exact ⟨_,Ai,_,GN e0 e1 e2 e3 e4 e5 e6 e7 e8 e9 (by rw[hb];rfl) (Pc hv),od,rfl,rfl⟩
 ·rename_i hb;exact ⟨_,Ai,_,GN e0 e1 e2 e3 e4 e5 e6 e7 e8 e9 (by rw[hb];rfl) (Pc hv),od,rfl,rfl⟩
 all_goals
  rename_i hb hx
  exact ⟨_,Ai,_,GN e0 e1 e2 e3 e4 e5 e6 e7 e8 e9 (by rw[hb,gt1 hx];rfl) (Pc hv),od,rfl,rfl⟩
theorem aH.TM{k:Nat}{s s':aH}{x:Nat}(h:s.num k=(x,s'))(hb:s'.bad=false):s.bad=false/\s'.l=s.l.drop k/\k<=s.l.length/\x=jE (s.l.take k):=by
 unfold aH.num at h;split at h
 ·simp only[Prod.mk.injEq] at h;rw[<-h.2] at hb;cases hb
 ·unfold aH.gB aH.take at h;simp only[Prod.mk.injEq] at h;obtain ⟨h1,h2⟩:=h;split at h1
  ·rw[if_pos (by assumption)] at h2;subst h2;exact ⟨hb,rfl,by assumption,h1.symm⟩
  ·rw[if_neg (by assumption)] at h2;subst h2;cases hb
theorem aH.QH{k:Nat}{s s':aH}{x:Nat}(h:s.gB k=(x,s'))(hb:s'.bad=false):s.bad=false/\s'.l=s.l.drop k/\k<=s.l.length/\x=jE (s.l.take k):=by
 unfold aH.gB aH.take at h;simp only[Prod.mk.injEq] at h;obtain ⟨h1,h2⟩:=h;split at h1
 ·rw[if_pos (by assumption)] at h2;subst h2;exact ⟨hb,rfl,by assumption,h1.symm⟩
 ·rw[if_neg (by assumption)] at h2;subst h2;cases hb
theorem dG{k:Nat}{s:aH}(hb:(s.num k).2.bad=false):s.bad=false/\(s.num k).2.l.length+k=s.l.length:=by
 obtain ⟨h1,h2,h3,_⟩:=aH.TM (x:=(s.num k).1) (s':=(s.num k).2) rfl hb;rw[h2,List.length_drop];exact ⟨h1,by omega⟩
theorem Cc{k:Nat}{s:aH}(hb:(s.gB k).2.bad=false):s.bad=false/\(s.gB k).2.l.length+k=s.l.length:=by
 obtain ⟨h1,h2,h3,_⟩:=aH.QH (x:=(s.gB k).1) (s':=(s.gB k).2) rfl hb;rw[h2,List.length_drop];exact ⟨h1,by omega⟩
theorem L8{s:aH}(hb:s.se.2.bad=false):s.bad=false/\s.se.2.l.length+8=s.l.length:=by
 unfold aH.se at hb ⊢;simp only[] at hb ⊢;obtain ⟨b4,h4⟩:=dG hb;obtain ⟨b3,h3⟩:=dG b4;obtain ⟨b2,h2⟩:=dG b3;obtain ⟨b1,h1⟩:=dG b2;exact ⟨b1,by omega⟩
theorem MF{s:aH}(hb:s.rD.2.bad=false):s.bad=false/\s.rD.2.l.length+7=s.l.length:=by
 unfold aH.rD at hb ⊢;simp only[] at hb ⊢;obtain ⟨b4,h4⟩:=dG hb;obtain ⟨b3,h3⟩:=dG b4;obtain ⟨b2,h2⟩:=dG b3;obtain ⟨b1,h1⟩:=dG b2;exact ⟨b1,by omega⟩
theorem MW{s:aH}(hb:s.rJ.2.bad=false):s.bad=false/\s.rJ.2.l.length+11=s.l.length:=by
 unfold aH.rJ at hb ⊢;simp only[] at hb ⊢;obtain ⟨b6,h6⟩:=dG hb;obtain ⟨b5,h5⟩:=dG b6;obtain ⟨b4,h4⟩:=dG b5;obtain ⟨b3,h3⟩:=dG b4;obtain ⟨b2,h2⟩:=dG b3;obtain ⟨b1,h1⟩:=dG b2;exact ⟨b1,by omega⟩
theorem M1{s:aH}(hb:s.qG.2.bad=false):s.bad=false/\s.qG.2.l.length+31=s.l.length:=by
 unfold aH.qG at hb ⊢;simp only[] at hb ⊢;obtain ⟨Pb,od⟩:=dG hb;obtain ⟨b9,h9⟩:=dG Pb;obtain ⟨b8,h8⟩:=dG b9;obtain ⟨b7,h7⟩:=dG b8;obtain ⟨b6,h6⟩:=dG b7;simp only[Bool.or_eq_false_iff] at b6;obtain ⟨b5,h5⟩:=dG b6.1;obtain ⟨b4,h4⟩:=dG b5;obtain ⟨b3,h3⟩:=dG b4;obtain ⟨b2,h2⟩:=Cc b3;obtain ⟨b1,h1⟩:=Cc b2;simp only[] at h6;exact ⟨b1,by omega⟩
def bO{α:Type}(one:aH->α×aH):Nat->aH->List α->List α×aH
 | 0,s,acc=>(acc,s)
 | n+1,s,acc=>if (one s).2.bad then ([],(one s).2) else bO one n (one s).2 (acc++[(one s).1])
theorem Ev.bj.zero{R R':aC}{L:List aC}(h:∀w,R'.at_ w fun _=>False):bj (R::L) (R'::L):=fun w T ⟨_,S2,_,h2,_,hT⟩=>⟨S2,fun b hb=>(hT b).2 (.inr hb),fun _=>False,S2,h w,h2,fun _ h=>h.elim,fun b=>by simp⟩
def vV(s:df):List Value:=[iK s.id,iK s.x0,iK s.y0,iK s.x1,iK s.y1,iK s.label]
theorem CW(s:df):(vV s).length=6:=rfl
theorem LY:iO ev 25 78 6:=⟨⟨_,rfl,rfl⟩,_,_,rfl,rfl,rfl,rfl,by decide⟩
theorem LW:iO ev 52 96 10:=⟨⟨_,rfl,rfl⟩,_,_,rfl,rfl,rfl,rfl,by decide⟩
theorem MU:∀a:df,∀u∈vV a,u.oneCell'=true:=fun a u hu=>by
 simp only[vV,List.mem_cons,List.not_mem_nil,or_false] at hu;rcases hu with rfl|rfl|rfl|rfl|rfl|rfl<;>rfl
theorem ME:∀a:bW,∀u∈kX a,u.oneCell'=true:=fun a u hu=>by
 simp only[kX,List.mem_cons,List.not_mem_nil,or_false] at hu;rcases hu with rfl|rfl|rfl|rfl<;>rfl
theorem L7:∀a:fS,∀u∈qg a,u.oneCell'=true:=fun a u hu=>by
 simp only[qg,List.mem_cons,List.not_mem_nil,or_false] at hu;rcases hu with rfl|rfl|rfl|rfl<;>rfl
theorem JX:∀a:cy,∀u∈tC a,u.oneCell'=true:=fun a u hu=>by
 simp only[tC,List.mem_cons,List.not_mem_nil,or_false] at hu;rcases hu with rfl|rfl|rfl|rfl|rfl|rfl|rfl|rfl|rfl|rfl<;>rfl
structure SI(α:Type) where
 i:Nat
 v:Value
 xs:List α
 s:aH
theorem RX{R:aC}{s:aH}{n:Nat}(h:s.Ok R)(hl:s.l.length<=1000000000)(hn:n<=4611686018427387903) :
  CP [] 184 [.ptr 0 0,iA n,.func (.func 185) [.ptr 0 0] []] [c9 s,.res R,.res (aA tC 10 96 aD [])] (fun v H'=>∃xs s' v' ys G,bO aH.qG n s []=(xs,s')/\s'.Ok R/\((v=.lit v'/\ys=xs)\/(v=.lit aD/\xs=[]))/\cS v' ys/\H'=c9 s'::.res R::.res (aA tC 10 96 v' ys)::G):=by
 refine ag aa rfl ?_;conv=>whnf
 refine aV aa rfl (fun q:SI cy=>[(0,.ptr 0 0),(2,.func (.func 185) [.ptr 0 0] []),(9,iA n),(10,iA (q.i:Nat)),(7,.lit q.v)]) (fun q=>[c9 q.s,.res R,.res (aA tC 10 96 q.v q.xs)])
  (fun q=>q.i<=n/\q.s.Ok R/\cS q.v q.xs/\bO aH.qG n s []=bO aH.qG (n - q.i) q.s q.xs/\q.xs.length+q.s.l.length<=1000000000) (fun q=>n - q.i) ⟨0,aD,[],s⟩ ⟨Nat.zero_le _,h,.inl ⟨rfl,rfl⟩,rfl,by simpa using hl⟩ [0,1,2] ?_ ?_
 ·exact ⟨rfl,⟨rr,rr,rr,rr,rr,tU⟩,⟨⟨_,rfl,rfl⟩,ko,ko,tU⟩⟩
 ·rintro ⟨i,v,xs,s1⟩ ⟨g9,hs,hv,he,hlen⟩;simp only[] at g9 hs hv he hlen;by_cases hi:i<n
  ·have en:n - i=(n - (i+1))+1:=by omega
   rw[en,bO] at he;have kg:∀(b:Bool) (x:cy) (s':aH),s1.qG=(x,s')->s'.bad=b->(b=true->bO aH.qG n s []=([],s'))/\(b=false->bO aH.qG n s []=bO aH.qG (n - (i+1)) s' (xs++[x])/\(xs++[x]).length+s'.l.length<=1000000000):=fun b x s' e1 e2=>by
    rw[e1] at he;simp only[] at he;refine ⟨fun hb=>?_,fun hb=>?_⟩
    ·rw[he,e2,hb];rfl
    ·rw[e2,hb] at he;refine ⟨he,?_⟩;have:=(M1 (s:=s1) (by rw[e1];rw[e2,hb])).2;rw[e1] at this;simp only[] at this;rw[List.length_append,List.length_singleton];omega
   rcases hv with ⟨rfl,rfl⟩|⟨A,c,rfl⟩
   ·conv=>whnf
    refine af (fun _=>?_) (bT hi);have F9:([]:List cy).length=0:=rfl;repeat' ((conv=>whnf);first|with_reducible apply af<;>intro _|(refine (Jy hs).use [0,1] rfl rfl ⟨⟨_,rfl,rfl⟩,ko,tU⟩ ?_;rintro _ _ ⟨x,s',G,e1,gp,rfl,rfl⟩;refine ⟨[],?_⟩)|(refine dx.om (eH.iw aa LW xU (by decide) JX (i:=2) (y:=x) (l:=([]:List cy)) (v:=aD) (R1:=aB) (R':=fun v'=>aA tC 10 96 v' (([]:List cy)++[x])) rfl rfl rfl rfl rfl rfl rfl du (fun v'=>ee) (by omega) ?_);intro A2 m2))
    all_goals (try conv=>whnf)
    ·rename_i hb;exact ⟨[],s',aD,[],_,(kg _ x s' e1 hb).1 rfl,gp,.inr ⟨rfl,rfl⟩,.inl ⟨rfl,rfl⟩,rfl⟩
    ·rename_i hb;obtain ⟨k1,k2⟩:=(kg _ x s' e1 hb).2 rfl;exact ⟨⟨i+1,.slice (some A2) (([]:List cy).length+1) m2,[]++[x],s'⟩,[0,1,2],⟨⟨hi,gp,.inr ⟨A2,m2,by simp⟩,k1,k2⟩,by show n - (i+1)<n - i;omega⟩,rfl,⟨rr,rr,rr,⟨rfl,ax rfl (ak (by first|omega|(dsimp only;omega)) (by first|omega|(dsimp only;omega)))⟩,⟨rfl,rfl⟩,tU⟩,⟨⟨_,rfl,rfl⟩,ko,ko,tU⟩⟩
   ·conv=>whnf
    refine af (fun _=>?_) (bT hi);repeat' ((conv=>whnf);first|with_reducible apply af<;>intro _|(refine (Jy hs).use [0,1] rfl rfl ⟨⟨_,rfl,rfl⟩,ko,tU⟩ ?_;rintro _ _ ⟨x,s',G,e1,gp,rfl,rfl⟩;refine ⟨[],?_⟩)|(refine al.om (eH.iw aa LW xU (by decide) JX (i:=2) (y:=x) (l:=xs) (v:=(.slice (some A) xs.length c)) (R1:=aB) (R':=fun v'=>aA tC 10 96 v' (xs++[x])) rfl rfl rfl rfl rfl rfl rfl du (fun v'=>ee) (by omega) ?_);intro A2 m2))
    all_goals (try conv=>whnf)
    ·rename_i hb;exact ⟨[],s',.slice (some A) xs.length c,xs,_,(kg _ x s' e1 hb).1 rfl,gp,.inr ⟨rfl,rfl⟩,.inr ⟨A,c,rfl⟩,rfl⟩
    ·rename_i hb;obtain ⟨k1,k2⟩:=(kg _ x s' e1 hb).2 rfl;exact ⟨⟨i+1,.slice (some A2) (xs.length+1) m2,xs++[x],s'⟩,[0,1,2],⟨⟨hi,gp,.inr ⟨A2,m2,by simp⟩,k1,k2⟩,by show n - (i+1)<n - i;omega⟩,rfl,⟨rr,rr,rr,⟨rfl,ax rfl (ak (by first|omega|(dsimp only;omega)) (by first|omega|(dsimp only;omega)))⟩,⟨rfl,rfl⟩,tU⟩,⟨⟨_,rfl,rfl⟩,ko,ko,tU⟩⟩
  ·obtain rfl:i=n:=by omega
   rw[Nat.sub_self,bO] at he;rcases hv with ⟨rfl,rfl⟩|⟨A,c,rfl⟩;all_goals
    conv=>whnf
    refine af (cF hi) (fun _=>?_)
    repeat' ((conv=>whnf);with_reducible apply af<;>intro _)
    all_goals (try conv=>whnf)
   ·exact ⟨[],s1,aD,[],[],he,hs,.inl ⟨rfl,rfl⟩,.inl ⟨rfl,rfl⟩,rfl⟩
   ·exact ⟨xs,s1,.slice (some A) xs.length c,xs,[],he,hs,.inl ⟨rfl,rfl⟩,.inr ⟨A,c,rfl⟩,rfl⟩
theorem UJ{R:aC}{s:aH}{n:Nat}(h:s.Ok R)(hl:s.l.length<=1000000000)(hn:n<=4611686018427387903) :
  CP [] 184 [.ptr 0 0,iA n,.func (.func 185) [.ptr 0 0] []] [c9 s,.res R] (fun v H'=>∃xs s' v' G,bO aH.qG n s []=(xs,s')/\s'.Ok R/\cS v' xs/\v=.lit v'/\H'=c9 s'::.res R::.res (aA tC 10 96 v' xs)::G):=by
 refine aj.post (aj.pre (eg.more (R:=aA tC 10 96 aD []) rfl (bj.gO fw _)) (RX h hl hn)) ?_;rintro _ _ ⟨xs,s',v',ys,G,e1,gp,hv,hf,rfl⟩;rcases hv with ⟨rfl,rfl⟩|⟨rfl,rfl⟩
 ·exact ⟨_,eg.same rfl (.refl _),ys,s',v',G,e1,gp,hf,rfl,rfl⟩
 ·exact ⟨c9 s'::.res R::.res (aA tC 10 96 aD [])::G,eg.same rfl (.cons _ (.cons _ (.zero fw))),[],s',aD,G,e1,gp,.inl ⟨rfl,rfl⟩,rfl,rfl⟩
theorem RV{R:aC}{s:aH}{n:Nat}(h:s.Ok R)(hl:s.l.length<=1000000000)(hn:n<=4611686018427387903) :
  CP [] 105 [.ptr 0 0,iA n,.func (.func 106) [.ptr 0 0] []] [c9 s,.res R,.res (aA kX 4 72 aD [])] (fun v H'=>∃xs s' v' ys G,bO aH.rD n s []=(xs,s')/\s'.Ok R/\((v=.lit v'/\ys=xs)\/(v=.lit aD/\xs=[]))/\cS v' ys/\H'=c9 s'::.res R::.res (aA kX 4 72 v' ys)::G):=by
 refine ag aa rfl ?_;conv=>whnf
 refine aV aa rfl (fun q:SI bW=>[(0,.ptr 0 0),(2,.func (.func 106) [.ptr 0 0] []),(9,iA n),(10,iA (q.i:Nat)),(7,.lit q.v)]) (fun q=>[c9 q.s,.res R,.res (aA kX 4 72 q.v q.xs)])
  (fun q=>q.i<=n/\q.s.Ok R/\cS q.v q.xs/\bO aH.rD n s []=bO aH.rD (n - q.i) q.s q.xs/\q.xs.length+q.s.l.length<=1000000000) (fun q=>n - q.i) ⟨0,aD,[],s⟩ ⟨Nat.zero_le _,h,.inl ⟨rfl,rfl⟩,rfl,by simpa using hl⟩ [0,1,2] ?_ ?_
 ·exact ⟨rfl,⟨rr,rr,rr,rr,rr,tU⟩,⟨⟨_,rfl,rfl⟩,ko,ko,tU⟩⟩
 ·rintro ⟨i,v,xs,s1⟩ ⟨g9,hs,hv,he,hlen⟩;simp only[] at g9 hs hv he hlen;by_cases hi:i<n
  ·have en:n - i=(n - (i+1))+1:=by omega
   rw[en,bO] at he;have kg:∀(b:Bool) (x:bW) (s':aH),s1.rD=(x,s')->s'.bad=b->(b=true->bO aH.rD n s []=([],s'))/\(b=false->bO aH.rD n s []=bO aH.rD (n - (i+1)) s' (xs++[x])/\(xs++[x]).length+s'.l.length<=1000000000):=fun b x s' e1 e2=>by
    rw[e1] at he;simp only[] at he;refine ⟨fun hb=>?_,fun hb=>?_⟩
    ·rw[he,e2,hb];rfl
    ·rw[e2,hb] at he;refine ⟨he,?_⟩;have:=(MF (s:=s1) (by rw[e1];rw[e2,hb])).2;rw[e1] at this;simp only[] at this;rw[List.length_append,List.length_singleton];omega
   rcases hv with ⟨rfl,rfl⟩|⟨A,c,rfl⟩
   ·conv=>whnf
    refine af (fun _=>?_) (bT hi);have F9:([]:List bW).length=0:=rfl;repeat' ((conv=>whnf);first|with_reducible apply af<;>intro _|(refine (Jt hs).use [0,1] rfl rfl ⟨⟨_,rfl,rfl⟩,ko,tU⟩ ?_;rintro _ _ ⟨x,s',G,e1,gp,rfl,rfl⟩;refine ⟨[],?_⟩)|(refine dx.om (eH.iw aa At qA (by decide) ME (i:=2) (y:=x) (l:=([]:List bW)) (v:=aD) (R1:=aB) (R':=fun v'=>aA kX 4 72 v' (([]:List bW)++[x])) rfl rfl rfl rfl rfl rfl rfl du (fun v'=>ee) (by omega) ?_);intro A2 m2))
    all_goals (try conv=>whnf)
    ·rename_i hb;exact ⟨[],s',aD,[],_,(kg _ x s' e1 hb).1 rfl,gp,.inr ⟨rfl,rfl⟩,.inl ⟨rfl,rfl⟩,rfl⟩
    ·rename_i hb;obtain ⟨k1,k2⟩:=(kg _ x s' e1 hb).2 rfl;exact ⟨⟨i+1,.slice (some A2) (([]:List bW).length+1) m2,[]++[x],s'⟩,[0,1,2],⟨⟨hi,gp,.inr ⟨A2,m2,by simp⟩,k1,k2⟩,by show n - (i+1)<n - i;omega⟩,rfl,⟨rr,rr,rr,⟨rfl,ax rfl (ak (by first|omega|(dsimp only;omega)) (by first|omega|(dsimp only;omega)))⟩,⟨rfl,rfl⟩,tU⟩,⟨⟨_,rfl,rfl⟩,ko,ko,tU⟩⟩
   ·conv=>whnf
    refine af (fun _=>?_) (bT hi);repeat' ((conv=>whnf);first|with_reducible apply af<;>intro _|(refine (Jt hs).use [0,1] rfl rfl ⟨⟨_,rfl,rfl⟩,ko,tU⟩ ?_;rintro _ _ ⟨x,s',G,e1,gp,rfl,rfl⟩;refine ⟨[],?_⟩)|(refine al.om (eH.iw aa At qA (by decide) ME (i:=2) (y:=x) (l:=xs) (v:=(.slice (some A) xs.length c)) (R1:=aB) (R':=fun v'=>aA kX 4 72 v' (xs++[x])) rfl rfl rfl rfl rfl rfl rfl du (fun v'=>ee) (by omega) ?_);intro A2 m2))
    all_goals (try conv=>whnf)
    ·rename_i hb;exact ⟨[],s',.slice (some A) xs.length c,xs,_,(kg _ x s' e1 hb).1 rfl,gp,.inr ⟨rfl,rfl⟩,.inr ⟨A,c,rfl⟩,rfl⟩
    ·rename_i hb;obtain ⟨k1,k2⟩:=(kg _ x s' e1 hb).2 rfl;exact ⟨⟨i+1,.slice (some A2) (xs.length+1) m2,xs++[x],s'⟩,[0,1,2],⟨⟨hi,gp,.inr ⟨A2,m2,by simp⟩,k1,k2⟩,by show n - (i+1)<n - i;omega⟩,rfl,⟨rr,rr,rr,⟨rfl,ax rfl (ak (by first|omega|(dsimp only;omega)) (by first|omega|(dsimp only;omega)))⟩,⟨rfl,rfl⟩,tU⟩,⟨⟨_,rfl,rfl⟩,ko,ko,tU⟩⟩
  ·obtain rfl:i=n:=by omega
   rw[Nat.sub_self,bO] at he;rcases hv with ⟨rfl,rfl⟩|⟨A,c,rfl⟩;all_goals
    conv=>whnf
    refine af (cF hi) (fun _=>?_)
    repeat' ((conv=>whnf);with_reducible apply af<;>intro _)
    all_goals (try conv=>whnf)
   ·exact ⟨[],s1,aD,[],[],he,hs,.inl ⟨rfl,rfl⟩,.inl ⟨rfl,rfl⟩,rfl⟩
   ·exact ⟨xs,s1,.slice (some A) xs.length c,xs,[],he,hs,.inl ⟨rfl,rfl⟩,.inr ⟨A,c,rfl⟩,rfl⟩
theorem MN{R:aC}{s:aH}{n:Nat}(h:s.Ok R)(hl:s.l.length<=1000000000)(hn:n<=4611686018427387903) :
  CP [] 105 [.ptr 0 0,iA n,.func (.func 106) [.ptr 0 0] []] [c9 s,.res R] (fun v H'=>∃xs s' v' G,bO aH.rD n s []=(xs,s')/\s'.Ok R/\cS v' xs/\v=.lit v'/\H'=c9 s'::.res R::.res (aA kX 4 72 v' xs)::G):=by
 refine aj.post (aj.pre (eg.more (R:=aA kX 4 72 aD []) rfl (bj.gO fw _)) (RV h hl hn)) ?_;rintro _ _ ⟨xs,s',v',ys,G,e1,gp,hv,hf,rfl⟩;rcases hv with ⟨rfl,rfl⟩|⟨rfl,rfl⟩
 ·exact ⟨_,eg.same rfl (.refl _),ys,s',v',G,e1,gp,hf,rfl,rfl⟩
 ·exact ⟨c9 s'::.res R::.res (aA kX 4 72 aD [])::G,eg.same rfl (.cons _ (.cons _ (.zero fw))),[],s',aD,G,e1,gp,.inl ⟨rfl,rfl⟩,rfl,rfl⟩
theorem RW{R:aC}{s:aH}{n:Nat}(h:s.Ok R)(hl:s.l.length<=1000000000)(hn:n<=4611686018427387903) :
  CP [] 107 [.ptr 0 0,iA n,.func (.func 108) [.ptr 0 0] []] [c9 s,.res R,.res (aA vV 6 78 aD [])] (fun v H'=>∃xs s' v' ys G,bO aH.rJ n s []=(xs,s')/\s'.Ok R/\((v=.lit v'/\ys=xs)\/(v=.lit aD/\xs=[]))/\cS v' ys/\H'=c9 s'::.res R::.res (aA vV 6 78 v' ys)::G):=by
 refine ag aa rfl ?_;conv=>whnf
 refine aV aa rfl (fun q:SI df=>[(0,.ptr 0 0),(2,.func (.func 108) [.ptr 0 0] []),(9,iA n),(10,iA (q.i:Nat)),(7,.lit q.v)]) (fun q=>[c9 q.s,.res R,.res (aA vV 6 78 q.v q.xs)])
  (fun q=>q.i<=n/\q.s.Ok R/\cS q.v q.xs/\bO aH.rJ n s []=bO aH.rJ (n - q.i) q.s q.xs/\q.xs.length+q.s.l.length<=1000000000) (fun q=>n - q.i) ⟨0,aD,[],s⟩ ⟨Nat.zero_le _,h,.inl ⟨rfl,rfl⟩,rfl,by simpa using hl⟩ [0,1,2] ?_ ?_
 ·exact ⟨rfl,⟨rr,rr,rr,rr,rr,tU⟩,⟨⟨_,rfl,rfl⟩,ko,ko,tU⟩⟩
 ·rintro ⟨i,v,xs,s1⟩ ⟨g9,hs,hv,he,hlen⟩;simp only[] at g9 hs hv he hlen;by_cases hi:i<n
  ·have en:n - i=(n - (i+1))+1:=by omega
   rw[en,bO] at he;have kg:∀(b:Bool) (x:df) (s':aH),s1.rJ=(x,s')->s'.bad=b->(b=true->bO aH.rJ n s []=([],s'))/\(b=false->bO aH.rJ n s []=bO aH.rJ (n - (i+1)) s' (xs++[x])/\(xs++[x]).length+s'.l.length<=1000000000):=fun b x s' e1 e2=>by
    rw[e1] at he;simp only[] at he;refine ⟨fun hb=>?_,fun hb=>?_⟩
    ·rw[he,e2,hb];rfl
    ·rw[e2,hb] at he;refine ⟨he,?_⟩;have:=(MW (s:=s1) (by rw[e1];rw[e2,hb])).2;rw[e1] at this;simp only[] at this;rw[List.length_append,List.length_singleton];omega
   rcases hv with ⟨rfl,rfl⟩|⟨A,c,rfl⟩
   ·conv=>whnf
    refine af (fun _=>?_) (bT hi);have F9:([]:List df).length=0:=rfl;repeat' ((conv=>whnf);first|with_reducible apply af<;>intro _|(refine (ML hs).use [0,1] rfl rfl ⟨⟨_,rfl,rfl⟩,ko,tU⟩ ?_;rintro _ _ ⟨x,s',G,e1,gp,rfl,rfl⟩;refine ⟨[],?_⟩)|(refine dx.om (eH.iw aa LY CW (by decide) MU (i:=2) (y:=x) (l:=([]:List df)) (v:=aD) (R1:=aB) (R':=fun v'=>aA vV 6 78 v' (([]:List df)++[x])) rfl rfl rfl rfl rfl rfl rfl du (fun v'=>ee) (by omega) ?_);intro A2 m2))
    all_goals (try conv=>whnf)
    ·rename_i hb;exact ⟨[],s',aD,[],_,(kg _ x s' e1 hb).1 rfl,gp,.inr ⟨rfl,rfl⟩,.inl ⟨rfl,rfl⟩,rfl⟩
    ·rename_i hb;obtain ⟨k1,k2⟩:=(kg _ x s' e1 hb).2 rfl;exact ⟨⟨i+1,.slice (some A2) (([]:List df).length+1) m2,[]++[x],s'⟩,[0,1,2],⟨⟨hi,gp,.inr ⟨A2,m2,by simp⟩,k1,k2⟩,by show n - (i+1)<n - i;omega⟩,rfl,⟨rr,rr,rr,⟨rfl,ax rfl (ak (by first|omega|(dsimp only;omega)) (by first|omega|(dsimp only;omega)))⟩,⟨rfl,rfl⟩,tU⟩,⟨⟨_,rfl,rfl⟩,ko,ko,tU⟩⟩
   ·conv=>whnf
    refine af (fun _=>?_) (bT hi);repeat' ((conv=>whnf);first|with_reducible apply af<;>intro _|(refine (ML hs).use [0,1] rfl rfl ⟨⟨_,rfl,rfl⟩,ko,tU⟩ ?_;rintro _ _ ⟨x,s',G,e1,gp,rfl,rfl⟩;refine ⟨[],?_⟩)|(refine al.om (eH.iw aa LY CW (by decide) MU (i:=2) (y:=x) (l:=xs) (v:=(.slice (some A) xs.length c)) (R1:=aB) (R':=fun v'=>aA vV 6 78 v' (xs++[x])) rfl rfl rfl rfl rfl rfl rfl du (fun v'=>ee) (by omega) ?_);intro A2 m2))
    all_goals (try conv=>whnf)
    ·rename_i hb;exact ⟨[],s',.slice (some A) xs.length c,xs,_,(kg _ x s' e1 hb).1 rfl,gp,.inr ⟨rfl,rfl⟩,.inr ⟨A,c,rfl⟩,rfl⟩
    ·rename_i hb;obtain ⟨k1,k2⟩:=(kg _ x s' e1 hb).2 rfl;exact ⟨⟨i+1,.slice (some A2) (xs.length+1) m2,xs++[x],s'⟩,[0,1,2],⟨⟨hi,gp,.inr ⟨A2,m2,by simp⟩,k1,k2⟩,by show n - (i+1)<n - i;omega⟩,rfl,⟨rr,rr,rr,⟨rfl,ax rfl (ak (by first|omega|(dsimp only;omega)) (by first|omega|(dsimp only;omega)))⟩,⟨rfl,rfl⟩,tU⟩,⟨⟨_,rfl,rfl⟩,ko,ko,tU⟩⟩
  ·obtain rfl:i=n:=by omega
   rw[Nat.sub_self,bO] at he;rcases hv with ⟨rfl,rfl⟩|⟨A,c,rfl⟩;all_goals
    conv=>whnf
    refine af (cF hi) (fun _=>?_)
    repeat' ((conv=>whnf);with_reducible apply af<;>intro _)
    all_goals (try conv=>whnf)
   ·exact ⟨[],s1,aD,[],[],he,hs,.inl ⟨rfl,rfl⟩,.inl ⟨rfl,rfl⟩,rfl⟩
   ·exact ⟨xs,s1,.slice (some A) xs.length c,xs,[],he,hs,.inl ⟨rfl,rfl⟩,.inr ⟨A,c,rfl⟩,rfl⟩
theorem MO{R:aC}{s:aH}{n:Nat}(h:s.Ok R)(hl:s.l.length<=1000000000)(hn:n<=4611686018427387903) :
  CP [] 107 [.ptr 0 0,iA n,.func (.func 108) [.ptr 0 0] []] [c9 s,.res R] (fun v H'=>∃xs s' v' G,bO aH.rJ n s []=(xs,s')/\s'.Ok R/\cS v' xs/\v=.lit v'/\H'=c9 s'::.res R::.res (aA vV 6 78 v' xs)::G):=by
 refine aj.post (aj.pre (eg.more (R:=aA vV 6 78 aD []) rfl (bj.gO fw _)) (RW h hl hn)) ?_;rintro _ _ ⟨xs,s',v',ys,G,e1,gp,hv,hf,rfl⟩;rcases hv with ⟨rfl,rfl⟩|⟨rfl,rfl⟩
 ·exact ⟨_,eg.same rfl (.refl _),ys,s',v',G,e1,gp,hf,rfl,rfl⟩
 ·exact ⟨c9 s'::.res R::.res (aA vV 6 78 aD [])::G,eg.same rfl (.cons _ (.cons _ (.zero fw))),[],s',aD,G,e1,gp,.inl ⟨rfl,rfl⟩,rfl,rfl⟩
theorem RU{R:aC}{s:aH}{n:Nat}(h:s.Ok R)(hl:s.l.length<=1000000000)(hn:n<=4611686018427387903) :
  CP [] 110 [.ptr 0 0,iA n,.func (.func 111) [.ptr 0 0] []] [c9 s,.res R,.res (aA qg 4 81 aD [])] (fun v H'=>∃xs s' v' ys G,bO aH.se n s []=(xs,s')/\s'.Ok R/\((v=.lit v'/\ys=xs)\/(v=.lit aD/\xs=[]))/\cS v' ys/\H'=c9 s'::.res R::.res (aA qg 4 81 v' ys)::G):=by
 refine ag aa rfl ?_;conv=>whnf
 refine aV aa rfl (fun q:SI fS=>[(0,.ptr 0 0),(2,.func (.func 111) [.ptr 0 0] []),(9,iA n),(10,iA (q.i:Nat)),(7,.lit q.v)]) (fun q=>[c9 q.s,.res R,.res (aA qg 4 81 q.v q.xs)])
  (fun q=>q.i<=n/\q.s.Ok R/\cS q.v q.xs/\bO aH.se n s []=bO aH.se (n - q.i) q.s q.xs/\q.xs.length+q.s.l.length<=1000000000) (fun q=>n - q.i) ⟨0,aD,[],s⟩ ⟨Nat.zero_le _,h,.inl ⟨rfl,rfl⟩,rfl,by simpa using hl⟩ [0,1,2] ?_ ?_
 ·exact ⟨rfl,⟨rr,rr,rr,rr,rr,tU⟩,⟨⟨_,rfl,rfl⟩,ko,ko,tU⟩⟩
 ·rintro ⟨i,v,xs,s1⟩ ⟨g9,hs,hv,he,hlen⟩;simp only[] at g9 hs hv he hlen;by_cases hi:i<n
  ·have en:n - i=(n - (i+1))+1:=by omega
   rw[en,bO] at he;have kg:∀(b:Bool) (x:fS) (s':aH),s1.se=(x,s')->s'.bad=b->(b=true->bO aH.se n s []=([],s'))/\(b=false->bO aH.se n s []=bO aH.se (n - (i+1)) s' (xs++[x])/\(xs++[x]).length+s'.l.length<=1000000000):=fun b x s' e1 e2=>by
    rw[e1] at he;simp only[] at he;refine ⟨fun hb=>?_,fun hb=>?_⟩
    ·rw[he,e2,hb];rfl
    ·rw[e2,hb] at he;refine ⟨he,?_⟩;have:=(L8 (s:=s1) (by rw[e1];rw[e2,hb])).2;rw[e1] at this;simp only[] at this;rw[List.length_append,List.length_singleton];omega
   rcases hv with ⟨rfl,rfl⟩|⟨A,c,rfl⟩
   ·conv=>whnf
    refine af (fun _=>?_) (bT hi);have F9:([]:List fS).length=0:=rfl;repeat' ((conv=>whnf);first|with_reducible apply af<;>intro _|(refine (MH hs).use [0,1] rfl rfl ⟨⟨_,rfl,rfl⟩,ko,tU⟩ ?_;rintro _ _ ⟨x,s',G,e1,gp,rfl,rfl⟩;refine ⟨[],?_⟩)|(refine dx.om (eH.iw aa As wS (by decide) L7 (i:=2) (y:=x) (l:=([]:List fS)) (v:=aD) (R1:=aB) (R':=fun v'=>aA qg 4 81 v' (([]:List fS)++[x])) rfl rfl rfl rfl rfl rfl rfl du (fun v'=>ee) (by omega) ?_);intro A2 m2))
    all_goals (try conv=>whnf)
    ·rename_i hb;exact ⟨[],s',aD,[],_,(kg _ x s' e1 hb).1 rfl,gp,.inr ⟨rfl,rfl⟩,.inl ⟨rfl,rfl⟩,rfl⟩
    ·rename_i hb;obtain ⟨k1,k2⟩:=(kg _ x s' e1 hb).2 rfl;exact ⟨⟨i+1,.slice (some A2) (([]:List fS).length+1) m2,[]++[x],s'⟩,[0,1,2],⟨⟨hi,gp,.inr ⟨A2,m2,by simp⟩,k1,k2⟩,by show n - (i+1)<n - i;omega⟩,rfl,⟨rr,rr,rr,⟨rfl,ax rfl (ak (by first|omega|(dsimp only;omega)) (by first|omega|(dsimp only;omega)))⟩,⟨rfl,rfl⟩,tU⟩,⟨⟨_,rfl,rfl⟩,ko,ko,tU⟩⟩
   ·conv=>whnf
    refine af (fun _=>?_) (bT hi);repeat' ((conv=>whnf);first|with_reducible apply af<;>intro _|(refine (MH hs).use [0,1] rfl rfl ⟨⟨_,rfl,rfl⟩,ko,tU⟩ ?_;rintro _ _ ⟨x,s',G,e1,gp,rfl,rfl⟩;refine ⟨[],?_⟩)|(refine al.om (eH.iw aa As wS (by decide) L7 (i:=2) (y:=x) (l:=xs) (v:=(.slice (some A) xs.length c)) (R1:=aB) (R':=fun v'=>aA qg 4 81 v' (xs++[x])) rfl rfl rfl rfl rfl rfl rfl du (fun v'=>ee) (by omega) ?_);intro A2 m2))
    all_goals (try conv=>whnf)
    ·rename_i hb;exact ⟨[],s',.slice (some A) xs.length c,xs,_,(kg _ x s' e1 hb).1 rfl,gp,.inr ⟨rfl,rfl⟩,.inr ⟨A,c,rfl⟩,rfl⟩
    ·rename_i hb;obtain ⟨k1,k2⟩:=(kg _ x s' e1 hb).2 rfl;exact ⟨⟨i+1,.slice (some A2) (xs.length+1) m2,xs++[x],s'⟩,[0,1,2],⟨⟨hi,gp,.inr ⟨A2,m2,by simp⟩,k1,k2⟩,by show n - (i+1)<n - i;omega⟩,rfl,⟨rr,rr,rr,⟨rfl,ax rfl (ak (by first|omega|(dsimp only;omega)) (by first|omega|(dsimp only;omega)))⟩,⟨rfl,rfl⟩,tU⟩,⟨⟨_,rfl,rfl⟩,ko,ko,tU⟩⟩
  ·obtain rfl:i=n:=by omega
   rw[Nat.sub_self,bO] at he;rcases hv with ⟨rfl,rfl⟩|⟨A,c,rfl⟩;all_goals
    conv=>whnf
    refine af (cF hi) (fun _=>?_)
    repeat' ((conv=>whnf);with_reducible apply af<;>intro _)
    all_goals (try conv=>whnf)
   ·exact ⟨[],s1,aD,[],[],he,hs,.inl ⟨rfl,rfl⟩,.inl ⟨rfl,rfl⟩,rfl⟩
   ·exact ⟨xs,s1,.slice (some A) xs.length c,xs,[],he,hs,.inl ⟨rfl,rfl⟩,.inr ⟨A,c,rfl⟩,rfl⟩
theorem MM{R:aC}{s:aH}{n:Nat}(h:s.Ok R)(hl:s.l.length<=1000000000)(hn:n<=4611686018427387903) :
  CP [] 110 [.ptr 0 0,iA n,.func (.func 111) [.ptr 0 0] []] [c9 s,.res R] (fun v H'=>∃xs s' v' G,bO aH.se n s []=(xs,s')/\s'.Ok R/\cS v' xs/\v=.lit v'/\H'=c9 s'::.res R::.res (aA qg 4 81 v' xs)::G):=by
 refine aj.post (aj.pre (eg.more (R:=aA qg 4 81 aD []) rfl (bj.gO fw _)) (RU h hl hn)) ?_;rintro _ _ ⟨xs,s',v',ys,G,e1,gp,hv,hf,rfl⟩;rcases hv with ⟨rfl,rfl⟩|⟨rfl,rfl⟩
 ·exact ⟨_,eg.same rfl (.refl _),ys,s',v',G,e1,gp,hf,rfl,rfl⟩
 ·exact ⟨c9 s'::.res R::.res (aA qg 4 81 aD [])::G,eg.same rfl (.cons _ (.cons _ (.zero fw))),[],s',aD,G,e1,gp,.inl ⟨rfl,rfl⟩,rfl,rfl⟩
theorem gD{k:Nat}{s s':aH}{x:Nat}(h:s.num k=(x,s')):s'.l.length<=s.l.length:=by
 have e:s'=(s.num k).2:=by rw[h]
 subst e;unfold aH.num;split;all_goals
  unfold aH.gB aH.take
  simp only[]
  split
  ·simp only[List.length_drop];omega
  ·simp
theorem Ml{k:Nat}{s s':aH}{x:Nat}(h:s.gB k=(x,s')):s'.l.length<=s.l.length:=by
 have e:s'=(s.gB k).2:=by rw[h]
 subst e;unfold aH.gB aH.take;simp only[];split
 ·simp only[List.length_drop];omega
 ·simp
theorem tH{k:Nat}{s s':aH}{x:Nat}(h:s.num k=(x,s')):x<=4611686018427387903:=by
 have e:x=(s.num k).1:=by rw[h]
 rw[e];exact aH.lb k s
theorem iL{α:Type}{v:Value}{l:List α}(h:cS v l):∃oa c,v=.slice oa l.length c:=by
 rcases h with ⟨rfl,rfl⟩|⟨A,n,rfl⟩
 ·exact ⟨none,0,rfl⟩
 ·exact ⟨_,_,rfl⟩
def aH.mem(s:aH):(Mem×List cy)×aH:=
 let u:=s.num 2
 let r:=u.2.num 1
 let t:=r.2.num 1
 let q:=t.2.num 2
 let k:=q.2.num 2
 let a:=k.2.gB 8
 let n:=a.2.num 1
 let ts:=bO aH.qG n.1 n.2 []
 ((⟨u.1,r.1,t.1,q.1,k.1,a.1⟩,ts.1),ts.2)
theorem RC{R:aC}{s:aH}(h:s.Ok R)(hl:s.l.length<=1000000000):CP [] 104 [.ptr 0 0] [c9 s,.res R] (fun v H'=>∃m ts s' v' G1 G2 G3 G4 G5 G,s.mem=((m,ts),s')/\s'.Ok R/\cS v' ts/\v=.tuple [.agg (mA m),.lit v']/\H'=c9 s'::.res R::G1::G2::G3::G4::G5::.res (aA tC 10 96 v' ts)::G):=by
 refine ag aa rfl ?_;refine eX.of rfl rfl ?_;refine aI.az fun F hF=>?_;repeat' ((conv=>whnf);first|with_reducible apply af<;>intro _|refine aM.drawn aa rfl rfl ?_|with_reducible refine And.intro (aN.mk ⟨_,rfl,rfl⟩) ?_|(refine (ov (k:=2) (j0:=0) (cs:=[iA 0,iA 0,iA 0,iA 0,iA 0,uA 0]) (T:=51) (P:=189) h (by decide) (by decide) (by simp) (fun _=>rfl)).use [0,1,3,4] rfl rfl ⟨⟨_,rfl,rfl⟩,ko,⟨_,rfl,rfl⟩,⟨_,rfl,rfl⟩,tU⟩ ?_;rintro _ _ ⟨x0,s1,G1,e0,h1,rfl,rfl⟩;refine ⟨[],?_⟩)|(refine (Gt (k:=1) (j0:=1) (j1:=2) (cs:=[iA (x0:Nat),iA 0,iA 0,iA 0,iA 0,uA 0]) (T:=51) (P:=189) h1 (by decide) (by decide) (by simp) (by simp) (fun _=>rfl)).use [0,1,3,5] rfl rfl ⟨⟨_,rfl,rfl⟩,ko,⟨_,rfl,rfl⟩,⟨_,rfl,rfl⟩,tU⟩ ?_;rintro _ _ ⟨x1,s2,x2,s3,G3,⟨e1,e2⟩,h3,rfl,rfl⟩;refine ⟨[],?_⟩)|(refine (Gt (k:=2) (j0:=3) (j1:=4) (cs:=[iA (x0:Nat),iA (x1:Nat),iA (x2:Nat),iA 0,iA 0,uA 0]) (T:=51) (P:=189) h3 (by decide) (by decide) (by simp) (by simp) (fun _=>rfl)).use [0,1,3,6] rfl rfl ⟨⟨_,rfl,rfl⟩,ko,⟨_,rfl,rfl⟩,⟨_,rfl,rfl⟩,tU⟩ ?_;rintro _ _ ⟨x3,s4,x4,s5,G5,⟨e3,e4⟩,h5,rfl,rfl⟩;refine ⟨[],?_⟩)|(refine (Gv (k:=8) h5 (by decide) (by decide)).use [0,1] rfl rfl ⟨⟨_,rfl,rfl⟩,ko,tU⟩ ?_;rintro _ _ ⟨x5,s6,G6,e5,h6,rfl,rfl⟩;refine ⟨[],?_⟩)|(refine (mS (k:=1) h6 (by decide) (by decide)).use [0,1] rfl rfl ⟨⟨_,rfl,rfl⟩,ko,tU⟩ ?_;rintro _ _ ⟨x6,s7,G7,e6,h7,rfl,rfl⟩;refine ⟨[],?_⟩)|(refine (UJ (n:=x6) h7 (by have:=gD e0;have:=gD e1;have:=gD e2;have:=gD e3;have:=gD e4;have:=Ml e5;have:=gD e6;omega) (tH e6)).use [0,1] rfl rfl ⟨⟨_,rfl,rfl⟩,ko,tU⟩ ?_;rintro _ _ ⟨ts,s8,v',G8,e7,h8,hv,rfl,rfl⟩;refine ⟨[2],?_⟩;obtain ⟨oa,c,rfl⟩:=iL hv)|refine aM.drawn aa rfl rfl ?_|(show F _ _ _;subst hF;refine aI.az fun F hF=>?_)|(show F _ _ _;subst hF))
 all_goals (try conv=>whnf)
 exact ⟨⟨x0,x1,x2,x3,x4,x5⟩,ts,s8,_,_,_,_,_,_,[],by simp only[aH.mem,e0,e1,e2,e3,e4,e5,e6,e7],h8,hv,rfl,rfl⟩

/- Part of the proof: PolR3 PolR4. Conditions: as each states. -/
import Derived.Test.YtmbdghclhpboaaaGreatPb30
set_option linter.all false
set_option maxRecDepth 100000
set_option maxHeartbeats 8000000
namespace Go.Proofs.YtmbdghclhpboaaaGreat
open Go.RowKit
def bxC(b:Bx):List Value:=[.int .i64 (b.x0:Int),.int .i64 (b.y0:Int),.int .i64 (b.x1:Int),.int .i64 (b.y1:Int)]
abbrev bxA(b:Bx):Value:=.agg #[.int .i64 (b.x0:Int),.int .i64 (b.y0:Int),.int .i64 (b.x1:Int),.int .i64 (b.y1:Int)]
theorem bx_enc:EncOk bxC 4:=⟨fun _=>rfl,fun t u h=>by
 simp only[bxC,List.mem_cons,List.not_mem_nil,or_false] at h
 rcases h with rfl|rfl|rfl|rfl<;>rfl⟩
theorem bx_elem:ElemOk Tryz.prog 171 76 4 32:=⟨Tryz.underlying171,by
 have h:(Tryz.prog.info? 76).map (fun i=>(i.zero,i.size,i.bytes))=some (some (.agg #[.int .i64 0,.int .i64 0,.int .i64 0,.int .i64 0]),4,32):=by kernel_rfl
 obtain ⟨i,hi,h1,h2,h3⟩:=info_parts h
 exact ⟨i,_,hi,h1,h2,h3,rfl⟩,by omega⟩
theorem four{w:World}{g:Nat}{T:TypeId}{a0 a1 a2 a3:Value}(h:Blk w g T #[a0,a1,a2,a3]) :
  (w.cell? ⟨g,0,none⟩=some a0∧w.cell? ⟨g,1,none⟩=some a1∧w.cell? ⟨g,2,none⟩=some a2∧w.cell? ⟨g,3,none⟩=some a3)∧(w.frozen? ⟨g,0,none⟩=false∧w.frozen? ⟨g,1,none⟩=false∧w.frozen? ⟨g,2,none⟩=false∧w.frozen? ⟨g,3,none⟩=false):=
 ⟨⟨h.is 0 rfl,h.is 1 rfl,h.is 2 rfl,h.is 3 rfl⟩,h.frozen 0,h.frozen 1,h.frozen 2,h.frozen 3⟩
def put4(w:World)(g:Nat)(b0 b1 b2 b3:Value):World:=(((w.setCell ⟨g,0,none⟩ b0).setCell ⟨g,1,none⟩ b1).setCell ⟨g,2,none⟩ b2).setCell ⟨g,3,none⟩ b3
theorem four_put{w:World}{g:Nat}{T:TypeId}{a0 a1 a2 a3:Value}(h:Blk w g T #[a0,a1,a2,a3])(b0 b1 b2 b3:Value):Blk (put4 w g b0 b1 b2 b3) g T #[b0,b1,b2,b3]:=by
 have h1:=(((h.put 0 b0).put 1 b1).put 2 b2).put 3 b3
 simp only[List.setIfInBounds_toArray,List.set_cons_succ,List.set_cons_zero] at h1
 exact h1
theorem gr_four{w w':World}{row:Option Nat}(h:w.grownBy w' row){r:Nat}(hr:w.heap.size≤r)(b0 b1 b2 b3:Value):w.grownBy (put4 w' r b0 b1 b2 b3) row:=
 gr_put (gr_put (gr_put (gr_put h hr 0 b0) hr 1 b1) hr 2 b2) hr 3 b3
theorem PrB.far4{w:World}{g:Nat}{L:List Tk}{e:Nat×Nat}{p:Pr}(h:PrB w g L e p){d:Nat}(hd:g<d)(b0 b1 b2 b3:Value):PrB (put4 w d b0 b1 b2 b3) g L e p:=(((h.far hd 0 b0).far hd 1 b1).far hd 2 b2).far hd 3 b3
def bxStep(e:Nat×Nat)(p:Pr):Nat→List Nat×Pr
 | 0=>([],p)
 | k+1=>((bxStep e p k).1++[(pNum e (bxStep e p k).2).1],(pNum e (bxStep e p k).2).2)
theorem bx_four(e:Nat×Nat)(p:Pr):∃a b c d q,(bxStep e p 1).1=[a]∧(bxStep e p 2).1=[a,b]∧(bxStep e p 3).1=[a,b,c]∧(bxStep e p 4)=([a,b,c,d],q)∧pBox e p=(⟨a,b,c,d⟩,q):=⟨_,_,_,_,_,rfl,rfl,rfl,rfl,rfl⟩
theorem pbox_ok(w:World)(g:Nat)(L:List Tk)(e:Nat×Nat)(p:Pr)(h:PrB w g L e p)(hL:L.length≤1000000) :
  Calls Tryz.prog 478 #[.pointer (some ⟨g,0,none⟩)] w (PrPost w g L e (bxA (pBox e p).1) (pBox e p).2):=by
 obtain ⟨a,b,c,d,q,h1,h2,h3,h4,hbx⟩:=bx_four e p
 rw[hbx]
 obtain ⟨w0,hst⟩:∃w0,w.alloc (.cells #[.int .i64 0,.int .i64 0,.int .i64 0,.int .i64 0] 76)=w0:=⟨_,rfl⟩
 obtain ⟨w1,hst1⟩:∃w1,w0.alloc (.cells #[.int .i64 0,.int .i64 0,.int .i64 0,.int .i64 0] 424)=w1:=⟨_,rfl⟩
 have hgl:=h.lt
 have hb0:Blk w0 w.heap.size 76 #[.int .i64 0,.int .i64 0,.int .i64 0,.int .i64 0]:=by rw[←hst];exact Blk.new _ _ _
 have hb1:Blk w1 w.heap.size 76 #[.int .i64 0,.int .i64 0,.int .i64 0,.int .i64 0]:=by rw[←hst1];exact hb0.alloc _
 have hn1:Blk w1 w0.heap.size 424 #[.int .i64 0,.int .i64 0,.int .i64 0,.int .i64 0]:=by rw[←hst1];exact Blk.new _ _ _
 have hg1:w.grownBy w1 (some g):=by rw[←hst1,←hst];exact lx_to (gr_alloc _ _ _) (gr_alloc _ _ _)
 have hp1:PrB w1 g L e p:=by
  have:=h.below (w':=w0) (by rw[←hst];exact (Below.refl _ w).alloc (Nat.le_refl _) _)
  exact this.below (by rw[←hst1];exact (Below.refl _ w0).alloc (Nat.le_refl _) _)
 have HNE:=Lib.hid (show w.heap.size<w0.heap.size from hb0.lt)
 have HB1:=Lib.hid hb1
 have HN1:=Lib.hid hn1
 have HG1:=Lib.hid hg1
 have HP1:=Lib.hid hp1
 have HGL:=Lib.hid hgl
 have HLL:=Lib.hid hL
 have HS1:=Lib.hid (show bxStep e p 1=([a],(bxStep e p 1).2) by rw[←h1])
 have HS2:=Lib.hid (show bxStep e p 2=([a,b],(bxStep e p 2).2) by rw[←h2])
 have HS3:=Lib.hid (show bxStep e p 3=([a,b,c],(bxStep e p 3).2) by rw[←h3])
 have HS4:=Lib.hid h4
 have HE1:=Lib.hid (show (pNum e p).1=a∧(pNum e p).2=(bxStep e p 1).2 by have:=h1;simp[bxStep] at this;exact ⟨this,rfl⟩)
 have HE2:=Lib.hid (show (pNum e (bxStep e p 1).2).1=b∧(pNum e (bxStep e p 1).2).2=(bxStep e p 2).2 by have:=h2;simp[bxStep] at this ⊢;exact this.2)
 have HE3:=Lib.hid (show (pNum e (bxStep e p 2).2).1=c∧(pNum e (bxStep e p 2).2).2=(bxStep e p 3).2 by have:=h3;simp[bxStep] at this ⊢;exact this.2.2)
 have HE4:=Lib.hid (show (pNum e (bxStep e p 3).2).1=d∧(pNum e (bxStep e p 3).2).2=q by have:=h4;simp[bxStep] at this ⊢;exact ⟨this.1.2.2.2,this.2⟩)
 clear h hb0 hb1 hn1 hg1 hp1 hgl hL h1 h2 h3 h4 hbx HS1 HS2 HS3 HS4
 generalize (bxStep e p 1).2=p1 at *
 generalize (bxStep e p 2).2=p2 at *
 generalize (bxStep e p 3).2=p3 at *
 go_enter Tryz.func478,Tryz.ntmps478
 go_wp2_with fail
 go_loopw [5] (fun iv wr=>(iv=.int .i64 0∧Hid (PrB wr g L e p)∧Hid (Blk wr w0.heap.size 424 #[.int .i64 0,.int .i64 0,.int .i64 0,.int .i64 0])∨iv=.int .i64 1∧Hid (PrB wr g L e p1)∧Hid (Blk wr w0.heap.size 424 #[.int .i64 (a:Int),.int .i64 0,.int .i64 0,.int .i64 0])∨iv=.int .i64 2∧Hid (PrB wr g L e p2)∧Hid (Blk wr w0.heap.size 424 #[.int .i64 (a:Int),.int .i64 (b:Int),.int .i64 0,.int .i64 0])∨iv=.int .i64 3∧Hid (PrB wr g L e p3)∧Hid (Blk wr w0.heap.size 424 #[.int .i64 (a:Int),.int .i64 (b:Int),.int .i64 (c:Int),.int .i64 0])∨iv=.int .i64 4∧Hid (PrB wr g L e q)∧Hid (Blk wr w0.heap.size 424 #[.int .i64 (a:Int),.int .i64 (b:Int),.int .i64 (c:Int),.int .i64 (d:Int)]))∧Hid (Blk wr w.heap.size 76 #[.int .i64 0,.int .i64 0,.int .i64 0,.int .i64 0])∧Hid (w.grownBy wr (some g))) (fun iv _=>4 - (intOf iv).toNat)
 case atStart=>exact ⟨.inl ⟨rfl,HP1,HN1⟩,HB1,HG1⟩
 case round=>
  obtain ⟨hrel,HR,HG⟩:=hrel
  rcases hrel with ⟨rfl,HP,HN⟩|⟨rfl,HP,HN⟩|⟨rfl,HP,HN⟩|⟨rfl,HP,HN⟩|⟨rfl,HP,HN⟩
  ·have NN:=pnum_ok wr g L e p HP.out HLL.out
   rw[HE1.out.1,HE1.out.2] at NN
   have HNN:=Lib.hid NN
   clear NN
   go_wp2_with fail
   refine HNN.out.mono ?_
   rintro r w2 ⟨rfl,hp2,hg2⟩
   have hn2:=HN.out.grown hg2 (by have:=HGL.out;have:=HNE.out;simp;omega)
   have HR2:=Lib.hid (HR.out.grown hg2 (by have:=HGL.out;simp;omega))
   obtain ⟨⟨t0,t1,t2,t3⟩,f0,f1,f2,f3⟩:=four hn2
   have hn3:=hn2.put 0 (.int .i64 (a:Int))
   simp only[List.setIfInBounds_toArray,List.set_cons_succ,List.set_cons_zero] at hn3
   have HN3:=Lib.hid hn3
   have HP3:=Lib.hid (hp2.far (d:=w0.heap.size) (by have:=HGL.out;have:=HNE.out;omega) 0 (.int .i64 (a:Int)))
   have HR3:=Lib.hid (HR2.out.far (p:=⟨w0.heap.size,0,none⟩) (Nat.ne_of_lt HNE.out) (.int .i64 (a:Int)))
   have HG3:=Lib.hid (gr_put (lx_to HG.out hg2) (Nat.le_of_lt HNE.out) 0 (.int .i64 (a:Int)))
   clear hp2 hg2 hn2 hn3
   go_wp2_with fail
   go_roundw
   case rel=>exact ⟨.inr (.inl ⟨rfl,HP3,HN3⟩),HR3,HG3⟩
   case measure=>simp[intOf]
  ·have NN:=pnum_ok wr g L e p1 HP.out HLL.out
   rw[HE2.out.1,HE2.out.2] at NN
   have HNN:=Lib.hid NN
   clear NN
   go_wp2_with fail
   refine HNN.out.mono ?_
   rintro r w2 ⟨rfl,hp2,hg2⟩
   have hn2:=HN.out.grown hg2 (by have:=HGL.out;have:=HNE.out;simp;omega)
   have HR2:=Lib.hid (HR.out.grown hg2 (by have:=HGL.out;simp;omega))
   obtain ⟨⟨t0,t1,t2,t3⟩,f0,f1,f2,f3⟩:=four hn2
   have hn3:=hn2.put 1 (.int .i64 (b:Int))
   simp only[List.setIfInBounds_toArray,List.set_cons_succ,List.set_cons_zero] at hn3
   have HN3:=Lib.hid hn3
   have HP3:=Lib.hid (hp2.far (d:=w0.heap.size) (by have:=HGL.out;have:=HNE.out;omega) 1 (.int .i64 (b:Int)))
   have HR3:=Lib.hid (HR2.out.far (p:=⟨w0.heap.size,1,none⟩) (Nat.ne_of_lt HNE.out) (.int .i64 (b:Int)))
   have HG3:=Lib.hid (gr_put (lx_to HG.out hg2) (Nat.le_of_lt HNE.out) 1 (.int .i64 (b:Int)))
   clear hp2 hg2 hn2 hn3
   go_wp2_with fail
   go_roundw
   case rel=>exact ⟨.inr (.inr (.inl ⟨rfl,HP3,HN3⟩)),HR3,HG3⟩
   case measure=>simp[intOf]
  ·have NN:=pnum_ok wr g L e p2 HP.out HLL.out
   rw[HE3.out.1,HE3.out.2] at NN
   have HNN:=Lib.hid NN
   clear NN
   go_wp2_with fail
   refine HNN.out.mono ?_
   rintro r w2 ⟨rfl,hp2,hg2⟩
   have hn2:=HN.out.grown hg2 (by have:=HGL.out;have:=HNE.out;simp;omega)
   have HR2:=Lib.hid (HR.out.grown hg2 (by have:=HGL.out;simp;omega))
   obtain ⟨⟨t0,t1,t2,t3⟩,f0,f1,f2,f3⟩:=four hn2
   have hn3:=hn2.put 2 (.int .i64 (c:Int))
   simp only[List.setIfInBounds_toArray,List.set_cons_succ,List.set_cons_zero] at hn3
   have HN3:=Lib.hid hn3
   have HP3:=Lib.hid (hp2.far (d:=w0.heap.size) (by have:=HGL.out;have:=HNE.out;omega) 2 (.int .i64 (c:Int)))
   have HR3:=Lib.hid (HR2.out.far (p:=⟨w0.heap.size,2,none⟩) (Nat.ne_of_lt HNE.out) (.int .i64 (c:Int)))
   have HG3:=Lib.hid (gr_put (lx_to HG.out hg2) (Nat.le_of_lt HNE.out) 2 (.int .i64 (c:Int)))
   clear hp2 hg2 hn2 hn3
   go_wp2_with fail
   go_roundw
   case rel=>exact ⟨.inr (.inr (.inr (.inl ⟨rfl,HP3,HN3⟩))),HR3,HG3⟩
   case measure=>simp[intOf]
  ·have NN:=pnum_ok wr g L e p3 HP.out HLL.out
   rw[HE4.out.1,HE4.out.2] at NN
   have HNN:=Lib.hid NN
   clear NN
   go_wp2_with fail
   refine HNN.out.mono ?_
   rintro r w2 ⟨rfl,hp2,hg2⟩
   have hn2:=HN.out.grown hg2 (by have:=HGL.out;have:=HNE.out;simp;omega)
   have HR2:=Lib.hid (HR.out.grown hg2 (by have:=HGL.out;simp;omega))
   obtain ⟨⟨t0,t1,t2,t3⟩,f0,f1,f2,f3⟩:=four hn2
   have hn3:=hn2.put 3 (.int .i64 (d:Int))
   simp only[List.setIfInBounds_toArray,List.set_cons_succ,List.set_cons_zero] at hn3
   have HN3:=Lib.hid hn3
   have HP3:=Lib.hid (hp2.far (d:=w0.heap.size) (by have:=HGL.out;have:=HNE.out;omega) 3 (.int .i64 (d:Int)))
   have HR3:=Lib.hid (HR2.out.far (p:=⟨w0.heap.size,3,none⟩) (Nat.ne_of_lt HNE.out) (.int .i64 (d:Int)))
   have HG3:=Lib.hid (gr_put (lx_to HG.out hg2) (Nat.le_of_lt HNE.out) 3 (.int .i64 (d:Int)))
   clear hp2 hg2 hn2 hn3
   go_wp2_with fail
   go_roundw
   case rel=>exact ⟨.inr (.inr (.inr (.inr (⟨rfl,HP3,HN3⟩)))),HR3,HG3⟩
   case measure=>simp[intOf]
  ·obtain ⟨⟨t0,t1,t2,t3⟩,-⟩:=four HN.out
   obtain ⟨⟨r0,r1,r2,r3⟩,f0,f1,f2,f3⟩:=four HR.out
   go_wp2_with fail
   refine row_ret (ty:=76) rfl w.heap.size 76 _ rfl (four_put HR.out (.int .i64 (a:Int)) (.int .i64 (b:Int)) (.int .i64 (c:Int)) (.int .i64 (d:Int))) Tryz.underlying76 rfl (by kernel_rfl) rfl ?_
   exact ⟨rfl,HP.out.far4 HGL.out _ _ _ _,gr_four HG.out (Nat.le_refl _) _ _ _ _⟩
theorem on_len(p:Pr):p.on.l.length=p.l.length - 1:=by unfold Pr.on;simp
theorem wrong_l(e:Nat×Nat)(p:Pr):(p.wrong e).l=p.l:=by
 unfold Pr.wrong
 split<;>rfl
theorem take_len(e:Nat×Nat)(k:Nat)(p:Pr):(p.take e k).2.l.length≤p.l.length:=by
 unfold Pr.take
 split
 ·simp only[on_len];omega
 ·simp only[wrong_l];omega
theorem num_len(e:Nat×Nat)(p:Pr):(pNum e p).2.l.length≤p.l.length:=take_len e 3 p
theorem box_len(e:Nat×Nat)(p:Pr):(pBox e p).2.l.length≤p.l.length:=
 Nat.le_trans (num_len e _) (Nat.le_trans (num_len e _) (Nat.le_trans (num_len e _) (num_len e p)))
theorem PrB.at{w:World}{g:Nat}{L:List Tk}{e:Nat×Nat}{p:Pr}(h:PrB w g L e p):L.length - lxAt g w=p.l.length∧p.l.length≤L.length:=by
 obtain ⟨v,i,hs,hi,hp,hb⟩:=h.at_
 have c1:w.cell? ⟨g,1,none⟩=some (.int .i64 (i:Int)):=hb.is 1 rfl
 unfold lxAt
 rw[c1,hp]
 simp
theorem gr_own{w w' w'':World}{row row2:Option Nat}(h:w.grownBy w' row)(k:w'.grownBy w'' row2)(hr:∀b,row2=some b→w.heap.size≤b):w.grownBy w'' row:=
 ⟨k.os.trans h.os,k.tape.trans h.tape,k.output.trans h.output,Nat.le_trans h.size k.size,fun i hi hne=>
  (k.block i (Nat.lt_of_lt_of_le hi h.size) (fun e=>by have:=hr i e.symm;omega)).trans (h.block i hi hne)⟩
theorem PrB.own{w w':World}{g:Nat}{L:List Tk}{e:Nat×Nat}{p:Pr}(h:PrB w g L e p){row:Option Nat}(k:w.grownBy w' row)(hr:∀b,row=some b→g<b):PrB w' g L e p:=
 h.keep fun b hb=>k.block b (Nat.lt_of_le_of_lt hb h.lt) (fun e=>by have:=hr b e.symm;omega)
def BoxPost(w:World)(g:Nat)(L:List Tk)(e:Nat×Nat)(l:List Bx)(p:Pr)(r:Ending)(w':World):Prop:=
 ∃v,r=.returned v∧Own bxC 4 76 w' w.heap.size v l∧PrB w' g L e p∧w.grownBy w' (some g)
theorem pboxes_ok(w:World)(g:Nat)(L:List Tk)(e:Nat×Nat)(p:Pr)(h:PrB w g L e p)(hL:L.length≤1000000) :
  Calls Tryz.prog 407 #[.pointer (some ⟨g,0,none⟩)] w (BoxPost w g L e (pBoxes e p).1 (pBoxes e p).2):=by
 have HB:=pbox_ok w g L e p h hL
 have hbl:=box_len e p
 have hpl:=h.at.2
 have hpb:pBoxes e p=pMore e p.l.length (pBox e p).2 [(pBox e p).1]:=rfl
 rw[hpb]
 obtain ⟨⟨b0,p0⟩,hb0⟩:∃z,pBox e p=z:=⟨_,rfl⟩
 rw[hb0] at HB hbl ⊢
 obtain ⟨R,hR⟩:∃R,R=pMore e p.l.length p0 [b0]:=⟨_,rfl⟩
 simp only at HB hbl ⊢
 rw[←hR]
 have HBB:=Lib.hid HB
 have HLL:=Lib.hid hL
 have HR:=Lib.hid hR
 have HBL:=Lib.hid hbl
 have HPL:=Lib.hid hpl
 have HGL:=Lib.hid h.lt
 clear HB hL hR h hpb hb0 hbl hpl
 go_enter Tryz.func407,Tryz.ntmps407
 go_wp2_with fail
 refine HBB.out.mono ?_
 rintro r w1 ⟨rfl,hp1,hg1⟩
 have hn2:=Blk.new w1 76 #[.int .i64 (b0.x0:Int),.int .i64 (b0.y0:Int),.int .i64 (b0.x1:Int),.int .i64 (b0.y1:Int)]
 have HO2:=Lib.hid (Own.of_blk (enc:=bxC) (l:=[b0]) hn2 (base:=w.heap.size) hg1.size rfl bx_enc.len (by unfold maxLen;simp))
 have HP2:=Lib.hid (hp1.below ((Below.refl _ w1).alloc (Nat.le_refl _) (.cells #[.int .i64 (b0.x0:Int),.int .i64 (b0.y0:Int),.int .i64 (b0.x1:Int),.int .i64 (b0.y1:Int)] 76)))
 have HG2:=Lib.hid (lx_to hg1 (gr_alloc w1 (.cells #[.int .i64 (b0.x0:Int),.int .i64 (b0.y0:Int),.int .i64 (b0.x1:Int),.int .i64 (b0.y1:Int)] 76) (some g)))
 clear hp1 hg1 hn2
 go_wp2_with fail
 go_loopw [3] (fun ov wr=>∃(k:Nat) (p':Pr) (out:List Bx) (A:Option Addr) (cap:Nat),p'.l.length≤k∧out.length+p'.l.length≤L.length+1∧ov=.slice A out.length cap∧Hid (pMore e k p' out=R)∧Hid (PrB wr g L e p')∧Hid (Own bxC 4 76 wr w.heap.size (.slice A out.length cap) out)∧Hid (w.grownBy wr (some g))) (fun _ wr=>L.length - lxAt g wr)
 case atStart=>exact ⟨p.l.length,p0,[b0],_,1,HBL.out,by have:=HBL.out;have:=HPL.out;simp;omega,rfl,Lib.hid HR.out.symm,HP2,HO2,HG2⟩
 case round=>
  obtain ⟨k,p',out,A,cap,hk,hol,rfl,HM,HP,HO,HG⟩:=hrel
  have HT:=Lib.hid (took_ok wr g L e p' [43] HP.out HLL.out)
  have HK:=Lib.hid hk
  have HOL:=Lib.hid hol
  clear hk hol
  cases hb:p'.is [43]
  ·rw[hb] at HT
   have HF:=Lib.hid (show R=(out,p') by
    rw[←HM.out]
    cases k with
    | zero=>rfl
    | succ k=>unfold pMore;rw[hb];rfl)
   go_wp2_with fail
   refine HT.out.mono ?_
   rintro r w2 ⟨rfl,hp2,hg2⟩
   have HP2:=Lib.hid hp2
   have HG2:=Lib.hid (lx_to HG.out hg2)
   have HO2:=Lib.hid (HO.out.grown hg2 (.inr (by obtain ⟨v,i,_,_,_,hbk⟩:=HP.out.at_;exact HO.out.ne_blk hbk (by decide))))
   clear hp2 hg2
   go_wp2_with fail
   refine bodyPost_ret (v:=.slice A out.length cap) (by simp[results,Tryz.results407,go_sem]) rfl ?_
   rw[HF.out]
   exact ⟨_,rfl,HO2.out,HP2.out,HG2.out⟩
  ·rw[hb] at HT
   have hne:=Pr.is_ne hb
   have hl:=on_len p'
   have hpos:0<p'.l.length:=List.length_pos_iff.2 hne
   obtain ⟨j,hj⟩:∃j,k=j+1:=⟨k - 1,by have:=HK.out;omega⟩
   have hm:R=pMore e j (pBox e p'.on).2 (out++[(pBox e p'.on).1]):=by rw[←HM.out,hj];conv=>lhs;unfold pMore;rw[hb]
                                                                      rfl
   have hbx:=box_len e p'.on
   have HB2:=Lib.hid (fun w2 (h2:PrB w2 g L e p'.on)=>pbox_ok w2 g L e p'.on h2 HLL.out)
   obtain ⟨⟨b1,p1⟩,hb1⟩:∃z,pBox e p'.on=z:=⟨_,rfl⟩
   rw[hb1] at HB2 hm hbx
   simp only at hbx
   have HMM:=Lib.hid hm
   have HX:=Lib.hid (And.intro (show p1.l.length<p'.l.length by omega) (And.intro (show p1.l.length≤j by have:=HK.out;omega) (show out.length+1+p1.l.length≤L.length+1 by have:=HOL.out;omega)))
   have hol2:out.length≤1000001:=by have:=HOL.out;have:=HLL.out;omega
   clear hm hbx hb1 hne hl hpos hj
   go_wp2_with fail
   refine HT.out.mono ?_
   rintro r w2 ⟨rfl,hp2,hg2⟩
   have HBB2:=Lib.hid (HB2.out w2 hp2)
   have HG2:=Lib.hid (lx_to HG.out hg2)
   have HO2:=Lib.hid (HO.out.grown hg2 (.inr (by obtain ⟨v,i,_,_,_,hbk⟩:=HP.out.at_;exact HO.out.ne_blk hbk (by decide))))
   have HP2:=Lib.hid hp2
   clear hp2 hg2
   go_wp2_with fail
   refine HBB2.out.mono ?_
   rintro r w3 ⟨rfl,hp3,hg3⟩
   have HG3:=Lib.hid (lx_to HG2.out hg3)
   have HO3:=Lib.hid (HO2.out.grown hg3 (.inr (by obtain ⟨v,i,_,_,_,hbk⟩:=HP2.out.at_;exact HO2.out.ne_blk hbk (by decide))))
   have HP3:=Lib.hid hp3
   clear hp3 hg3
   go_wp2_with (at_builtin;refine app_one bx_elem bx_enc rfl (.tmp 9) (.tmp 12) rfl rfl (HO3.out.alloc _) b1 w3.heap.size 1 rfl (Blk.lay (Blk.new _ _ _)) (by unfold maxLen;omega) (by omega) (by have:=HG3.out.size;simp;omega) ?_;intro g' cap' w8 hown8 hgrow8 hat8 hlt8)
   have hbase:∀b,(Value.slice A out.length cap).ownBlock=some b→w.heap.size≤b:=fun b hb=>(HO3.out.lt b hb).1
   have hp8:PrB w8 g L e p1:=(HP3.out.below ((Below.refl _ w3).alloc (Nat.le_refl _) (.cells #[.int .i64 (b1.x0:Int),.int .i64 (b1.y0:Int),.int .i64 (b1.x1:Int),.int .i64 (b1.y1:Int)] 76))).own hgrow8 (fun b hb=>Nat.lt_of_lt_of_le HGL.out (hbase b hb))
   have e1:=HX.out
   refine ⟨⟨j,p1,out++[b1],some ⟨g',0,none⟩,cap',e1.2.1,by rw[List.length_append];simpa using e1.2.2,by rw[List.length_append];rfl,Lib.hid HMM.out.symm,Lib.hid hp8,Lib.hid (by rw[List.length_append];exact hown8),Lib.hid (gr_own (lx_to HG3.out (gr_alloc w3 _ _)) hgrow8 hbase)⟩,?_⟩
   rw[hp8.at.1,HP.out.at.1]
   exact e1.1
def dcC(x:Dc)(v:Value):Array Value:=#[.int .i64 (x.kind:Int),strV x.name,.int .i64 (x.n:Int),v,.bool x.role.any,strV x.role.name,.int .i64 (x.role.n:Int),.int .i64 (x.role.line:Int),.int .i64 (x.role.col:Int),.int .i64 (x.lo:Int),.int .i64 (x.hi:Int),
 .bool x.label.any,strV x.label.name,.int .i64 (x.label.n:Int),.int .i64 (x.label.line:Int),.int .i64 (x.label.col:Int),.bool x.wh.any,strV x.wh.name,.int .i64 (x.wh.n:Int),.int .i64 (x.wh.line:Int),.int .i64 (x.wh.col:Int),.int .i64 (x.zoom:Int),.int .i64 (x.line:Int),.int .i64 (x.col:Int)]
def DcB(w:World)(d:Nat)(x:Dc)(v:Value):Prop:=Blk w d 175 (dcC x v)
section
variable{w w':World}{d:Nat}{x:Dc}{v:Value}
theorem DcB.lt(h:DcB w d x v):d<w.heap.size:=Blk.lt h
theorem DcB.cell(h:DcB w d x v)(i:Nat){a:Value}(ha:(dcC x v)[i]?=some a):w.cell? ⟨d,i,none⟩=some a:=Blk.is h i ha
theorem DcB.fz(h:DcB w d x v)(i:Nat):w.frozen? ⟨d,i,none⟩=false:=Blk.frozen h i
theorem DcB.gr{g:Nat}(h:DcB w d x v)(k:w.grownBy w' (some g))(hg:g<d):DcB w' d x v:=Blk.grown h k (by simp;omega)
theorem DcB.kind(h:DcB w d x v)(n:Nat):DcB (w.setCell ⟨d,0,none⟩ (.int .i64 (n:Int))) d { x with kind:=n } v:=Blk.put h 0 _
theorem DcB.name(h:DcB w d x v)(t:List UInt8):DcB (w.setCell ⟨d,1,none⟩ (strV t)) d { x with name:=t } v:=Blk.put h 1 _
theorem DcB.n(h:DcB w d x v)(n:Nat):DcB (w.setCell ⟨d,2,none⟩ (.int .i64 (n:Int))) d { x with n:=n } v:=Blk.put h 2 _
theorem DcB.bx(h:DcB w d x v)(u:Value)(l:List Bx):DcB (w.setCell ⟨d,3,none⟩ u) d { x with boxes:=l } u:=Blk.put h 3 _
theorem DcB.lo(h:DcB w d x v)(n:Nat):DcB (w.setCell ⟨d,9,none⟩ (.int .i64 (n:Int))) d { x with lo:=n } v:=Blk.put h 9 _
theorem DcB.hi(h:DcB w d x v)(n:Nat):DcB (w.setCell ⟨d,10,none⟩ (.int .i64 (n:Int))) d { x with hi:=n } v:=Blk.put h 10 _
theorem DcB.zoom(h:DcB w d x v)(n:Nat):DcB (w.setCell ⟨d,21,none⟩ (.int .i64 (n:Int))) d { x with zoom:=n } v:=Blk.put h 21 _
def putW(w:World)(d k:Nat)(y:Who):World:=((((w.setCell ⟨d,k,none⟩ (.bool y.any)).setCell ⟨d,k+1,none⟩ (strV y.name)).setCell ⟨d,k+2,none⟩ (.int .i64 (y.n:Int))).setCell ⟨d,k+3,none⟩ (.int .i64 (y.line:Int))).setCell ⟨d,k+4,none⟩ (.int .i64 (y.col:Int))
theorem DcB.role(h:DcB w d x v)(y:Who):DcB (putW w d 4 y) d { x with role:=y } v:=((((Blk.put h 4 _).put 5 _).put 6 _).put 7 _).put 8 _
theorem DcB.label(h:DcB w d x v)(y:Who):DcB (putW w d 11 y) d { x with label:=y } v:=((((Blk.put h 11 _).put 12 _).put 13 _).put 14 _).put 15 _
theorem DcB.wh(h:DcB w d x v)(y:Who):DcB (putW w d 16 y) d { x with wh:=y } v:=((((Blk.put h 16 _).put 17 _).put 18 _).put 19 _).put 20 _
theorem PrB.farW{g:Nat}{L:List Tk}{e:Nat×Nat}{p:Pr}(h:PrB w g L e p)(hd:g<d)(k:Nat)(y:Who):PrB (putW w d k y) g L e p:=((((h.far hd _ _).far hd _ _).far hd _ _).far hd _ _).far hd _ _
end
def Two(g d:Nat)(w w':World):Prop:=Moves [g,d] w w'
theorem Two.gr{g d:Nat}{w w' w'':World}(h:Two g d w w')(k:w'.grownBy w'' (some g)):Two g d w w'':=h.trans (Moves.of_grown (S:=[g]) k (fun x hx=>by simp at hx;simp[hx])) (fun x hx=>by simp at hx;simp[hx])
theorem Two.put{g d:Nat}{w w':World}(h:Two g d w w')(i:Nat)(u:Value):Two g d w (w'.setCell ⟨d,i,none⟩ u):=h.trans (Moves.setCell w' ⟨d,i,none⟩ u) (fun x hx=>by simp at hx;simp[hx])
theorem Two.putW{g d:Nat}{w w':World}(h:Two g d w w')(k:Nat)(y:Who):Two g d w (putW w' d k y):=((((h.put _ _).put _ _).put _ _).put _ _).put _ _
theorem Two.trans{g d:Nat}{w w' w'':World}(h:Two g d w w')(k:Two g d w' w''):Two g d w w'':=Moves.trans h k (fun x hx=>.inl hx)
theorem Two.refl(g d:Nat)(w:World):Two g d w w:=Moves.refl _ _
def DPost(w:World)(g d:Nat)(L:List Tk)(e:Nat×Nat)(x:Dc)(v:Value)(p:Pr)(r:Ending)(w':World):Prop:=r=.returned (.tuple #[])∧PrB w' g L e p∧DcB w' d x v∧Two g d w w'
theorem pnamed_ok(w:World)(g d:Nat)(L:List Tk)(e:Nat×Nat)(p:Pr)(x:Dc)(v:Value)(h:PrB w g L e p)(hd:DcB w d x v)(hgd:g<d)(hL:L.length≤1000000) :
  Calls Tryz.prog 305 #[.pointer (some ⟨g,0,none⟩),.pointer (some ⟨d,0,none⟩)] w (DPost w g d L e (pNamed e x p).1 v (pNamed e x p).2):=by
 obtain ⟨⟨nm,p1⟩,h1⟩:∃z,pName e p=z:=⟨_,rfl⟩
 obtain ⟨⟨n,p2⟩,h2⟩:∃z,pNum e (p1.want e [61])=z:=⟨_,rfl⟩
 have hr:pNamed e x p=({ x with name:=nm,n:=n },p2):=by unfold pNamed;simp only[h1,h2]
 rw[hr]
 clear hr
 have HP0:=Lib.hid h
 have HD0:=Lib.hid hd
 have HM0:=Lib.hid (Two.refl g d w)
 have HGD:=Lib.hid hgd
 have HLL:=Lib.hid hL
 clear h hd hgd hL
 have hc1:=pname_ok w g L e p HP0.out HLL.out
 rw[h1] at hc1
 have HX1:=Lib.hid hc1
 have HX2:=Lib.hid (fun u hu=>pwant_ok u g L e p1 [61] hu HLL.out)
 have hc3:=fun u hu=>pnum_ok u g L e (p1.want e [61]) hu HLL.out
 rw[h2] at hc3
 have HX3:=Lib.hid hc3
 clear hc1 hc3 h1 h2
 go_enter Tryz.func305,Tryz.ntmps305
 have HC0:=Lib.hid (HX1.out)
 go_wp2_with fail
 refine HC0.out.mono ?_
 rintro r w1 ⟨rfl,hp,hg⟩
 have HP1:=Lib.hid hp
 have HD1:=Lib.hid (HD0.out.gr hg HGD.out)
 have HM1:=Lib.hid (HM0.out.gr hg)
 clear hp hg
 have c1:=HD1.out.cell 1 rfl
 have f1:=HD1.out.fz 1
 have hlt:=HD1.out.lt
 have HP2:=Lib.hid (HP1.out.far HGD.out 1 (strV nm))
 have HD2:=Lib.hid (HD1.out.name nm)
 have HM2:=Lib.hid (HM1.out.put 1 (strV nm))
 have HC2:=Lib.hid (HX2.out _ HP2.out)
 go_wp2_with fail
 refine HC2.out.mono ?_
 rintro r w3 ⟨rfl,hp,hg⟩
 have HP3:=Lib.hid hp
 have HD3:=Lib.hid (HD2.out.gr hg HGD.out)
 have HM3:=Lib.hid (HM2.out.gr hg)
 clear hp hg
 have HC3:=Lib.hid (HX3.out _ HP3.out)
 go_wp2_with fail
 refine HC3.out.mono ?_
 rintro r w4 ⟨rfl,hp,hg⟩
 have HP4:=Lib.hid hp
 have HD4:=Lib.hid (HD3.out.gr hg HGD.out)
 have HM4:=Lib.hid (HM3.out.gr hg)
 clear hp hg
 have c2:=HD4.out.cell 2 rfl
 have f2:=HD4.out.fz 2
 have hlt:=HD4.out.lt
 have HP5:=Lib.hid (HP4.out.far HGD.out 2 (.int .i64 (n:Int)))
 have HD5:=Lib.hid (HD4.out.n n)
 have HM5:=Lib.hid (HM4.out.put 2 (.int .i64 (n:Int)))
 go_wp2_with fail
 refine bodyPost_end (results_none rfl _ _ _) rfl ?_
 exact ⟨rfl,HP5.out,HD5.out,HM5.out⟩
theorem pcloak_ok(w:World)(g d:Nat)(L:List Tk)(e:Nat×Nat)(p:Pr)(x:Dc)(v:Value)(h:PrB w g L e p)(hd:DcB w d x v)(hgd:g<d)(hL:L.length≤1000000) :
  Calls Tryz.prog 307 #[.pointer (some ⟨g,0,none⟩),.pointer (some ⟨d,0,none⟩)] w (DPost w g d L e (pCloak e x p).1 v (pCloak e x p).2):=by
 obtain ⟨⟨y,p2⟩,h2⟩:∃z,pWho e (p.want e tRole)=z:=⟨_,rfl⟩
 have hr:pCloak e x p=({ x with role:=y },p2):=by unfold pCloak;simp only[h2]
 rw[hr]
 clear hr
 have HP0:=Lib.hid h
 have HD0:=Lib.hid hd
 have HM0:=Lib.hid (Two.refl g d w)
 have HGD:=Lib.hid hgd
 have HLL:=Lib.hid hL
 clear h hd hgd hL
 have HX1:=Lib.hid (pwant_ok w g L e p tRole HP0.out HLL.out)
 have hc3:=fun u hu=>pwho_ok u g L e (p.want e tRole) hu HLL.out
 rw[h2] at hc3
 unfold whoA at hc3
 have HX2:=Lib.hid hc3
 clear hc3 h2
 go_enter Tryz.func307,Tryz.ntmps307
 have HC0:=Lib.hid (HX1.out)
 go_wp2_with fail
 refine HC0.out.mono ?_
 rintro r w1 ⟨rfl,hp,hg⟩
 have HP1:=Lib.hid hp
 have HD1:=Lib.hid (HD0.out.gr hg HGD.out)
 have HM1:=Lib.hid (HM0.out.gr hg)
 clear hp hg
 have HC1:=Lib.hid (HX2.out _ HP1.out)
 go_wp2_with fail
 refine HC1.out.mono ?_
 rintro r w2 ⟨rfl,hp,hg⟩
 have HP2:=Lib.hid hp
 have HD2:=Lib.hid (HD1.out.gr hg HGD.out)
 have HM2:=Lib.hid (HM1.out.gr hg)
 clear hp hg
 have c4:=HD2.out.cell 4 rfl
 have f4:=HD2.out.fz 4
 have c5:=HD2.out.cell 5 rfl
 have f5:=HD2.out.fz 5
 have c6:=HD2.out.cell 6 rfl
 have f6:=HD2.out.fz 6
 have c7:=HD2.out.cell 7 rfl
 have f7:=HD2.out.fz 7
 have c8:=HD2.out.cell 8 rfl
 have f8:=HD2.out.fz 8
 have hlt:=HD2.out.lt
 have HP3:=Lib.hid (HP2.out.farW HGD.out 4 y)
 have HD3:=Lib.hid (HD2.out.role y)
 have HM3:=Lib.hid (HM2.out.putW 4 y)
 go_wp2_with fail
 refine bodyPost_end (results_none rfl _ _ _) rfl ?_
 exact ⟨rfl,HP3.out,HD3.out,HM3.out⟩
theorem prule_ok(w:World)(g d:Nat)(L:List Tk)(e:Nat×Nat)(p:Pr)(x:Dc)(v:Value)(h:PrB w g L e p)(hd:DcB w d x v)(hgd:g<d)(hL:L.length≤1000000) :
  Calls Tryz.prog 303 #[.pointer (some ⟨g,0,none⟩),.pointer (some ⟨d,0,none⟩)] w (DPost w g d L e (pRule e x p).1 v (pRule e x p).2):=by
 obtain ⟨⟨x1,p1⟩,h1⟩:∃z,pCloak e x p=z:=⟨_,rfl⟩
 obtain ⟨⟨lo,hi,p2⟩,h2⟩:∃z,pTiers e (p1.want e tTier)=z:=⟨_,rfl⟩
 obtain ⟨⟨y,p3⟩,h3⟩:∃z,pWho e (p2.want e tLabel)=z:=⟨_,rfl⟩
 obtain ⟨⟨u,p4⟩,h4⟩:∃z,pWhere e (p3.want e tIn)=z:=⟨_,rfl⟩
 obtain ⟨⟨n,p5⟩,h5⟩:∃z,pNum e (p4.want e tZoom)=z:=⟨_,rfl⟩
 have hr:pRule e x p=({ x1 with lo:=lo,hi:=hi,label:=y,wh:=u,zoom:=n },p5):=by unfold pRule;simp only[h1,h2,h3,h4,h5]
 rw[hr]
 clear hr
 have HP0:=Lib.hid h
 have HD0:=Lib.hid hd
 have HM0:=Lib.hid (Two.refl g d w)
 have HGD:=Lib.hid hgd
 have HLL:=Lib.hid hL
 clear h hd hgd hL
 have hc1:=pcloak_ok w g d L e p x v HP0.out HD0.out HGD.out HLL.out
 rw[h1] at hc1
 have hc2:=fun u hu=>ptiers_ok u g L e (p1.want e tTier) hu HLL.out
 rw[h2] at hc2
 have hc3:=fun u hu=>pwho_ok u g L e (p2.want e tLabel) hu HLL.out
 rw[h3] at hc3
 unfold whoA at hc3
 have hc4:=fun u hu=>pwhere_ok u g L e (p3.want e tIn) hu HLL.out
 rw[h4] at hc4
 unfold whoA at hc4
 have hc5:=fun u hu=>pnum_ok u g L e (p4.want e tZoom) hu HLL.out
 rw[h5] at hc5
 have HX1:=Lib.hid hc1
 have HX2:=Lib.hid hc2
 have HX3:=Lib.hid hc3
 have HX4:=Lib.hid hc4
 have HX5:=Lib.hid hc5
 have HWN:=Lib.hid (fun (q:Pr) (t:List UInt8) (u:World) (hu:PrB u g L e q)=>pwant_ok u g L e q t hu HLL.out)
 clear hc1 hc2 hc3 hc4 hc5 h1 h2 h3 h4 h5
 go_enter Tryz.func303,Tryz.ntmps303
 have HC0:=Lib.hid (HX1.out)
 go_wp2_with fail
 refine HC0.out.mono ?_
 rintro r w1 ⟨rfl,hp,hd,hm⟩
 have HP1:=Lib.hid hp
 have HD1:=Lib.hid hd
 have HM1:=Lib.hid (HM0.out.trans hm)
 clear hp hd hm
 have HC1:=Lib.hid (HWN.out _ tTier _ HP1.out)
 go_wp2_with fail
 refine HC1.out.mono ?_
 rintro r w2 ⟨rfl,hp,hg⟩
 have HP2:=Lib.hid hp
 have HD2:=Lib.hid (HD1.out.gr hg HGD.out)
 have HM2:=Lib.hid (HM1.out.gr hg)
 clear hp hg
 have HC2:=Lib.hid (HX2.out _ HP2.out)
 go_wp2_with fail
 refine HC2.out.mono ?_
 rintro r w3 ⟨rfl,hp,hg⟩
 have HP3:=Lib.hid hp
 have HD3:=Lib.hid (HD2.out.gr hg HGD.out)
 have HM3:=Lib.hid (HM2.out.gr hg)
 clear hp hg
 have c9:=HD3.out.cell 9 rfl
 have f9:=HD3.out.fz 9
 have hlt:=HD3.out.lt
 have HP4:=Lib.hid (HP3.out.far HGD.out 9 (.int .i64 (lo:Int)))
 have HD4:=Lib.hid (HD3.out.lo lo)
 have HM4:=Lib.hid (HM3.out.put 9 (.int .i64 (lo:Int)))
 have c10:=HD4.out.cell 10 rfl
 have f10:=HD4.out.fz 10
 have hlt:=HD4.out.lt
 have HP5:=Lib.hid (HP4.out.far HGD.out 10 (.int .i64 (hi:Int)))
 have HD5:=Lib.hid (HD4.out.hi hi)
 have HM5:=Lib.hid (HM4.out.put 10 (.int .i64 (hi:Int)))
 have HC5:=Lib.hid (HWN.out _ tLabel _ HP5.out)
 go_wp2_with fail
 refine HC5.out.mono ?_
 rintro r w6 ⟨rfl,hp,hg⟩
 have HP6:=Lib.hid hp
 have HD6:=Lib.hid (HD5.out.gr hg HGD.out)
 have HM6:=Lib.hid (HM5.out.gr hg)
 clear hp hg
 have HC6:=Lib.hid (HX3.out _ HP6.out)
 go_wp2_with fail
 refine HC6.out.mono ?_
 rintro r w7 ⟨rfl,hp,hg⟩
 have HP7:=Lib.hid hp
 have HD7:=Lib.hid (HD6.out.gr hg HGD.out)
 have HM7:=Lib.hid (HM6.out.gr hg)
 clear hp hg
 have c11:=HD7.out.cell 11 rfl
 have f11:=HD7.out.fz 11
 have c12:=HD7.out.cell 12 rfl
 have f12:=HD7.out.fz 12
 have c13:=HD7.out.cell 13 rfl
 have f13:=HD7.out.fz 13
 have c14:=HD7.out.cell 14 rfl
 have f14:=HD7.out.fz 14
 have c15:=HD7.out.cell 15 rfl
 have f15:=HD7.out.fz 15
 have hlt:=HD7.out.lt
 have HP8:=Lib.hid (HP7.out.farW HGD.out 11 y)
 have HD8:=Lib.hid (HD7.out.label y)
 have HM8:=Lib.hid (HM7.out.putW 11 y)
 have HC8:=Lib.hid (HWN.out _ tIn _ HP8.out)
 go_wp2_with fail
 refine HC8.out.mono ?_
 rintro r w9 ⟨rfl,hp,hg⟩
 have HP9:=Lib.hid hp
 have HD9:=Lib.hid (HD8.out.gr hg HGD.out)
 have HM9:=Lib.hid (HM8.out.gr hg)
 clear hp hg
 have HC9:=Lib.hid (HX4.out _ HP9.out)
 go_wp2_with fail
 refine HC9.out.mono ?_
 rintro r w10 ⟨rfl,hp,hg⟩
 have HP10:=Lib.hid hp
 have HD10:=Lib.hid (HD9.out.gr hg HGD.out)
 have HM10:=Lib.hid (HM9.out.gr hg)
 clear hp hg
 have c16:=HD10.out.cell 16 rfl
 have f16:=HD10.out.fz 16
 have c17:=HD10.out.cell 17 rfl
 have f17:=HD10.out.fz 17
 have c18:=HD10.out.cell 18 rfl
 have f18:=HD10.out.fz 18
 have c19:=HD10.out.cell 19 rfl
 have f19:=HD10.out.fz 19
 have c20:=HD10.out.cell 20 rfl
 have f20:=HD10.out.fz 20
 have hlt:=HD10.out.lt
 have HP11:=Lib.hid (HP10.out.farW HGD.out 16 u)
 have HD11:=Lib.hid (HD10.out.wh u)
 have HM11:=Lib.hid (HM10.out.putW 16 u)
 have HC11:=Lib.hid (HWN.out _ tZoom _ HP11.out)
 go_wp2_with fail
 refine HC11.out.mono ?_
 rintro r w12 ⟨rfl,hp,hg⟩
 have HP12:=Lib.hid hp
 have HD12:=Lib.hid (HD11.out.gr hg HGD.out)
 have HM12:=Lib.hid (HM11.out.gr hg)
 clear hp hg
 have HC12:=Lib.hid (HX5.out _ HP12.out)
 go_wp2_with fail
 refine HC12.out.mono ?_
 rintro r w13 ⟨rfl,hp,hg⟩
 have HP13:=Lib.hid hp
 have HD13:=Lib.hid (HD12.out.gr hg HGD.out)
 have HM13:=Lib.hid (HM12.out.gr hg)
 clear hp hg
 have c21:=HD13.out.cell 21 rfl
 have f21:=HD13.out.fz 21
 have hlt:=HD13.out.lt
 have HP14:=Lib.hid (HP13.out.far HGD.out 21 (.int .i64 (n:Int)))
 have HD14:=Lib.hid (HD13.out.zoom n)
 have HM14:=Lib.hid (HM13.out.put 21 (.int .i64 (n:Int)))
 go_wp2_with fail
 refine bodyPost_end (results_none rfl _ _ _) rfl ?_
 exact ⟨rfl,HP14.out,HD14.out,HM14.out⟩
def RPost(w:World)(g d:Nat)(L:List Tk)(e:Nat×Nat)(x:Dc)(p:Pr)(r:Ending)(w':World):Prop:=∃v,r=.returned (.tuple #[])∧PrB w' g L e p∧DcB w' d x v∧Own bxC 4 76 w' w.heap.size v x.boxes∧Two g d w w'
theorem pregion_ok(w:World)(g d:Nat)(L:List Tk)(e:Nat×Nat)(p:Pr)(x:Dc)(v:Value)(h:PrB w g L e p)(hd:DcB w d x v)(hgd:g<d)(hL:L.length≤1000000) :
  Calls Tryz.prog 306 #[.pointer (some ⟨g,0,none⟩),.pointer (some ⟨d,0,none⟩)] w (RPost w g d L e (pRegion e x p).1 (pRegion e x p).2):=by
 obtain ⟨⟨nm,p1⟩,h1⟩:∃z,pName e p=z:=⟨_,rfl⟩
 obtain ⟨⟨bs,p2⟩,h2⟩:∃z,pBoxes e (p1.want e [61])=z:=⟨_,rfl⟩
 have hr:pRegion e x p=({ x with name:=nm,boxes:=bs },p2):=by unfold pRegion;simp only[h1,h2]
 rw[hr]
 clear hr
 have HP0:=Lib.hid h
 have HD0:=Lib.hid hd
 have HM0:=Lib.hid (Two.refl g d w)
 have HGD:=Lib.hid hgd
 have HLL:=Lib.hid hL
 clear h hd hgd hL
 have hc1:=pname_ok w g L e p HP0.out HLL.out
 rw[h1] at hc1
 have HX1:=Lib.hid hc1
 have HX2:=Lib.hid (fun u hu=>pwant_ok u g L e p1 [61] hu HLL.out)
 have hc3:=fun u hu=>pboxes_ok u g L e (p1.want e [61]) hu HLL.out
 rw[h2] at hc3
 have HX3:=Lib.hid hc3
 clear hc1 hc3 h1 h2
 go_enter Tryz.func306,Tryz.ntmps306
 have HC0:=Lib.hid (HX1.out)
 go_wp2_with fail
 refine HC0.out.mono ?_
 rintro r w1 ⟨rfl,hp,hg⟩
 have HP1:=Lib.hid hp
 have HD1:=Lib.hid (HD0.out.gr hg HGD.out)
 have HM1:=Lib.hid (HM0.out.gr hg)
 clear hp hg
 have c1:=HD1.out.cell 1 rfl
 have f1:=HD1.out.fz 1
 have hlt:=HD1.out.lt
 have HP2:=Lib.hid (HP1.out.far HGD.out 1 (strV nm))
 have HD2:=Lib.hid (HD1.out.name nm)
 have HM2:=Lib.hid (HM1.out.put 1 (strV nm))
 have HC2:=Lib.hid (HX2.out _ HP2.out)
 go_wp2_with fail
 refine HC2.out.mono ?_
 rintro r w3 ⟨rfl,hp,hg⟩
 have HP3:=Lib.hid hp
 have HD3:=Lib.hid (HD2.out.gr hg HGD.out)
 have HM3:=Lib.hid (HM2.out.gr hg)
 clear hp hg
 have HC3:=Lib.hid (HX3.out _ HP3.out)
 go_wp2_with fail
 refine HC3.out.mono ?_
 rintro r w9 ⟨u,rfl,ho,hp,hg⟩
 obtain ⟨A,cap,hu⟩:=ho.form
 subst hu
 have HP8:=Lib.hid hp
 have HD8:=Lib.hid (HD3.out.gr hg HGD.out)
 have HM8:=Lib.hid (HM3.out.gr hg)
 have HO8:=Lib.hid (ho.more HM3.out.size)
 have c3:=HD8.out.cell 3 rfl
 have f3:=HD8.out.fz 3
 have hlt:=HD8.out.lt
 have HP9:=Lib.hid (HP8.out.far HGD.out 3 (.slice A bs.length cap))
 have HD9:=Lib.hid (HD8.out.bx (.slice A bs.length cap) bs)
 have HM9:=Lib.hid (HM8.out.put 3 (.slice A bs.length cap))
 have HO9:=Lib.hid (own_put HO8.out (r:=d) (fun e=>by have:=HO8.out.lt d e;have:=HD0.out.lt;omega) 3 (.slice A bs.length cap))
 clear ho hp hg
 go_wp2_with fail
 refine bodyPost_end (results_none rfl _ _ _) rfl ?_
 exact ⟨_,rfl,HP9.out,HD9.out,HO9.out,HM9.out⟩
end Go.Proofs.YtmbdghclhpboaaaGreat

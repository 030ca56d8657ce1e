/- Part of the proof: PolR5. Conditions: as each states. -/
import Derived.Test.YtmbdghclhpboaaaGreatPb31
set_option linter.all false
set_option maxRecDepth 100000
set_option maxHeartbeats 8000000
namespace Go.Proofs.YtmbdghclhpboaaaGreat
open Go.RowKit
theorem row_far(w:World)(r:Nat)(cs:Array Value)(k:Nat)(h:k≠r):(w.setRow r cs).heap[k]?=w.heap[k]?:=by
 unfold World.setRow
 simp[Array.getElem?_modify,Ne.symm h]
theorem blk_row{w:World}{g:Nat}{t:TypeId}{old:Array Value}(h:Blk w g t old)(cs:Array Value):Blk (w.setRow g cs) g t cs:=setRow_heap w g old _ t _ h
theorem row_size(w:World)(r:Nat)(cs:Array Value):(w.setRow r cs).heap.size=w.heap.size:=by unfold World.setRow;simp
theorem gr_row{w w':World}{row:Option Nat}(h:w.grownBy w' row){r:Nat}(hr:w.heap.size≤r)(cs:Array Value):w.grownBy (w'.setRow r cs) row:=
 ⟨h.os,h.tape,h.output,Nat.le_trans h.size (Nat.le_of_eq (row_size _ _ _).symm),fun k hk hne=>(row_far w' r cs k (by omega)).trans (h.block k hk hne)⟩
theorem PrB.row{w:World}{g:Nat}{L:List Tk}{e:Nat×Nat}{p:Pr}(h:PrB w g L e p){r:Nat}(hr:g<r)(cs:Array Value):PrB (w.setRow r cs) g L e p:=h.keep fun b hb=>row_far w r cs b (by omega)
theorem gr_two{g d:Nat}{w w' w'':World}(h:w.grownBy w' (some g))(k:Two g d w' w'')(hd:w.heap.size≤d):w.grownBy w'' (some g):=
 ⟨k.os.trans h.os,k.tape.trans h.tape,k.output.trans h.output,Nat.le_trans h.size k.size,fun i hi hne=>(k.block i (Nat.lt_of_lt_of_le hi h.size) (by simp;refine ⟨fun e=>hne (by rw[e]),by omega⟩)).trans (h.block i hi hne)⟩
theorem dc_one(x:Dc)(v:Value)(h:v.oneCell'=true):(dcC x v).all (·.oneCell')=true:=by
 unfold Value.oneCell' at h
 simp[dcC,Value.oneCell',h]
theorem dc_size(x:Dc)(v:Value):(Tryz.prog.info? 175).map (·.size)=some (dcC x v).size:=by
 have h:(Tryz.prog.info? 175).map (·.size)=some 24:=by kernel_rfl
 rw[h]
 rfl
def dcZ(y x:Nat):Dc:={ Dc.zero with line:=y,col:=x }
def nilS:Value:=.slice none 0 0
def DclPost(w:World)(g:Nat)(L:List Tk)(e:Nat×Nat)(x:Dc)(p:Pr)(r:Ending)(w':World):Prop:=
 ∃v,r=.returned (.agg (dcC x v))∧Own bxC 4 76 w' w.heap.size v x.boxes∧PrB w' g L e p∧w.grownBy w' (some g)
theorem pdecl_0(w:World)(g:Nat)(L:List Tk)(e:Nat×Nat)(p:Pr)(h:PrB w g L e p)(hL:L.length≤1000000)(b0:p.is tRole=true) :
  Calls Tryz.prog 219 #[.pointer (some ⟨g,0,none⟩)] w (DclPost w g L e (pDecl e p).1 (pDecl e p).2):=by
 obtain ⟨w0,hst⟩:∃w0,w.alloc (.cells (dcC Dc.zero nilS) 175)=w0:=⟨_,rfl⟩
 have hgl:=h.lt
 have hb0:Blk w0 w.heap.size 175 (dcC Dc.zero nilS):=by rw[←hst];exact Blk.new _ _ _
 have hg0:w.grownBy w0 (some g):=by rw[←hst];exact gr_alloc _ _ _
 have h0:PrB w0 g L e p:=h.below (by rw[←hst];exact (Below.refl _ w).alloc (Nat.le_refl _) _)
 have hst':w.alloc (.cells #[.int .i64 0,.string ⟨#[]⟩,.int .i64 0,.slice none 0 0,.bool false,.string ⟨#[]⟩,.int .i64 0,.int .i64 0,.int .i64 0,.int .i64 0,.int .i64 0,.bool false,.string ⟨#[]⟩,.int .i64 0,.int .i64 0,.int .i64 0,.bool false,.string ⟨#[]⟩,.int .i64 0,.int .i64 0,.int .i64 0,.int .i64 0,.int .i64 0,.int .i64 0] 175)=w0:=hst
 clear hst
 have hpl:=pplace_ok w0 g L e p h0
 obtain ⟨⟨y,x⟩,hyx⟩:∃z,p.place e=z:=⟨_,rfl⟩
 rw[hyx] at hpl
 have HPL:=Lib.hid hpl
 have HR:=Lib.hid hb0
 have HG:=Lib.hid hg0
 have HH:=Lib.hid h0
 have HGL:=Lib.hid hgl
 have HLL:=Lib.hid hL
 clear h hb0 hg0 h0 hgl hpl hL
 obtain ⟨⟨x1,p1⟩,h1⟩:∃z,pNamed e ({ dcZ y x with kind:=1 }) p.on=z:=⟨_,rfl⟩
 have hr:pDecl e p=(x1,p1.want e [59]):=by
  unfold pDecl
  simp only[hyx,b0,Bool.false_eq_true,if_false,if_true]
  show ((pNamed e ({ dcZ y x with kind:=1 }) p.on).1,(pNamed e ({ dcZ y x with kind:=1 }) p.on).2.want e [59])=_
  rw[h1]
 rw[hr]
 have HBX:=Lib.hid (show x1.boxes=[] by rw[show x1=(pNamed e ({ dcZ y x with kind:=1 }) p.on).1 by rw[h1]];rfl)
 clear hr hyx
 go_enter Tryz.func219,Tryz.ntmps219
 go_wp2_with fail
 refine HPL.out.mono ?_
 rintro r w1 ⟨rfl,hw1⟩
 have HN:=Lib.hid (Blk.new w1 175 (dcC Dc.zero nilS))
 have hra:=(HR.out.below hw1 HR.out.lt).alloc (.cells (dcC Dc.zero nilS) 175)
 have hpa:=(HH.out.below hw1).below ((Below.refl _ w1).alloc (Nat.le_refl _) (.cells (dcC Dc.zero nilS) 175))
 have hga:=lx_to HG.out (lx_to (gr_below hw1 (some g)) (gr_alloc w1 (.cells (dcC Dc.zero nilS) 175) (some g)))
 obtain ⟨ua,hua⟩:∃ua,w1.alloc (.cells (dcC Dc.zero nilS) 175)=ua:=⟨_,rfl⟩
 have hua':w1.alloc (.cells #[.int .i64 0,.string ⟨#[]⟩,.int .i64 0,.slice none 0 0,.bool false,.string ⟨#[]⟩,.int .i64 0,.int .i64 0,.int .i64 0,.int .i64 0,.int .i64 0,.bool false,.string ⟨#[]⟩,.int .i64 0,.int .i64 0,.int .i64 0,.bool false,.string ⟨#[]⟩,.int .i64 0,.int .i64 0,.int .i64 0,.int .i64 0,.int .i64 0,.int .i64 0] 175)=ua:=hua
 rw[hua] at HN hra hpa hga
 have hrlt:=(HR.out.below hw1 HR.out.lt).lt
 have hglt:g<w1.heap.size:=by have:=HGL.out;omega
 have HR0:=Lib.hid (show Blk (ua.setRow w1.heap.size (dcC (dcZ y x) nilS)) w.heap.size _ _ from (row_far ua w1.heap.size (dcC (dcZ y x) nilS) w.heap.size (Nat.ne_of_lt hrlt)).trans hra)
 have HD0:=Lib.hid (show DcB (ua.setRow w1.heap.size (dcC (dcZ y x) nilS)) w1.heap.size (dcZ y x) nilS from blk_row HN.out _)
 have HP0:=Lib.hid (hpa.row hglt (dcC (dcZ y x) nilS))
 have HG0:=Lib.hid (gr_row hga (Nat.le_of_lt hrlt) (dcC (dcZ y x) nilS))
 clear hra hpa hga hua hrlt hglt
 have HRD:=Lib.hid (show w.heap.size<w1.heap.size from (HR.out.below hw1 HR.out.lt).lt)
 have hgd:=HGL.out
 have hrd:=HRD.out
 have HGD:=Lib.hid (show g<w1.heap.size by omega)
 clear hw1 hgd hrd
 obtain ⟨u0,hu0⟩:∃u0,ua.setRow w1.heap.size (dcC (dcZ y x) nilS)=u0:=⟨_,rfl⟩
 rw[hu0] at HR0 HD0 HP0 HG0
 obtain ⟨d,hd⟩:∃d,w1.heap.size=d:=⟨_,rfl⟩
 rw[hd] at HD0 HRD HGD HN hu0
 have HC0:=Lib.hid (took_ok u0 g L e p tRole HP0.out HLL.out)
 rw[b0] at HC0
 go_wp2_with (refine wpList_store_row rfl 175 (.tmp 3) (.tmp 7) rfl d (dcC (dcZ y x) nilS) rfl rfl 175 (dcC Dc.zero nilS) HN.out (dc_size _ _) rfl (dc_one _ _ rfl) ?_)
 refine HC0.out.mono ?_
 rintro r u1 ⟨rfl,hp,hg⟩
 have HP1:=Lib.hid hp
 have HD1:=Lib.hid (HD0.out.gr hg HGD.out)
 have HR1:=Lib.hid (HR0.out.grown hg (by have:=HGL.out;simp;omega))
 have HG1:=Lib.hid (lx_to HG0.out hg)
 clear hp hg
 have c0:=HD1.out.cell 0 rfl
 have f0:=HD1.out.fz 0
 have hlt:=HD1.out.lt
 have HP2:=Lib.hid (HP1.out.far HGD.out 0 (.int .i64 (1:Nat)))
 have HD2:=Lib.hid (HD1.out.kind 1)
 have HR2:=Lib.hid (HR1.out.far (p:=⟨d,0,none⟩) (Nat.ne_of_lt HRD.out) (.int .i64 (1:Nat)))
 have HG2:=Lib.hid (gr_put HG1.out (Nat.le_of_lt HRD.out) 0 (.int .i64 (1:Nat)))
 have hc:=pnamed_ok _ g d L e p.on ({ dcZ y x with kind:=1 }) nilS HP2.out HD2.out HGD.out HLL.out
 rw[h1] at hc
 have HCC:=Lib.hid hc
 clear hc h1
 go_wp2_with fail
 refine HCC.out.mono ?_
 rintro r v1 ⟨rfl,hp,hdd,hm⟩
 have HPa:=Lib.hid hp
 have HDa:=Lib.hid hdd
 have HRa:=Lib.hid (HR2.out.moves hm (by have:=HGL.out;have:=HRD.out;simp;omega))
 have HGa:=Lib.hid (gr_two HG2.out hm (Nat.le_of_lt HRD.out))
 clear hp hdd hm
 have HW:=Lib.hid (pwant_ok v1 g L e p1 [59] HPa.out HLL.out)
 go_wp2_with fail
 refine HW.out.mono ?_
 rintro r v2 ⟨rfl,hp,hg⟩
 have HPb:=Lib.hid hp
 have HDb:=Lib.hid (HDa.out.gr hg HGD.out)
 have HRb:=Lib.hid (HRa.out.grown hg (by have:=HGL.out;simp;omega))
 have HGb:=Lib.hid (lx_to HGa.out hg)
 clear hp hg
 go_wp2_with (first
  | (refine wpList_load_row rfl 175 (.tmp 3) rfl d rfl 175 (dcC x1 nilS) (0,0) _ HDb.out Tryz.underlying175 rfl (dc_size _ _) ?_)
  | (refine wpList_store_row rfl 175 (.tmp 2) (.tmp 48) rfl w.heap.size (dcC x1 nilS) rfl rfl 175 _ HRb.out (dc_size _ _) rfl (dc_one _ _ rfl) ?_))
 refine row_ret (ty:=175) rfl w.heap.size 175 _ rfl (blk_row HRb.out (dcC x1 nilS)) Tryz.underlying175 rfl (dc_size _ _) rfl ?_
 exact ⟨nilS,rfl,by rw[HBX.out];exact Own.nil,HPb.out.row HGL.out _,gr_row HGb.out (Nat.le_refl _) _⟩
theorem pdecl_1(w:World)(g:Nat)(L:List Tk)(e:Nat×Nat)(p:Pr)(h:PrB w g L e p)(hL:L.length≤1000000)(b0:p.is tRole=false)(b1:p.is tLabel=true) :
  Calls Tryz.prog 219 #[.pointer (some ⟨g,0,none⟩)] w (DclPost w g L e (pDecl e p).1 (pDecl e p).2):=by
 obtain ⟨w0,hst⟩:∃w0,w.alloc (.cells (dcC Dc.zero nilS) 175)=w0:=⟨_,rfl⟩
 have hgl:=h.lt
 have hb0:Blk w0 w.heap.size 175 (dcC Dc.zero nilS):=by rw[←hst];exact Blk.new _ _ _
 have hg0:w.grownBy w0 (some g):=by rw[←hst];exact gr_alloc _ _ _
 have h0:PrB w0 g L e p:=h.below (by rw[←hst];exact (Below.refl _ w).alloc (Nat.le_refl _) _)
 have hst':w.alloc (.cells #[.int .i64 0,.string ⟨#[]⟩,.int .i64 0,.slice none 0 0,.bool false,.string ⟨#[]⟩,.int .i64 0,.int .i64 0,.int .i64 0,.int .i64 0,.int .i64 0,.bool false,.string ⟨#[]⟩,.int .i64 0,.int .i64 0,.int .i64 0,.bool false,.string ⟨#[]⟩,.int .i64 0,.int .i64 0,.int .i64 0,.int .i64 0,.int .i64 0,.int .i64 0] 175)=w0:=hst
 clear hst
 have hpl:=pplace_ok w0 g L e p h0
 obtain ⟨⟨y,x⟩,hyx⟩:∃z,p.place e=z:=⟨_,rfl⟩
 rw[hyx] at hpl
 have HPL:=Lib.hid hpl
 have HR:=Lib.hid hb0
 have HG:=Lib.hid hg0
 have HH:=Lib.hid h0
 have HGL:=Lib.hid hgl
 have HLL:=Lib.hid hL
 clear h hb0 hg0 h0 hgl hpl hL
 obtain ⟨⟨x1,p1⟩,h1⟩:∃z,pNamed e ({ dcZ y x with kind:=2 }) p.on=z:=⟨_,rfl⟩
 have hr:pDecl e p=(x1,p1.want e [59]):=by
  unfold pDecl
  simp only[hyx,b0,b1,Bool.false_eq_true,if_false,if_true]
  show ((pNamed e ({ dcZ y x with kind:=2 }) p.on).1,(pNamed e ({ dcZ y x with kind:=2 }) p.on).2.want e [59])=_
  rw[h1]
 rw[hr]
 have HBX:=Lib.hid (show x1.boxes=[] by rw[show x1=(pNamed e ({ dcZ y x with kind:=2 }) p.on).1 by rw[h1]];rfl)
 clear hr hyx
 go_enter Tryz.func219,Tryz.ntmps219
 go_wp2_with fail
 refine HPL.out.mono ?_
 rintro r w1 ⟨rfl,hw1⟩
 have HN:=Lib.hid (Blk.new w1 175 (dcC Dc.zero nilS))
 have hra:=(HR.out.below hw1 HR.out.lt).alloc (.cells (dcC Dc.zero nilS) 175)
 have hpa:=(HH.out.below hw1).below ((Below.refl _ w1).alloc (Nat.le_refl _) (.cells (dcC Dc.zero nilS) 175))
 have hga:=lx_to HG.out (lx_to (gr_below hw1 (some g)) (gr_alloc w1 (.cells (dcC Dc.zero nilS) 175) (some g)))
 obtain ⟨ua,hua⟩:∃ua,w1.alloc (.cells (dcC Dc.zero nilS) 175)=ua:=⟨_,rfl⟩
 have hua':w1.alloc (.cells #[.int .i64 0,.string ⟨#[]⟩,.int .i64 0,.slice none 0 0,.bool false,.string ⟨#[]⟩,.int .i64 0,.int .i64 0,.int .i64 0,.int .i64 0,.int .i64 0,.bool false,.string ⟨#[]⟩,.int .i64 0,.int .i64 0,.int .i64 0,.bool false,.string ⟨#[]⟩,.int .i64 0,.int .i64 0,.int .i64 0,.int .i64 0,.int .i64 0,.int .i64 0] 175)=ua:=hua
 rw[hua] at HN hra hpa hga
 have hrlt:=(HR.out.below hw1 HR.out.lt).lt
 have hglt:g<w1.heap.size:=by have:=HGL.out;omega
 have HR0:=Lib.hid (show Blk (ua.setRow w1.heap.size (dcC (dcZ y x) nilS)) w.heap.size _ _ from (row_far ua w1.heap.size (dcC (dcZ y x) nilS) w.heap.size (Nat.ne_of_lt hrlt)).trans hra)
 have HD0:=Lib.hid (show DcB (ua.setRow w1.heap.size (dcC (dcZ y x) nilS)) w1.heap.size (dcZ y x) nilS from blk_row HN.out _)
 have HP0:=Lib.hid (hpa.row hglt (dcC (dcZ y x) nilS))
 have HG0:=Lib.hid (gr_row hga (Nat.le_of_lt hrlt) (dcC (dcZ y x) nilS))
 clear hra hpa hga hua hrlt hglt
 have HRD:=Lib.hid (show w.heap.size<w1.heap.size from (HR.out.below hw1 HR.out.lt).lt)
 have hgd:=HGL.out
 have hrd:=HRD.out
 have HGD:=Lib.hid (show g<w1.heap.size by omega)
 clear hw1 hgd hrd
 obtain ⟨u0,hu0⟩:∃u0,ua.setRow w1.heap.size (dcC (dcZ y x) nilS)=u0:=⟨_,rfl⟩
 rw[hu0] at HR0 HD0 HP0 HG0
 obtain ⟨d,hd⟩:∃d,w1.heap.size=d:=⟨_,rfl⟩
 rw[hd] at HD0 HRD HGD HN hu0
 have HC0:=Lib.hid (took_ok u0 g L e p tRole HP0.out HLL.out)
 rw[b0] at HC0
 go_wp2_with (refine wpList_store_row rfl 175 (.tmp 3) (.tmp 7) rfl d (dcC (dcZ y x) nilS) rfl rfl 175 (dcC Dc.zero nilS) HN.out (dc_size _ _) rfl (dc_one _ _ rfl) ?_)
 refine HC0.out.mono ?_
 rintro r u1 ⟨rfl,hp,hg⟩
 have HP1:=Lib.hid hp
 have HD1:=Lib.hid (HD0.out.gr hg HGD.out)
 have HR1:=Lib.hid (HR0.out.grown hg (by have:=HGL.out;simp;omega))
 have HG1:=Lib.hid (lx_to HG0.out hg)
 clear hp hg
 have HC1:=Lib.hid (took_ok u1 g L e p tLabel HP1.out HLL.out)
 rw[b1] at HC1
 go_wp2_with fail
 refine HC1.out.mono ?_
 rintro r u2 ⟨rfl,hp,hg⟩
 have HP2:=Lib.hid hp
 have HD2:=Lib.hid (HD1.out.gr hg HGD.out)
 have HR2:=Lib.hid (HR1.out.grown hg (by have:=HGL.out;simp;omega))
 have HG2:=Lib.hid (lx_to HG1.out hg)
 clear hp hg
 have c0:=HD2.out.cell 0 rfl
 have f0:=HD2.out.fz 0
 have hlt:=HD2.out.lt
 have HP3:=Lib.hid (HP2.out.far HGD.out 0 (.int .i64 (2:Nat)))
 have HD3:=Lib.hid (HD2.out.kind 2)
 have HR3:=Lib.hid (HR2.out.far (p:=⟨d,0,none⟩) (Nat.ne_of_lt HRD.out) (.int .i64 (2:Nat)))
 have HG3:=Lib.hid (gr_put HG2.out (Nat.le_of_lt HRD.out) 0 (.int .i64 (2:Nat)))
 have hc:=pnamed_ok _ g d L e p.on ({ dcZ y x with kind:=2 }) nilS HP3.out HD3.out HGD.out HLL.out
 rw[h1] at hc
 have HCC:=Lib.hid hc
 clear hc h1
 go_wp2_with fail
 refine HCC.out.mono ?_
 rintro r v1 ⟨rfl,hp,hdd,hm⟩
 have HPa:=Lib.hid hp
 have HDa:=Lib.hid hdd
 have HRa:=Lib.hid (HR3.out.moves hm (by have:=HGL.out;have:=HRD.out;simp;omega))
 have HGa:=Lib.hid (gr_two HG3.out hm (Nat.le_of_lt HRD.out))
 clear hp hdd hm
 have HW:=Lib.hid (pwant_ok v1 g L e p1 [59] HPa.out HLL.out)
 go_wp2_with fail
 refine HW.out.mono ?_
 rintro r v2 ⟨rfl,hp,hg⟩
 have HPb:=Lib.hid hp
 have HDb:=Lib.hid (HDa.out.gr hg HGD.out)
 have HRb:=Lib.hid (HRa.out.grown hg (by have:=HGL.out;simp;omega))
 have HGb:=Lib.hid (lx_to HGa.out hg)
 clear hp hg
 go_wp2_with (first
  | (refine wpList_load_row rfl 175 (.tmp 3) rfl d rfl 175 (dcC x1 nilS) (0,0) _ HDb.out Tryz.underlying175 rfl (dc_size _ _) ?_)
  | (refine wpList_store_row rfl 175 (.tmp 2) (.tmp 48) rfl w.heap.size (dcC x1 nilS) rfl rfl 175 _ HRb.out (dc_size _ _) rfl (dc_one _ _ rfl) ?_))
 refine row_ret (ty:=175) rfl w.heap.size 175 _ rfl (blk_row HRb.out (dcC x1 nilS)) Tryz.underlying175 rfl (dc_size _ _) rfl ?_
 exact ⟨nilS,rfl,by rw[HBX.out];exact Own.nil,HPb.out.row HGL.out _,gr_row HGb.out (Nat.le_refl _) _⟩
theorem pdecl_2(w:World)(g:Nat)(L:List Tk)(e:Nat×Nat)(p:Pr)(h:PrB w g L e p)(hL:L.length≤1000000)(b0:p.is tRole=false)(b1:p.is tLabel=false)(b2:p.is tRegion=true) :
  Calls Tryz.prog 219 #[.pointer (some ⟨g,0,none⟩)] w (DclPost w g L e (pDecl e p).1 (pDecl e p).2):=by
 obtain ⟨w0,hst⟩:∃w0,w.alloc (.cells (dcC Dc.zero nilS) 175)=w0:=⟨_,rfl⟩
 have hgl:=h.lt
 have hb0:Blk w0 w.heap.size 175 (dcC Dc.zero nilS):=by rw[←hst];exact Blk.new _ _ _
 have hg0:w.grownBy w0 (some g):=by rw[←hst];exact gr_alloc _ _ _
 have h0:PrB w0 g L e p:=h.below (by rw[←hst];exact (Below.refl _ w).alloc (Nat.le_refl _) _)
 have hst':w.alloc (.cells #[.int .i64 0,.string ⟨#[]⟩,.int .i64 0,.slice none 0 0,.bool false,.string ⟨#[]⟩,.int .i64 0,.int .i64 0,.int .i64 0,.int .i64 0,.int .i64 0,.bool false,.string ⟨#[]⟩,.int .i64 0,.int .i64 0,.int .i64 0,.bool false,.string ⟨#[]⟩,.int .i64 0,.int .i64 0,.int .i64 0,.int .i64 0,.int .i64 0,.int .i64 0] 175)=w0:=hst
 clear hst
 have hpl:=pplace_ok w0 g L e p h0
 obtain ⟨⟨y,x⟩,hyx⟩:∃z,p.place e=z:=⟨_,rfl⟩
 rw[hyx] at hpl
 have HPL:=Lib.hid hpl
 have HR:=Lib.hid hb0
 have HG:=Lib.hid hg0
 have HH:=Lib.hid h0
 have HGL:=Lib.hid hgl
 have HLL:=Lib.hid hL
 clear h hb0 hg0 h0 hgl hpl hL
 obtain ⟨⟨x1,p1⟩,h1⟩:∃z,pRegion e ({ dcZ y x with kind:=3 }) p.on=z:=⟨_,rfl⟩
 have hr:pDecl e p=(x1,p1.want e [59]):=by
  unfold pDecl
  simp only[hyx,b0,b1,b2,Bool.false_eq_true,if_false,if_true]
  show ((pRegion e ({ dcZ y x with kind:=3 }) p.on).1,(pRegion e ({ dcZ y x with kind:=3 }) p.on).2.want e [59])=_
  rw[h1]
 rw[hr]
 clear hr hyx
 go_enter Tryz.func219,Tryz.ntmps219
 go_wp2_with fail
 refine HPL.out.mono ?_
 rintro r w1 ⟨rfl,hw1⟩
 have HN:=Lib.hid (Blk.new w1 175 (dcC Dc.zero nilS))
 have hra:=(HR.out.below hw1 HR.out.lt).alloc (.cells (dcC Dc.zero nilS) 175)
 have hpa:=(HH.out.below hw1).below ((Below.refl _ w1).alloc (Nat.le_refl _) (.cells (dcC Dc.zero nilS) 175))
 have hga:=lx_to HG.out (lx_to (gr_below hw1 (some g)) (gr_alloc w1 (.cells (dcC Dc.zero nilS) 175) (some g)))
 obtain ⟨ua,hua⟩:∃ua,w1.alloc (.cells (dcC Dc.zero nilS) 175)=ua:=⟨_,rfl⟩
 have hua':w1.alloc (.cells #[.int .i64 0,.string ⟨#[]⟩,.int .i64 0,.slice none 0 0,.bool false,.string ⟨#[]⟩,.int .i64 0,.int .i64 0,.int .i64 0,.int .i64 0,.int .i64 0,.bool false,.string ⟨#[]⟩,.int .i64 0,.int .i64 0,.int .i64 0,.bool false,.string ⟨#[]⟩,.int .i64 0,.int .i64 0,.int .i64 0,.int .i64 0,.int .i64 0,.int .i64 0] 175)=ua:=hua
 rw[hua] at HN hra hpa hga
 have hrlt:=(HR.out.below hw1 HR.out.lt).lt
 have hglt:g<w1.heap.size:=by have:=HGL.out;omega
 have HR0:=Lib.hid (show Blk (ua.setRow w1.heap.size (dcC (dcZ y x) nilS)) w.heap.size _ _ from (row_far ua w1.heap.size (dcC (dcZ y x) nilS) w.heap.size (Nat.ne_of_lt hrlt)).trans hra)
 have HD0:=Lib.hid (show DcB (ua.setRow w1.heap.size (dcC (dcZ y x) nilS)) w1.heap.size (dcZ y x) nilS from blk_row HN.out _)
 have HP0:=Lib.hid (hpa.row hglt (dcC (dcZ y x) nilS))
 have HG0:=Lib.hid (gr_row hga (Nat.le_of_lt hrlt) (dcC (dcZ y x) nilS))
 clear hra hpa hga hua hrlt hglt
 have HRD:=Lib.hid (show w.heap.size<w1.heap.size from (HR.out.below hw1 HR.out.lt).lt)
 have hgd:=HGL.out
 have hrd:=HRD.out
 have HGD:=Lib.hid (show g<w1.heap.size by omega)
 clear hw1 hgd hrd
 obtain ⟨u0,hu0⟩:∃u0,ua.setRow w1.heap.size (dcC (dcZ y x) nilS)=u0:=⟨_,rfl⟩
 rw[hu0] at HR0 HD0 HP0 HG0
 obtain ⟨d,hd⟩:∃d,w1.heap.size=d:=⟨_,rfl⟩
 rw[hd] at HD0 HRD HGD HN hu0
 have HC0:=Lib.hid (took_ok u0 g L e p tRole HP0.out HLL.out)
 rw[b0] at HC0
 go_wp2_with (refine wpList_store_row rfl 175 (.tmp 3) (.tmp 7) rfl d (dcC (dcZ y x) nilS) rfl rfl 175 (dcC Dc.zero nilS) HN.out (dc_size _ _) rfl (dc_one _ _ rfl) ?_)
 refine HC0.out.mono ?_
 rintro r u1 ⟨rfl,hp,hg⟩
 have HP1:=Lib.hid hp
 have HD1:=Lib.hid (HD0.out.gr hg HGD.out)
 have HR1:=Lib.hid (HR0.out.grown hg (by have:=HGL.out;simp;omega))
 have HG1:=Lib.hid (lx_to HG0.out hg)
 clear hp hg
 have HC1:=Lib.hid (took_ok u1 g L e p tLabel HP1.out HLL.out)
 rw[b1] at HC1
 go_wp2_with fail
 refine HC1.out.mono ?_
 rintro r u2 ⟨rfl,hp,hg⟩
 have HP2:=Lib.hid hp
 have HD2:=Lib.hid (HD1.out.gr hg HGD.out)
 have HR2:=Lib.hid (HR1.out.grown hg (by have:=HGL.out;simp;omega))
 have HG2:=Lib.hid (lx_to HG1.out hg)
 clear hp hg
 have HC2:=Lib.hid (took_ok u2 g L e p tRegion HP2.out HLL.out)
 rw[b2] at HC2
 go_wp2_with fail
 refine HC2.out.mono ?_
 rintro r u3 ⟨rfl,hp,hg⟩
 have HP3:=Lib.hid hp
 have HD3:=Lib.hid (HD2.out.gr hg HGD.out)
 have HR3:=Lib.hid (HR2.out.grown hg (by have:=HGL.out;simp;omega))
 have HG3:=Lib.hid (lx_to HG2.out hg)
 clear hp hg
 have c0:=HD3.out.cell 0 rfl
 have f0:=HD3.out.fz 0
 have hlt:=HD3.out.lt
 have HP4:=Lib.hid (HP3.out.far HGD.out 0 (.int .i64 (3:Nat)))
 have HD4:=Lib.hid (HD3.out.kind 3)
 have HR4:=Lib.hid (HR3.out.far (p:=⟨d,0,none⟩) (Nat.ne_of_lt HRD.out) (.int .i64 (3:Nat)))
 have HG4:=Lib.hid (gr_put HG3.out (Nat.le_of_lt HRD.out) 0 (.int .i64 (3:Nat)))
 have hc:=pregion_ok _ g d L e p.on ({ dcZ y x with kind:=3 }) nilS HP4.out HD4.out HGD.out HLL.out
 rw[h1] at hc
 have HCC:=Lib.hid hc
 clear hc h1
 go_wp2_with fail
 refine HCC.out.mono ?_
 rintro r v1 ⟨v,rfl,hp,hdd,ho,hm⟩
 obtain ⟨A,cap,hv⟩:=ho.form
 have HV1:=Lib.hid (show v.oneCell'=true by rw[hv];rfl)
 have HO1:=Lib.hid (ho.more HG4.out.size)
 have HOD:=Lib.hid (show v.ownBlock≠some d∧v.ownBlock≠some g∧v.ownBlock≠some w.heap.size from ⟨fun e=>by have:=ho.lt d e;have:=HD4.out.lt;omega,fun e=>by have:=ho.lt g e;have:=HP4.out.lt;omega,fun e=>by have:=ho.lt _ e;have:=HR4.out.lt;omega⟩)
 clear ho hv
 have HPa:=Lib.hid hp
 have HDa:=Lib.hid hdd
 have HRa:=Lib.hid (HR4.out.moves hm (by have:=HGL.out;have:=HRD.out;simp;omega))
 have HGa:=Lib.hid (gr_two HG4.out hm (Nat.le_of_lt HRD.out))
 clear hp hdd hm
 have HW:=Lib.hid (pwant_ok v1 g L e p1 [59] HPa.out HLL.out)
 go_wp2_with fail
 refine HW.out.mono ?_
 rintro r v2 ⟨rfl,hp,hg⟩
 have HPb:=Lib.hid hp
 have HDb:=Lib.hid (HDa.out.gr hg HGD.out)
 have HRb:=Lib.hid (HRa.out.grown hg (by have:=HGL.out;simp;omega))
 have HGb:=Lib.hid (lx_to HGa.out hg)
 have HOb:=Lib.hid (HO1.out.grown hg (.inr HOD.out.2.1))
 clear hp hg
 go_wp2_with (first
  | (refine wpList_load_row rfl 175 (.tmp 3) rfl d rfl 175 (dcC x1 v) (0,0) _ HDb.out Tryz.underlying175 rfl (dc_size _ _) ?_)
  | (refine wpList_store_row rfl 175 (.tmp 2) (.tmp 48) rfl w.heap.size (dcC x1 v) rfl rfl 175 _ HRb.out (dc_size _ _) rfl (dc_one _ _ HV1.out) ?_))
 refine row_ret (ty:=175) rfl w.heap.size 175 _ rfl (blk_row HRb.out (dcC x1 v)) Tryz.underlying175 rfl (dc_size _ _) rfl ?_
 exact ⟨v,rfl,HOb.out.keep (fun b hb=>row_far _ _ _ _ (fun e=>HOD.out.2.2 (by rw[hb,e]))),HPb.out.row HGL.out _,gr_row HGb.out (Nat.le_refl _) _⟩
theorem pdecl_3(w:World)(g:Nat)(L:List Tk)(e:Nat×Nat)(p:Pr)(h:PrB w g L e p)(hL:L.length≤1000000)(b0:p.is tRole=false)(b1:p.is tLabel=false)(b2:p.is tRegion=false)(b3:p.is tAllow=true) :
  Calls Tryz.prog 219 #[.pointer (some ⟨g,0,none⟩)] w (DclPost w g L e (pDecl e p).1 (pDecl e p).2):=by
 obtain ⟨w0,hst⟩:∃w0,w.alloc (.cells (dcC Dc.zero nilS) 175)=w0:=⟨_,rfl⟩
 have hgl:=h.lt
 have hb0:Blk w0 w.heap.size 175 (dcC Dc.zero nilS):=by rw[←hst];exact Blk.new _ _ _
 have hg0:w.grownBy w0 (some g):=by rw[←hst];exact gr_alloc _ _ _
 have h0:PrB w0 g L e p:=h.below (by rw[←hst];exact (Below.refl _ w).alloc (Nat.le_refl _) _)
 have hst':w.alloc (.cells #[.int .i64 0,.string ⟨#[]⟩,.int .i64 0,.slice none 0 0,.bool false,.string ⟨#[]⟩,.int .i64 0,.int .i64 0,.int .i64 0,.int .i64 0,.int .i64 0,.bool false,.string ⟨#[]⟩,.int .i64 0,.int .i64 0,.int .i64 0,.bool false,.string ⟨#[]⟩,.int .i64 0,.int .i64 0,.int .i64 0,.int .i64 0,.int .i64 0,.int .i64 0] 175)=w0:=hst
 clear hst
 have hpl:=pplace_ok w0 g L e p h0
 obtain ⟨⟨y,x⟩,hyx⟩:∃z,p.place e=z:=⟨_,rfl⟩
 rw[hyx] at hpl
 have HPL:=Lib.hid hpl
 have HR:=Lib.hid hb0
 have HG:=Lib.hid hg0
 have HH:=Lib.hid h0
 have HGL:=Lib.hid hgl
 have HLL:=Lib.hid hL
 clear h hb0 hg0 h0 hgl hpl hL
 obtain ⟨⟨x1,p1⟩,h1⟩:∃z,pRule e ({ dcZ y x with kind:=4 }) p.on=z:=⟨_,rfl⟩
 have hr:pDecl e p=(x1,p1.want e [59]):=by
  unfold pDecl
  simp only[hyx,b0,b1,b2,b3,Bool.false_eq_true,if_false,if_true]
  show ((pRule e ({ dcZ y x with kind:=4 }) p.on).1,(pRule e ({ dcZ y x with kind:=4 }) p.on).2.want e [59])=_
  rw[h1]
 rw[hr]
 have HBX:=Lib.hid (show x1.boxes=[] by rw[show x1=(pRule e ({ dcZ y x with kind:=4 }) p.on).1 by rw[h1]];rfl)
 clear hr hyx
 go_enter Tryz.func219,Tryz.ntmps219
 go_wp2_with fail
 refine HPL.out.mono ?_
 rintro r w1 ⟨rfl,hw1⟩
 have HN:=Lib.hid (Blk.new w1 175 (dcC Dc.zero nilS))
 have hra:=(HR.out.below hw1 HR.out.lt).alloc (.cells (dcC Dc.zero nilS) 175)
 have hpa:=(HH.out.below hw1).below ((Below.refl _ w1).alloc (Nat.le_refl _) (.cells (dcC Dc.zero nilS) 175))
 have hga:=lx_to HG.out (lx_to (gr_below hw1 (some g)) (gr_alloc w1 (.cells (dcC Dc.zero nilS) 175) (some g)))
 obtain ⟨ua,hua⟩:∃ua,w1.alloc (.cells (dcC Dc.zero nilS) 175)=ua:=⟨_,rfl⟩
 have hua':w1.alloc (.cells #[.int .i64 0,.string ⟨#[]⟩,.int .i64 0,.slice none 0 0,.bool false,.string ⟨#[]⟩,.int .i64 0,.int .i64 0,.int .i64 0,.int .i64 0,.int .i64 0,.bool false,.string ⟨#[]⟩,.int .i64 0,.int .i64 0,.int .i64 0,.bool false,.string ⟨#[]⟩,.int .i64 0,.int .i64 0,.int .i64 0,.int .i64 0,.int .i64 0,.int .i64 0] 175)=ua:=hua
 rw[hua] at HN hra hpa hga
 have hrlt:=(HR.out.below hw1 HR.out.lt).lt
 have hglt:g<w1.heap.size:=by have:=HGL.out;omega
 have HR0:=Lib.hid (show Blk (ua.setRow w1.heap.size (dcC (dcZ y x) nilS)) w.heap.size _ _ from (row_far ua w1.heap.size (dcC (dcZ y x) nilS) w.heap.size (Nat.ne_of_lt hrlt)).trans hra)
 have HD0:=Lib.hid (show DcB (ua.setRow w1.heap.size (dcC (dcZ y x) nilS)) w1.heap.size (dcZ y x) nilS from blk_row HN.out _)
 have HP0:=Lib.hid (hpa.row hglt (dcC (dcZ y x) nilS))
 have HG0:=Lib.hid (gr_row hga (Nat.le_of_lt hrlt) (dcC (dcZ y x) nilS))
 clear hra hpa hga hua hrlt hglt
 have HRD:=Lib.hid (show w.heap.size<w1.heap.size from (HR.out.below hw1 HR.out.lt).lt)
 have hgd:=HGL.out
 have hrd:=HRD.out
 have HGD:=Lib.hid (show g<w1.heap.size by omega)
 clear hw1 hgd hrd
 obtain ⟨u0,hu0⟩:∃u0,ua.setRow w1.heap.size (dcC (dcZ y x) nilS)=u0:=⟨_,rfl⟩
 rw[hu0] at HR0 HD0 HP0 HG0
 obtain ⟨d,hd⟩:∃d,w1.heap.size=d:=⟨_,rfl⟩
 rw[hd] at HD0 HRD HGD HN hu0
 have HC0:=Lib.hid (took_ok u0 g L e p tRole HP0.out HLL.out)
 rw[b0] at HC0
 go_wp2_with (refine wpList_store_row rfl 175 (.tmp 3) (.tmp 7) rfl d (dcC (dcZ y x) nilS) rfl rfl 175 (dcC Dc.zero nilS) HN.out (dc_size _ _) rfl (dc_one _ _ rfl) ?_)
 refine HC0.out.mono ?_
 rintro r u1 ⟨rfl,hp,hg⟩
 have HP1:=Lib.hid hp
 have HD1:=Lib.hid (HD0.out.gr hg HGD.out)
 have HR1:=Lib.hid (HR0.out.grown hg (by have:=HGL.out;simp;omega))
 have HG1:=Lib.hid (lx_to HG0.out hg)
 clear hp hg
 have HC1:=Lib.hid (took_ok u1 g L e p tLabel HP1.out HLL.out)
 rw[b1] at HC1
 go_wp2_with fail
 refine HC1.out.mono ?_
 rintro r u2 ⟨rfl,hp,hg⟩
 have HP2:=Lib.hid hp
 have HD2:=Lib.hid (HD1.out.gr hg HGD.out)
 have HR2:=Lib.hid (HR1.out.grown hg (by have:=HGL.out;simp;omega))
 have HG2:=Lib.hid (lx_to HG1.out hg)
 clear hp hg
 have HC2:=Lib.hid (took_ok u2 g L e p tRegion HP2.out HLL.out)
 rw[b2] at HC2
 go_wp2_with fail
 refine HC2.out.mono ?_
 rintro r u3 ⟨rfl,hp,hg⟩
 have HP3:=Lib.hid hp
 have HD3:=Lib.hid (HD2.out.gr hg HGD.out)
 have HR3:=Lib.hid (HR2.out.grown hg (by have:=HGL.out;simp;omega))
 have HG3:=Lib.hid (lx_to HG2.out hg)
 clear hp hg
 have HC3:=Lib.hid (took_ok u3 g L e p tAllow HP3.out HLL.out)
 rw[b3] at HC3
 go_wp2_with fail
 refine HC3.out.mono ?_
 rintro r u4 ⟨rfl,hp,hg⟩
 have HP4:=Lib.hid hp
 have HD4:=Lib.hid (HD3.out.gr hg HGD.out)
 have HR4:=Lib.hid (HR3.out.grown hg (by have:=HGL.out;simp;omega))
 have HG4:=Lib.hid (lx_to HG3.out hg)
 clear hp hg
 have c0:=HD4.out.cell 0 rfl
 have f0:=HD4.out.fz 0
 have hlt:=HD4.out.lt
 have HP5:=Lib.hid (HP4.out.far HGD.out 0 (.int .i64 (4:Nat)))
 have HD5:=Lib.hid (HD4.out.kind 4)
 have HR5:=Lib.hid (HR4.out.far (p:=⟨d,0,none⟩) (Nat.ne_of_lt HRD.out) (.int .i64 (4:Nat)))
 have HG5:=Lib.hid (gr_put HG4.out (Nat.le_of_lt HRD.out) 0 (.int .i64 (4:Nat)))
 have hc:=prule_ok _ g d L e p.on ({ dcZ y x with kind:=4 }) nilS HP5.out HD5.out HGD.out HLL.out
 rw[h1] at hc
 have HCC:=Lib.hid hc
 clear hc h1
 go_wp2_with fail
 refine HCC.out.mono ?_
 rintro r v1 ⟨rfl,hp,hdd,hm⟩
 have HPa:=Lib.hid hp
 have HDa:=Lib.hid hdd
 have HRa:=Lib.hid (HR5.out.moves hm (by have:=HGL.out;have:=HRD.out;simp;omega))
 have HGa:=Lib.hid (gr_two HG5.out hm (Nat.le_of_lt HRD.out))
 clear hp hdd hm
 have HW:=Lib.hid (pwant_ok v1 g L e p1 [59] HPa.out HLL.out)
 go_wp2_with fail
 refine HW.out.mono ?_
 rintro r v2 ⟨rfl,hp,hg⟩
 have HPb:=Lib.hid hp
 have HDb:=Lib.hid (HDa.out.gr hg HGD.out)
 have HRb:=Lib.hid (HRa.out.grown hg (by have:=HGL.out;simp;omega))
 have HGb:=Lib.hid (lx_to HGa.out hg)
 clear hp hg
 go_wp2_with (first
  | (refine wpList_load_row rfl 175 (.tmp 3) rfl d rfl 175 (dcC x1 nilS) (0,0) _ HDb.out Tryz.underlying175 rfl (dc_size _ _) ?_)
  | (refine wpList_store_row rfl 175 (.tmp 2) (.tmp 48) rfl w.heap.size (dcC x1 nilS) rfl rfl 175 _ HRb.out (dc_size _ _) rfl (dc_one _ _ rfl) ?_))
 refine row_ret (ty:=175) rfl w.heap.size 175 _ rfl (blk_row HRb.out (dcC x1 nilS)) Tryz.underlying175 rfl (dc_size _ _) rfl ?_
 exact ⟨nilS,rfl,by rw[HBX.out];exact Own.nil,HPb.out.row HGL.out _,gr_row HGb.out (Nat.le_refl _) _⟩
theorem pdecl_4(w:World)(g:Nat)(L:List Tk)(e:Nat×Nat)(p:Pr)(h:PrB w g L e p)(hL:L.length≤1000000)(b0:p.is tRole=false)(b1:p.is tLabel=false)(b2:p.is tRegion=false)(b3:p.is tAllow=false)(b4:p.is tCap=true) :
  Calls Tryz.prog 219 #[.pointer (some ⟨g,0,none⟩)] w (DclPost w g L e (pDecl e p).1 (pDecl e p).2):=by
 obtain ⟨w0,hst⟩:∃w0,w.alloc (.cells (dcC Dc.zero nilS) 175)=w0:=⟨_,rfl⟩
 have hgl:=h.lt
 have hb0:Blk w0 w.heap.size 175 (dcC Dc.zero nilS):=by rw[←hst];exact Blk.new _ _ _
 have hg0:w.grownBy w0 (some g):=by rw[←hst];exact gr_alloc _ _ _
 have h0:PrB w0 g L e p:=h.below (by rw[←hst];exact (Below.refl _ w).alloc (Nat.le_refl _) _)
 have hst':w.alloc (.cells #[.int .i64 0,.string ⟨#[]⟩,.int .i64 0,.slice none 0 0,.bool false,.string ⟨#[]⟩,.int .i64 0,.int .i64 0,.int .i64 0,.int .i64 0,.int .i64 0,.bool false,.string ⟨#[]⟩,.int .i64 0,.int .i64 0,.int .i64 0,.bool false,.string ⟨#[]⟩,.int .i64 0,.int .i64 0,.int .i64 0,.int .i64 0,.int .i64 0,.int .i64 0] 175)=w0:=hst
 clear hst
 have hpl:=pplace_ok w0 g L e p h0
 obtain ⟨⟨y,x⟩,hyx⟩:∃z,p.place e=z:=⟨_,rfl⟩
 rw[hyx] at hpl
 have HPL:=Lib.hid hpl
 have HR:=Lib.hid hb0
 have HG:=Lib.hid hg0
 have HH:=Lib.hid h0
 have HGL:=Lib.hid hgl
 have HLL:=Lib.hid hL
 clear h hb0 hg0 h0 hgl hpl hL
 obtain ⟨⟨x1,p1⟩,h1⟩:∃z,pRule e ({ dcZ y x with kind:=5 }) p.on=z:=⟨_,rfl⟩
 have hr:pDecl e p=(x1,p1.want e [59]):=by
  unfold pDecl
  simp only[hyx,b0,b1,b2,b3,b4,Bool.false_eq_true,if_false,if_true]
  show ((pRule e ({ dcZ y x with kind:=5 }) p.on).1,(pRule e ({ dcZ y x with kind:=5 }) p.on).2.want e [59])=_
  rw[h1]
 rw[hr]
 have HBX:=Lib.hid (show x1.boxes=[] by rw[show x1=(pRule e ({ dcZ y x with kind:=5 }) p.on).1 by rw[h1]];rfl)
 clear hr hyx
 go_enter Tryz.func219,Tryz.ntmps219
 go_wp2_with fail
 refine HPL.out.mono ?_
 rintro r w1 ⟨rfl,hw1⟩
 have HN:=Lib.hid (Blk.new w1 175 (dcC Dc.zero nilS))
 have hra:=(HR.out.below hw1 HR.out.lt).alloc (.cells (dcC Dc.zero nilS) 175)
 have hpa:=(HH.out.below hw1).below ((Below.refl _ w1).alloc (Nat.le_refl _) (.cells (dcC Dc.zero nilS) 175))
 have hga:=lx_to HG.out (lx_to (gr_below hw1 (some g)) (gr_alloc w1 (.cells (dcC Dc.zero nilS) 175) (some g)))
 obtain ⟨ua,hua⟩:∃ua,w1.alloc (.cells (dcC Dc.zero nilS) 175)=ua:=⟨_,rfl⟩
 have hua':w1.alloc (.cells #[.int .i64 0,.string ⟨#[]⟩,.int .i64 0,.slice none 0 0,.bool false,.string ⟨#[]⟩,.int .i64 0,.int .i64 0,.int .i64 0,.int .i64 0,.int .i64 0,.bool false,.string ⟨#[]⟩,.int .i64 0,.int .i64 0,.int .i64 0,.bool false,.string ⟨#[]⟩,.int .i64 0,.int .i64 0,.int .i64 0,.int .i64 0,.int .i64 0,.int .i64 0] 175)=ua:=hua
 rw[hua] at HN hra hpa hga
 have hrlt:=(HR.out.below hw1 HR.out.lt).lt
 have hglt:g<w1.heap.size:=by have:=HGL.out;omega
 have HR0:=Lib.hid (show Blk (ua.setRow w1.heap.size (dcC (dcZ y x) nilS)) w.heap.size _ _ from (row_far ua w1.heap.size (dcC (dcZ y x) nilS) w.heap.size (Nat.ne_of_lt hrlt)).trans hra)
 have HD0:=Lib.hid (show DcB (ua.setRow w1.heap.size (dcC (dcZ y x) nilS)) w1.heap.size (dcZ y x) nilS from blk_row HN.out _)
 have HP0:=Lib.hid (hpa.row hglt (dcC (dcZ y x) nilS))
 have HG0:=Lib.hid (gr_row hga (Nat.le_of_lt hrlt) (dcC (dcZ y x) nilS))
 clear hra hpa hga hua hrlt hglt
 have HRD:=Lib.hid (show w.heap.size<w1.heap.size from (HR.out.below hw1 HR.out.lt).lt)
 have hgd:=HGL.out
 have hrd:=HRD.out
 have HGD:=Lib.hid (show g<w1.heap.size by omega)
 clear hw1 hgd hrd
 obtain ⟨u0,hu0⟩:∃u0,ua.setRow w1.heap.size (dcC (dcZ y x) nilS)=u0:=⟨_,rfl⟩
 rw[hu0] at HR0 HD0 HP0 HG0
 obtain ⟨d,hd⟩:∃d,w1.heap.size=d:=⟨_,rfl⟩
 rw[hd] at HD0 HRD HGD HN hu0
 have HC0:=Lib.hid (took_ok u0 g L e p tRole HP0.out HLL.out)
 rw[b0] at HC0
 go_wp2_with (refine wpList_store_row rfl 175 (.tmp 3) (.tmp 7) rfl d (dcC (dcZ y x) nilS) rfl rfl 175 (dcC Dc.zero nilS) HN.out (dc_size _ _) rfl (dc_one _ _ rfl) ?_)
 refine HC0.out.mono ?_
 rintro r u1 ⟨rfl,hp,hg⟩
 have HP1:=Lib.hid hp
 have HD1:=Lib.hid (HD0.out.gr hg HGD.out)
 have HR1:=Lib.hid (HR0.out.grown hg (by have:=HGL.out;simp;omega))
 have HG1:=Lib.hid (lx_to HG0.out hg)
 clear hp hg
 have HC1:=Lib.hid (took_ok u1 g L e p tLabel HP1.out HLL.out)
 rw[b1] at HC1
 go_wp2_with fail
 refine HC1.out.mono ?_
 rintro r u2 ⟨rfl,hp,hg⟩
 have HP2:=Lib.hid hp
 have HD2:=Lib.hid (HD1.out.gr hg HGD.out)
 have HR2:=Lib.hid (HR1.out.grown hg (by have:=HGL.out;simp;omega))
 have HG2:=Lib.hid (lx_to HG1.out hg)
 clear hp hg
 have HC2:=Lib.hid (took_ok u2 g L e p tRegion HP2.out HLL.out)
 rw[b2] at HC2
 go_wp2_with fail
 refine HC2.out.mono ?_
 rintro r u3 ⟨rfl,hp,hg⟩
 have HP3:=Lib.hid hp
 have HD3:=Lib.hid (HD2.out.gr hg HGD.out)
 have HR3:=Lib.hid (HR2.out.grown hg (by have:=HGL.out;simp;omega))
 have HG3:=Lib.hid (lx_to HG2.out hg)
 clear hp hg
 have HC3:=Lib.hid (took_ok u3 g L e p tAllow HP3.out HLL.out)
 rw[b3] at HC3
 go_wp2_with fail
 refine HC3.out.mono ?_
 rintro r u4 ⟨rfl,hp,hg⟩
 have HP4:=Lib.hid hp
 have HD4:=Lib.hid (HD3.out.gr hg HGD.out)
 have HR4:=Lib.hid (HR3.out.grown hg (by have:=HGL.out;simp;omega))
 have HG4:=Lib.hid (lx_to HG3.out hg)
 clear hp hg
 have HC4:=Lib.hid (took_ok u4 g L e p tCap HP4.out HLL.out)
 rw[b4] at HC4
 go_wp2_with fail
 refine HC4.out.mono ?_
 rintro r u5 ⟨rfl,hp,hg⟩
 have HP5:=Lib.hid hp
 have HD5:=Lib.hid (HD4.out.gr hg HGD.out)
 have HR5:=Lib.hid (HR4.out.grown hg (by have:=HGL.out;simp;omega))
 have HG5:=Lib.hid (lx_to HG4.out hg)
 clear hp hg
 have c0:=HD5.out.cell 0 rfl
 have f0:=HD5.out.fz 0
 have hlt:=HD5.out.lt
 have HP6:=Lib.hid (HP5.out.far HGD.out 0 (.int .i64 (5:Nat)))
 have HD6:=Lib.hid (HD5.out.kind 5)
 have HR6:=Lib.hid (HR5.out.far (p:=⟨d,0,none⟩) (Nat.ne_of_lt HRD.out) (.int .i64 (5:Nat)))
 have HG6:=Lib.hid (gr_put HG5.out (Nat.le_of_lt HRD.out) 0 (.int .i64 (5:Nat)))
 have hc:=prule_ok _ g d L e p.on ({ dcZ y x with kind:=5 }) nilS HP6.out HD6.out HGD.out HLL.out
 rw[h1] at hc
 have HCC:=Lib.hid hc
 clear hc h1
 go_wp2_with fail
 refine HCC.out.mono ?_
 rintro r v1 ⟨rfl,hp,hdd,hm⟩
 have HPa:=Lib.hid hp
 have HDa:=Lib.hid hdd
 have HRa:=Lib.hid (HR6.out.moves hm (by have:=HGL.out;have:=HRD.out;simp;omega))
 have HGa:=Lib.hid (gr_two HG6.out hm (Nat.le_of_lt HRD.out))
 clear hp hdd hm
 have HW:=Lib.hid (pwant_ok v1 g L e p1 [59] HPa.out HLL.out)
 go_wp2_with fail
 refine HW.out.mono ?_
 rintro r v2 ⟨rfl,hp,hg⟩
 have HPb:=Lib.hid hp
 have HDb:=Lib.hid (HDa.out.gr hg HGD.out)
 have HRb:=Lib.hid (HRa.out.grown hg (by have:=HGL.out;simp;omega))
 have HGb:=Lib.hid (lx_to HGa.out hg)
 clear hp hg
 go_wp2_with (first
  | (refine wpList_load_row rfl 175 (.tmp 3) rfl d rfl 175 (dcC x1 nilS) (0,0) _ HDb.out Tryz.underlying175 rfl (dc_size _ _) ?_)
  | (refine wpList_store_row rfl 175 (.tmp 2) (.tmp 48) rfl w.heap.size (dcC x1 nilS) rfl rfl 175 _ HRb.out (dc_size _ _) rfl (dc_one _ _ rfl) ?_))
 refine row_ret (ty:=175) rfl w.heap.size 175 _ rfl (blk_row HRb.out (dcC x1 nilS)) Tryz.underlying175 rfl (dc_size _ _) rfl ?_
 exact ⟨nilS,rfl,by rw[HBX.out];exact Own.nil,HPb.out.row HGL.out _,gr_row HGb.out (Nat.le_refl _) _⟩
theorem pdecl_5(w:World)(g:Nat)(L:List Tk)(e:Nat×Nat)(p:Pr)(h:PrB w g L e p)(hL:L.length≤1000000)(b0:p.is tRole=false)(b1:p.is tLabel=false)(b2:p.is tRegion=false)(b3:p.is tAllow=false)(b4:p.is tCap=false)(b5:p.is tCloak=true) :
  Calls Tryz.prog 219 #[.pointer (some ⟨g,0,none⟩)] w (DclPost w g L e (pDecl e p).1 (pDecl e p).2):=by
 obtain ⟨w0,hst⟩:∃w0,w.alloc (.cells (dcC Dc.zero nilS) 175)=w0:=⟨_,rfl⟩
 have hgl:=h.lt
 have hb0:Blk w0 w.heap.size 175 (dcC Dc.zero nilS):=by rw[←hst];exact Blk.new _ _ _
 have hg0:w.grownBy w0 (some g):=by rw[←hst];exact gr_alloc _ _ _
 have h0:PrB w0 g L e p:=h.below (by rw[←hst];exact (Below.refl _ w).alloc (Nat.le_refl _) _)
 have hst':w.alloc (.cells #[.int .i64 0,.string ⟨#[]⟩,.int .i64 0,.slice none 0 0,.bool false,.string ⟨#[]⟩,.int .i64 0,.int .i64 0,.int .i64 0,.int .i64 0,.int .i64 0,.bool false,.string ⟨#[]⟩,.int .i64 0,.int .i64 0,.int .i64 0,.bool false,.string ⟨#[]⟩,.int .i64 0,.int .i64 0,.int .i64 0,.int .i64 0,.int .i64 0,.int .i64 0] 175)=w0:=hst
 clear hst
 have hpl:=pplace_ok w0 g L e p h0
 obtain ⟨⟨y,x⟩,hyx⟩:∃z,p.place e=z:=⟨_,rfl⟩
 rw[hyx] at hpl
 have HPL:=Lib.hid hpl
 have HR:=Lib.hid hb0
 have HG:=Lib.hid hg0
 have HH:=Lib.hid h0
 have HGL:=Lib.hid hgl
 have HLL:=Lib.hid hL
 clear h hb0 hg0 h0 hgl hpl hL
 obtain ⟨⟨x1,p1⟩,h1⟩:∃z,pCloak e ({ dcZ y x with kind:=6 }) p.on=z:=⟨_,rfl⟩
 have hr:pDecl e p=(x1,p1.want e [59]):=by
  unfold pDecl
  simp only[hyx,b0,b1,b2,b3,b4,b5,Bool.false_eq_true,if_false,if_true]
  show ((pCloak e ({ dcZ y x with kind:=6 }) p.on).1,(pCloak e ({ dcZ y x with kind:=6 }) p.on).2.want e [59])=_
  rw[h1]
 rw[hr]
 have HBX:=Lib.hid (show x1.boxes=[] by rw[show x1=(pCloak e ({ dcZ y x with kind:=6 }) p.on).1 by rw[h1]];rfl)
 clear hr hyx
 go_enter Tryz.func219,Tryz.ntmps219
 go_wp2_with fail
 refine HPL.out.mono ?_
 rintro r w1 ⟨rfl,hw1⟩
 have HN:=Lib.hid (Blk.new w1 175 (dcC Dc.zero nilS))
 have hra:=(HR.out.below hw1 HR.out.lt).alloc (.cells (dcC Dc.zero nilS) 175)
 have hpa:=(HH.out.below hw1).below ((Below.refl _ w1).alloc (Nat.le_refl _) (.cells (dcC Dc.zero nilS) 175))
 have hga:=lx_to HG.out (lx_to (gr_below hw1 (some g)) (gr_alloc w1 (.cells (dcC Dc.zero nilS) 175) (some g)))
 obtain ⟨ua,hua⟩:∃ua,w1.alloc (.cells (dcC Dc.zero nilS) 175)=ua:=⟨_,rfl⟩
 have hua':w1.alloc (.cells #[.int .i64 0,.string ⟨#[]⟩,.int .i64 0,.slice none 0 0,.bool false,.string ⟨#[]⟩,.int .i64 0,.int .i64 0,.int .i64 0,.int .i64 0,.int .i64 0,.bool false,.string ⟨#[]⟩,.int .i64 0,.int .i64 0,.int .i64 0,.bool false,.string ⟨#[]⟩,.int .i64 0,.int .i64 0,.int .i64 0,.int .i64 0,.int .i64 0,.int .i64 0] 175)=ua:=hua
 rw[hua] at HN hra hpa hga
 have hrlt:=(HR.out.below hw1 HR.out.lt).lt
 have hglt:g<w1.heap.size:=by have:=HGL.out;omega
 have HR0:=Lib.hid (show Blk (ua.setRow w1.heap.size (dcC (dcZ y x) nilS)) w.heap.size _ _ from (row_far ua w1.heap.size (dcC (dcZ y x) nilS) w.heap.size (Nat.ne_of_lt hrlt)).trans hra)
 have HD0:=Lib.hid (show DcB (ua.setRow w1.heap.size (dcC (dcZ y x) nilS)) w1.heap.size (dcZ y x) nilS from blk_row HN.out _)
 have HP0:=Lib.hid (hpa.row hglt (dcC (dcZ y x) nilS))
 have HG0:=Lib.hid (gr_row hga (Nat.le_of_lt hrlt) (dcC (dcZ y x) nilS))
 clear hra hpa hga hua hrlt hglt
 have HRD:=Lib.hid (show w.heap.size<w1.heap.size from (HR.out.below hw1 HR.out.lt).lt)
 have hgd:=HGL.out
 have hrd:=HRD.out
 have HGD:=Lib.hid (show g<w1.heap.size by omega)
 clear hw1 hgd hrd
 obtain ⟨u0,hu0⟩:∃u0,ua.setRow w1.heap.size (dcC (dcZ y x) nilS)=u0:=⟨_,rfl⟩
 rw[hu0] at HR0 HD0 HP0 HG0
 obtain ⟨d,hd⟩:∃d,w1.heap.size=d:=⟨_,rfl⟩
 rw[hd] at HD0 HRD HGD HN hu0
 have HC0:=Lib.hid (took_ok u0 g L e p tRole HP0.out HLL.out)
 rw[b0] at HC0
 go_wp2_with (refine wpList_store_row rfl 175 (.tmp 3) (.tmp 7) rfl d (dcC (dcZ y x) nilS) rfl rfl 175 (dcC Dc.zero nilS) HN.out (dc_size _ _) rfl (dc_one _ _ rfl) ?_)
 refine HC0.out.mono ?_
 rintro r u1 ⟨rfl,hp,hg⟩
 have HP1:=Lib.hid hp
 have HD1:=Lib.hid (HD0.out.gr hg HGD.out)
 have HR1:=Lib.hid (HR0.out.grown hg (by have:=HGL.out;simp;omega))
 have HG1:=Lib.hid (lx_to HG0.out hg)
 clear hp hg
 have HC1:=Lib.hid (took_ok u1 g L e p tLabel HP1.out HLL.out)
 rw[b1] at HC1
 go_wp2_with fail
 refine HC1.out.mono ?_
 rintro r u2 ⟨rfl,hp,hg⟩
 have HP2:=Lib.hid hp
 have HD2:=Lib.hid (HD1.out.gr hg HGD.out)
 have HR2:=Lib.hid (HR1.out.grown hg (by have:=HGL.out;simp;omega))
 have HG2:=Lib.hid (lx_to HG1.out hg)
 clear hp hg
 have HC2:=Lib.hid (took_ok u2 g L e p tRegion HP2.out HLL.out)
 rw[b2] at HC2
 go_wp2_with fail
 refine HC2.out.mono ?_
 rintro r u3 ⟨rfl,hp,hg⟩
 have HP3:=Lib.hid hp
 have HD3:=Lib.hid (HD2.out.gr hg HGD.out)
 have HR3:=Lib.hid (HR2.out.grown hg (by have:=HGL.out;simp;omega))
 have HG3:=Lib.hid (lx_to HG2.out hg)
 clear hp hg
 have HC3:=Lib.hid (took_ok u3 g L e p tAllow HP3.out HLL.out)
 rw[b3] at HC3
 go_wp2_with fail
 refine HC3.out.mono ?_
 rintro r u4 ⟨rfl,hp,hg⟩
 have HP4:=Lib.hid hp
 have HD4:=Lib.hid (HD3.out.gr hg HGD.out)
 have HR4:=Lib.hid (HR3.out.grown hg (by have:=HGL.out;simp;omega))
 have HG4:=Lib.hid (lx_to HG3.out hg)
 clear hp hg
 have HC4:=Lib.hid (took_ok u4 g L e p tCap HP4.out HLL.out)
 rw[b4] at HC4
 go_wp2_with fail
 refine HC4.out.mono ?_
 rintro r u5 ⟨rfl,hp,hg⟩
 have HP5:=Lib.hid hp
 have HD5:=Lib.hid (HD4.out.gr hg HGD.out)
 have HR5:=Lib.hid (HR4.out.grown hg (by have:=HGL.out;simp;omega))
 have HG5:=Lib.hid (lx_to HG4.out hg)
 clear hp hg
 have HC5:=Lib.hid (took_ok u5 g L e p tCloak HP5.out HLL.out)
 rw[b5] at HC5
 go_wp2_with fail
 refine HC5.out.mono ?_
 rintro r u6 ⟨rfl,hp,hg⟩
 have HP6:=Lib.hid hp
 have HD6:=Lib.hid (HD5.out.gr hg HGD.out)
 have HR6:=Lib.hid (HR5.out.grown hg (by have:=HGL.out;simp;omega))
 have HG6:=Lib.hid (lx_to HG5.out hg)
 clear hp hg
 have c0:=HD6.out.cell 0 rfl
 have f0:=HD6.out.fz 0
 have hlt:=HD6.out.lt
 have HP7:=Lib.hid (HP6.out.far HGD.out 0 (.int .i64 (6:Nat)))
 have HD7:=Lib.hid (HD6.out.kind 6)
 have HR7:=Lib.hid (HR6.out.far (p:=⟨d,0,none⟩) (Nat.ne_of_lt HRD.out) (.int .i64 (6:Nat)))
 have HG7:=Lib.hid (gr_put HG6.out (Nat.le_of_lt HRD.out) 0 (.int .i64 (6:Nat)))
 have hc:=pcloak_ok _ g d L e p.on ({ dcZ y x with kind:=6 }) nilS HP7.out HD7.out HGD.out HLL.out
 rw[h1] at hc
 have HCC:=Lib.hid hc
 clear hc h1
 go_wp2_with fail
 refine HCC.out.mono ?_
 rintro r v1 ⟨rfl,hp,hdd,hm⟩
 have HPa:=Lib.hid hp
 have HDa:=Lib.hid hdd
 have HRa:=Lib.hid (HR7.out.moves hm (by have:=HGL.out;have:=HRD.out;simp;omega))
 have HGa:=Lib.hid (gr_two HG7.out hm (Nat.le_of_lt HRD.out))
 clear hp hdd hm
 have HW:=Lib.hid (pwant_ok v1 g L e p1 [59] HPa.out HLL.out)
 go_wp2_with fail
 refine HW.out.mono ?_
 rintro r v2 ⟨rfl,hp,hg⟩
 have HPb:=Lib.hid hp
 have HDb:=Lib.hid (HDa.out.gr hg HGD.out)
 have HRb:=Lib.hid (HRa.out.grown hg (by have:=HGL.out;simp;omega))
 have HGb:=Lib.hid (lx_to HGa.out hg)
 clear hp hg
 go_wp2_with (first
  | (refine wpList_load_row rfl 175 (.tmp 3) rfl d rfl 175 (dcC x1 nilS) (0,0) _ HDb.out Tryz.underlying175 rfl (dc_size _ _) ?_)
  | (refine wpList_store_row rfl 175 (.tmp 2) (.tmp 48) rfl w.heap.size (dcC x1 nilS) rfl rfl 175 _ HRb.out (dc_size _ _) rfl (dc_one _ _ rfl) ?_))
 refine row_ret (ty:=175) rfl w.heap.size 175 _ rfl (blk_row HRb.out (dcC x1 nilS)) Tryz.underlying175 rfl (dc_size _ _) rfl ?_
 exact ⟨nilS,rfl,by rw[HBX.out];exact Own.nil,HPb.out.row HGL.out _,gr_row HGb.out (Nat.le_refl _) _⟩
theorem pdecl_6(w:World)(g:Nat)(L:List Tk)(e:Nat×Nat)(p:Pr)(h:PrB w g L e p)(hL:L.length≤1000000)(b0:p.is tRole=false)(b1:p.is tLabel=false)(b2:p.is tRegion=false)(b3:p.is tAllow=false)(b4:p.is tCap=false)(b5:p.is tCloak=false) :
  Calls Tryz.prog 219 #[.pointer (some ⟨g,0,none⟩)] w (DclPost w g L e (pDecl e p).1 (pDecl e p).2):=by
 obtain ⟨w0,hst⟩:∃w0,w.alloc (.cells (dcC Dc.zero nilS) 175)=w0:=⟨_,rfl⟩
 have hgl:=h.lt
 have hb0:Blk w0 w.heap.size 175 (dcC Dc.zero nilS):=by rw[←hst];exact Blk.new _ _ _
 have hg0:w.grownBy w0 (some g):=by rw[←hst];exact gr_alloc _ _ _
 have h0:PrB w0 g L e p:=h.below (by rw[←hst];exact (Below.refl _ w).alloc (Nat.le_refl _) _)
 have hst':w.alloc (.cells #[.int .i64 0,.string ⟨#[]⟩,.int .i64 0,.slice none 0 0,.bool false,.string ⟨#[]⟩,.int .i64 0,.int .i64 0,.int .i64 0,.int .i64 0,.int .i64 0,.bool false,.string ⟨#[]⟩,.int .i64 0,.int .i64 0,.int .i64 0,.bool false,.string ⟨#[]⟩,.int .i64 0,.int .i64 0,.int .i64 0,.int .i64 0,.int .i64 0,.int .i64 0] 175)=w0:=hst
 clear hst
 have hpl:=pplace_ok w0 g L e p h0
 obtain ⟨⟨y,x⟩,hyx⟩:∃z,p.place e=z:=⟨_,rfl⟩
 rw[hyx] at hpl
 have HPL:=Lib.hid hpl
 have HR:=Lib.hid hb0
 have HG:=Lib.hid hg0
 have HH:=Lib.hid h0
 have HGL:=Lib.hid hgl
 have HLL:=Lib.hid hL
 clear h hb0 hg0 h0 hgl hpl hL
 obtain ⟨⟨x1,p1⟩,h1⟩:∃z,pRule e (dcZ y x) (p.wrong e)=z:=⟨_,rfl⟩
 have hr:pDecl e p=(x1,p1.want e [59]):=by
  unfold pDecl
  simp only[hyx,b0,b1,b2,b3,b4,b5,Bool.false_eq_true,if_false,if_true]
  show ((pRule e (dcZ y x) (p.wrong e)).1,(pRule e (dcZ y x) (p.wrong e)).2.want e [59])=_
  rw[h1]
 rw[hr]
 have HBX:=Lib.hid (show x1.boxes=[] by rw[show x1=(pRule e (dcZ y x) (p.wrong e)).1 by rw[h1]];rfl)
 clear hr hyx
 go_enter Tryz.func219,Tryz.ntmps219
 go_wp2_with fail
 refine HPL.out.mono ?_
 rintro r w1 ⟨rfl,hw1⟩
 have HN:=Lib.hid (Blk.new w1 175 (dcC Dc.zero nilS))
 have hra:=(HR.out.below hw1 HR.out.lt).alloc (.cells (dcC Dc.zero nilS) 175)
 have hpa:=(HH.out.below hw1).below ((Below.refl _ w1).alloc (Nat.le_refl _) (.cells (dcC Dc.zero nilS) 175))
 have hga:=lx_to HG.out (lx_to (gr_below hw1 (some g)) (gr_alloc w1 (.cells (dcC Dc.zero nilS) 175) (some g)))
 obtain ⟨ua,hua⟩:∃ua,w1.alloc (.cells (dcC Dc.zero nilS) 175)=ua:=⟨_,rfl⟩
 have hua':w1.alloc (.cells #[.int .i64 0,.string ⟨#[]⟩,.int .i64 0,.slice none 0 0,.bool false,.string ⟨#[]⟩,.int .i64 0,.int .i64 0,.int .i64 0,.int .i64 0,.int .i64 0,.bool false,.string ⟨#[]⟩,.int .i64 0,.int .i64 0,.int .i64 0,.bool false,.string ⟨#[]⟩,.int .i64 0,.int .i64 0,.int .i64 0,.int .i64 0,.int .i64 0,.int .i64 0] 175)=ua:=hua
 rw[hua] at HN hra hpa hga
 have hrlt:=(HR.out.below hw1 HR.out.lt).lt
 have hglt:g<w1.heap.size:=by have:=HGL.out;omega
 have HR0:=Lib.hid (show Blk (ua.setRow w1.heap.size (dcC (dcZ y x) nilS)) w.heap.size _ _ from (row_far ua w1.heap.size (dcC (dcZ y x) nilS) w.heap.size (Nat.ne_of_lt hrlt)).trans hra)
 have HD0:=Lib.hid (show DcB (ua.setRow w1.heap.size (dcC (dcZ y x) nilS)) w1.heap.size (dcZ y x) nilS from blk_row HN.out _)
 have HP0:=Lib.hid (hpa.row hglt (dcC (dcZ y x) nilS))
 have HG0:=Lib.hid (gr_row hga (Nat.le_of_lt hrlt) (dcC (dcZ y x) nilS))
 clear hra hpa hga hua hrlt hglt
 have HRD:=Lib.hid (show w.heap.size<w1.heap.size from (HR.out.below hw1 HR.out.lt).lt)
 have hgd:=HGL.out
 have hrd:=HRD.out
 have HGD:=Lib.hid (show g<w1.heap.size by omega)
 clear hw1 hgd hrd
 obtain ⟨u0,hu0⟩:∃u0,ua.setRow w1.heap.size (dcC (dcZ y x) nilS)=u0:=⟨_,rfl⟩
 rw[hu0] at HR0 HD0 HP0 HG0
 obtain ⟨d,hd⟩:∃d,w1.heap.size=d:=⟨_,rfl⟩
 rw[hd] at HD0 HRD HGD HN hu0
 have HC0:=Lib.hid (took_ok u0 g L e p tRole HP0.out HLL.out)
 rw[b0] at HC0
 go_wp2_with (refine wpList_store_row rfl 175 (.tmp 3) (.tmp 7) rfl d (dcC (dcZ y x) nilS) rfl rfl 175 (dcC Dc.zero nilS) HN.out (dc_size _ _) rfl (dc_one _ _ rfl) ?_)
 refine HC0.out.mono ?_
 rintro r u1 ⟨rfl,hp,hg⟩
 have HP1:=Lib.hid hp
 have HD1:=Lib.hid (HD0.out.gr hg HGD.out)
 have HR1:=Lib.hid (HR0.out.grown hg (by have:=HGL.out;simp;omega))
 have HG1:=Lib.hid (lx_to HG0.out hg)
 clear hp hg
 have HC1:=Lib.hid (took_ok u1 g L e p tLabel HP1.out HLL.out)
 rw[b1] at HC1
 go_wp2_with fail
 refine HC1.out.mono ?_
 rintro r u2 ⟨rfl,hp,hg⟩
 have HP2:=Lib.hid hp
 have HD2:=Lib.hid (HD1.out.gr hg HGD.out)
 have HR2:=Lib.hid (HR1.out.grown hg (by have:=HGL.out;simp;omega))
 have HG2:=Lib.hid (lx_to HG1.out hg)
 clear hp hg
 have HC2:=Lib.hid (took_ok u2 g L e p tRegion HP2.out HLL.out)
 rw[b2] at HC2
 go_wp2_with fail
 refine HC2.out.mono ?_
 rintro r u3 ⟨rfl,hp,hg⟩
 have HP3:=Lib.hid hp
 have HD3:=Lib.hid (HD2.out.gr hg HGD.out)
 have HR3:=Lib.hid (HR2.out.grown hg (by have:=HGL.out;simp;omega))
 have HG3:=Lib.hid (lx_to HG2.out hg)
 clear hp hg
 have HC3:=Lib.hid (took_ok u3 g L e p tAllow HP3.out HLL.out)
 rw[b3] at HC3
 go_wp2_with fail
 refine HC3.out.mono ?_
 rintro r u4 ⟨rfl,hp,hg⟩
 have HP4:=Lib.hid hp
 have HD4:=Lib.hid (HD3.out.gr hg HGD.out)
 have HR4:=Lib.hid (HR3.out.grown hg (by have:=HGL.out;simp;omega))
 have HG4:=Lib.hid (lx_to HG3.out hg)
 clear hp hg
 have HC4:=Lib.hid (took_ok u4 g L e p tCap HP4.out HLL.out)
 rw[b4] at HC4
 go_wp2_with fail
 refine HC4.out.mono ?_
 rintro r u5 ⟨rfl,hp,hg⟩
 have HP5:=Lib.hid hp
 have HD5:=Lib.hid (HD4.out.gr hg HGD.out)
 have HR5:=Lib.hid (HR4.out.grown hg (by have:=HGL.out;simp;omega))
 have HG5:=Lib.hid (lx_to HG4.out hg)
 clear hp hg
 have HC5:=Lib.hid (took_ok u5 g L e p tCloak HP5.out HLL.out)
 rw[b5] at HC5
 go_wp2_with fail
 refine HC5.out.mono ?_
 rintro r u6 ⟨rfl,hp,hg⟩
 have HP6:=Lib.hid hp
 have HD6:=Lib.hid (HD5.out.gr hg HGD.out)
 have HR6:=Lib.hid (HR5.out.grown hg (by have:=HGL.out;simp;omega))
 have HG6:=Lib.hid (lx_to HG5.out hg)
 clear hp hg
 have HC6:=Lib.hid (pwrong_ok u6 g L e p HP6.out)
 go_wp2_with fail
 refine HC6.out.mono ?_
 rintro r u7 ⟨rfl,hp,hg⟩
 have HP7:=Lib.hid hp
 have HD7:=Lib.hid (HD6.out.gr hg HGD.out)
 have HR7:=Lib.hid (HR6.out.grown hg (by have:=HGL.out;simp;omega))
 have HG7:=Lib.hid (lx_to HG6.out hg)
 clear hp hg
 have hc:=prule_ok _ g d L e (p.wrong e) (dcZ y x) nilS HP7.out HD7.out HGD.out HLL.out
 rw[h1] at hc
 have HCC:=Lib.hid hc
 clear hc h1
 go_wp2_with fail
 refine HCC.out.mono ?_
 rintro r v1 ⟨rfl,hp,hdd,hm⟩
 have HPa:=Lib.hid hp
 have HDa:=Lib.hid hdd
 have HRa:=Lib.hid (HR7.out.moves hm (by have:=HGL.out;have:=HRD.out;simp;omega))
 have HGa:=Lib.hid (gr_two HG7.out hm (Nat.le_of_lt HRD.out))
 clear hp hdd hm
 have HW:=Lib.hid (pwant_ok v1 g L e p1 [59] HPa.out HLL.out)
 go_wp2_with fail
 refine HW.out.mono ?_
 rintro r v2 ⟨rfl,hp,hg⟩
 have HPb:=Lib.hid hp
 have HDb:=Lib.hid (HDa.out.gr hg HGD.out)
 have HRb:=Lib.hid (HRa.out.grown hg (by have:=HGL.out;simp;omega))
 have HGb:=Lib.hid (lx_to HGa.out hg)
 clear hp hg
 go_wp2_with (first
  | (refine wpList_load_row rfl 175 (.tmp 3) rfl d rfl 175 (dcC x1 nilS) (0,0) _ HDb.out Tryz.underlying175 rfl (dc_size _ _) ?_)
  | (refine wpList_store_row rfl 175 (.tmp 2) (.tmp 48) rfl w.heap.size (dcC x1 nilS) rfl rfl 175 _ HRb.out (dc_size _ _) rfl (dc_one _ _ rfl) ?_))
 refine row_ret (ty:=175) rfl w.heap.size 175 _ rfl (blk_row HRb.out (dcC x1 nilS)) Tryz.underlying175 rfl (dc_size _ _) rfl ?_
 exact ⟨nilS,rfl,by rw[HBX.out];exact Own.nil,HPb.out.row HGL.out _,gr_row HGb.out (Nat.le_refl _) _⟩
theorem pdecl_ok(w:World)(g:Nat)(L:List Tk)(e:Nat×Nat)(p:Pr)(h:PrB w g L e p)(hL:L.length≤1000000) :
  Calls Tryz.prog 219 #[.pointer (some ⟨g,0,none⟩)] w (DclPost w g L e (pDecl e p).1 (pDecl e p).2):=by
 cases b0:p.is tRole
 ·cases b1:p.is tLabel
  ·cases b2:p.is tRegion
   ·cases b3:p.is tAllow
    ·cases b4:p.is tCap
     ·cases b5:p.is tCloak
      ·exact pdecl_6 w g L e p h hL b0 b1 b2 b3 b4 b5
      ·exact pdecl_5 w g L e p h hL b0 b1 b2 b3 b4 b5
     ·exact pdecl_4 w g L e p h hL b0 b1 b2 b3 b4
    ·exact pdecl_3 w g L e p h hL b0 b1 b2 b3
   ·exact pdecl_2 w g L e p h hL b0 b1 b2
  ·exact pdecl_1 w g L e p h hL b0 b1
 ·exact pdecl_0 w g L e p h hL b0
end Go.Proofs.YtmbdghclhpboaaaGreat

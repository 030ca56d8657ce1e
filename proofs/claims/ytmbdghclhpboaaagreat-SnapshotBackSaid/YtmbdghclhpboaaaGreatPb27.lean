/- Part of the proof: Lex. Conditions: as each states. -/
import Derived.Test.YtmbdghclhpboaaaGreatPb26
import Derived.Lib.Strings
set_option linter.all false
set_option maxRecDepth 100000
set_option maxHeartbeats 8000000
namespace Go.Proofs.YtmbdghclhpboaaaGreat
open Go.RowKit
theorem lx_ix{t:List UInt8}{i:Nat}(h:i<t.length)(w:World):(Instr.index 9 (strV t) (.int .i64 (i:Int))).run Tryz.prog w=.ok (.int .u8 ((t[i]).toNat:Int)) w:=by
 have hs:=str_size t
 rw[run_index_string (P:=Tryz.prog) (w:=w) 9 _ .i64 _ Tryz.underlying9,dif_pos ⟨by omega,by rw[hs];omega⟩]
 rfl
theorem row_ret{fn:Func}{p:Tmp}{ty:TypeId}{R:Ending→World→Prop}{a:Act}{w:World}(h:fn.results=#[.cell p ty])(g:Nat)(t:TypeId)(cs:Array Value){d:TypeDesc}
  (hp:a.tmps.getD p undef=.pointer (some ⟨g,0,none⟩)) (hb:Blk w g t cs) (hu:Tryz.prog.underlying ty=some d) (hd:(match d with|.struct _|.array _ _=>true|_=>false)=true) (hi:(Tryz.prog.info? ty).map (·.size)=some cs.size)
  (hdf:a.defers=[]) (hR:R (.returned (.agg cs)) w):bodyPost Tryz.prog fn R .ret a w:=by
 refine bodyPost_ret (results_cell_row h a.tmps w g t cs (0,0) d hp hb hu ?_ hi) hdf hR
 cases d<;>first|rfl|exact hd
structure Prd(F:FuncId)(pr:UInt8→Bool):Prop where
 run:∀(args:Array Value) (w:World),(callFunc F args).run Tryz.prog w=.ok (.enter F args) w
 ok:∀(c:UInt8) (w:World),Calls Tryz.prog F #[.int .u8 (c.toNat:Int)] w (fun e w'=>e=.returned (.bool (pr c))∧w'=w)
theorem lx_cut(l:List UInt8)(i j:Nat)(h:i≤j)(hj:j≤l.length)(w:World):(Instr.slice 9 (strV l) (some (.int .i64 (i:Int))) (some (.int .i64 (j:Int))) none).run Tryz.prog w=.ok (strV ((l.take j).drop i)) w:=by
 have hz:=str_size l
 simp[Instr.slice,run_underlying Tryz.underlying9,Instr.sliceBounds,Instr.sliceBound,asIntOf,go_sem,hz,h,hj]
 show (ByteArray.mk l.toArray).extract i j=_
 apply ByteArray.ext
 apply Array.ext'
 rw[Lib.extract_data (ByteArray.mk l.toArray) i j]
 show (l.drop i).take (j - i)=(l.take j).drop i
 rw[List.drop_take]
theorem let_prd:Prd 396 isLet:=⟨Tryz.call396,fun c w=>by
 obtain ⟨x,hx⟩:∃x,x=c.toNat:=⟨_,rfl⟩
 have e:isLet c=(decide ((97:Int)≤(x:Int))&&decide ((x:Int)≤122)):=by unfold isLet;rw[←hx,Bool.eq_iff_iff];simp;omega
 rw[e,←hx]
 clear e hx
 by_cases h1:(97:Int)≤(x:Int)
 ·go_enter Tryz.func396,Tryz.ntmps396
  go_wp2
  go_ret
  exact ⟨by simp[h1],rfl⟩
 ·go_enter Tryz.func396,Tryz.ntmps396
  go_wp2
  go_ret
  exact ⟨by simp;omega,rfl⟩⟩
theorem dig_prd:Prd 398 isDig:=⟨Tryz.call398,fun c w=>by
 obtain ⟨x,hx⟩:∃x,x=c.toNat:=⟨_,rfl⟩
 have e:isDig c=(decide ((48:Int)≤(x:Int))&&decide ((x:Int)≤57)):=by unfold isDig;rw[←hx,Bool.eq_iff_iff];simp;omega
 rw[e,←hx]
 clear e hx
 by_cases h1:(48:Int)≤(x:Int)
 ·go_enter Tryz.func398,Tryz.ntmps398
  go_wp2
  go_ret
  exact ⟨by simp[h1],rfl⟩
 ·go_enter Tryz.func398,Tryz.ntmps398
  go_wp2
  go_ret
  exact ⟨by simp;omega,rfl⟩⟩
theorem inn_prd:Prd 473 isInn:=⟨Tryz.call473,fun c w=>by
 have HL:=Lib.hid (let_prd.ok c w)
 have HD:=Lib.hid (dig_prd.ok c w)
 have e:isInn c=(isLet c || (isDig c || decide ((c.toNat:Int)=45))):=by unfold isInn;rw[Bool.or_assoc];congr 2;rw[Bool.eq_iff_iff];simp;omega
 rw[e]
 clear e
 generalize isLet c=b1 at *
 generalize isDig c=b2 at *
 cases b1
 ·cases b2
  ·go_enter Tryz.func473,Tryz.ntmps473
   go_wp2_with fail
   refine HL.out.mono ?_
   rintro e w1 ⟨rfl,hw⟩
   rw[hw]
   go_wp2_with fail
   refine HD.out.mono ?_
   rintro e w2 ⟨rfl,hw2⟩
   rw[hw2]
   go_wp2_with fail
   go_ret
   exact ⟨by simp only[Bool.false_or];congr 2,rfl⟩
  ·go_enter Tryz.func473,Tryz.ntmps473
   go_wp2_with fail
   refine HL.out.mono ?_
   rintro e w1 ⟨rfl,hw⟩
   rw[hw]
   go_wp2_with fail
   refine HD.out.mono ?_
   rintro e w2 ⟨rfl,hw2⟩
   rw[hw2]
   go_wp2_with fail
   go_ret
   exact ⟨by simp,rfl⟩
 ·go_enter Tryz.func473,Tryz.ntmps473
  go_wp2_with fail
  refine HL.out.mono ?_
  rintro e w1 ⟨rfl,hw⟩
  rw[hw]
  go_wp2_with fail
  go_ret
  exact ⟨by simp,rfl⟩⟩
theorem blk_prd:Prd 391 isBlk:=⟨Tryz.call391,fun c w=>by
 obtain ⟨x,hx⟩:∃x,x=c.toNat:=⟨_,rfl⟩
 have e:isBlk c=(decide ((x:Int)=32) || decide ((x:Int)=10)):=by unfold isBlk;rw[←hx,Bool.eq_iff_iff];simp;omega
 rw[e,←hx]
 clear e hx
 by_cases h1:(x:Int)=32
 ·go_enter Tryz.func391,Tryz.ntmps391
  go_wp2
  go_ret
  exact ⟨by simp[h1],rfl⟩
 ·go_enter Tryz.func391,Tryz.ntmps391
  go_wp2
  go_ret
  exact ⟨by congr 2,rfl⟩⟩
theorem hash_prd:Prd 393 isHash:=⟨Tryz.call393,fun c w=>by
 have e:isHash c=((c.toNat:Int)==35):=by unfold isHash;rw[Bool.eq_iff_iff];simp;omega
 rw[e]
 go_enter Tryz.func393,Tryz.ntmps393
 go_wp2
 go_ret
 exact ⟨by simp,rfl⟩⟩
theorem noend_prd:Prd 394 noEnd:=⟨Tryz.call394,fun c w=>by
 have e:noEnd c=((c.toNat:Int) != 10):=by unfold noEnd;rw[Bool.eq_iff_iff];simp;omega
 rw[e]
 go_enter Tryz.func394,Tryz.ntmps394
 go_wp2
 go_ret
 exact ⟨by simp,rfl⟩⟩
theorem all_prd:Prd 301 (fun _=>true):=⟨Tryz.call301,fun c w=>by
 go_enter Tryz.func301,Tryz.ntmps301
 go_wp2
 go_ret
 exact ⟨rfl,rfl⟩⟩
def LxB(w:World)(g:Nat)(s:List UInt8)(p:Pt):Prop:=Blk w g 417 #[strV s,.int .i64 (p.i:Int),.int .i64 (p.line:Int),.int .i64 (p.col:Int)]
theorem more_ok{F:FuncId}{pr:UInt8→Bool}(HF:Prd F pr)(w:World)(g:Nat)(s:List UInt8)(p:Pt)(h:LxB w g s p) :
  Calls Tryz.prog 392 #[.pointer (some ⟨g,0,none⟩),.func (.func F) #[] #[]] w (fun e w'=>e=.returned (.bool (moreB pr (s.drop p.i)))∧∃n,w'=w.drewN n):=by
 have c0:w.cell? ⟨g,0,none⟩=some (strV s):=h.is 0 rfl
 have c1:w.cell? ⟨g,1,none⟩=some (.int .i64 (p.i:Int)):=h.is 1 rfl
 have hsz:=str_size s
 have HFF:=Lib.hid HF
 clear h HF
 by_cases hlt:p.i<s.length
 ·have hd:s.drop p.i=s[p.i]::s.drop (p.i+1):=List.drop_eq_getElem_cons hlt
  rw[hd]
  have hix:=lx_ix hlt
  have hi:(p.i:Int)<(s.length:Int):=by omega
  show Calls _ _ _ _ (fun e w'=>e=.returned (.bool (pr s[p.i]))∧∃n,w'=w.drewN n)
  generalize s[p.i]=c at *
  have HC:=Lib.hid (HFF.out.ok c)
  have hrun:=HFF.out.run
  clear hd
  go_enter Tryz.func392,Tryz.ntmps392
  go_wp2_with fail
  go_quiet ((with_reducible exact Calls.quiet_of_same (HC.out _)))
  go_wp2_with fail
  go_ret
  exact ⟨rfl,_,rfl⟩
 ·have hd:s.drop p.i=[]:=List.drop_eq_nil_of_le (by omega)
  rw[hd]
  have hi:decide ((p.i:Int)<(s.length:Int))=false:=by simpa using hlt
  clear hd
  go_enter Tryz.func392,Tryz.ntmps392
  go_wp2_with fail
  go_quiet (fail)
  go_wp2_with fail
  go_ret
  exact ⟨rfl,_,rfl⟩
theorem lx_grow(w:World)(g i:Nat)(u:Value):w.grownBy (w.setCell ⟨g,i,none⟩ u) (some g):=
 ⟨rfl,rfl,rfl,by simp,fun k hk hne=>Below.heap_setCell _ _ _ _ (fun e=>hne (by rw[e]))⟩
theorem lx_drew{w:World}(n:Nat)(row:Option Nat):w.grownBy (w.drewN n) row:=⟨rfl,rfl,rfl,Nat.le_refl _,fun _ _ _=>rfl⟩
theorem lx_to{a b c:World}{g:Nat}(h:a.grownBy b (some g))(k:b.grownBy c (some g)):a.grownBy c (some g):=
 ⟨k.os.trans h.os,k.tape.trans h.tape,k.output.trans h.output,Nat.le_trans h.size k.size,fun i hi hne=>(k.block i (Nat.lt_of_lt_of_le hi h.size) hne).trans (h.block i hi hne)⟩
theorem step_ok(w:World)(g:Nat)(s:List UInt8)(p:Pt)(h:LxB w g s p)(hlt:p.i<s.length)(hs:s.length≤1000000)(hlow:p.low) :
  Calls Tryz.prog 400 #[.pointer (some ⟨g,0,none⟩)] w (fun e w'=>e=.returned (.tuple #[])∧LxB w' g s (p.step s[p.i])∧w.grownBy w' (some g)):=by
 have hix:=lx_ix hlt
 obtain ⟨hl1,hl2⟩:=hlow
 obtain ⟨i,line,col⟩:=p
 simp only at hlt hl1 hl2 hix
 have hsz:=str_size s
 unfold LxB at h
 simp only at h
 generalize s[i]=c at *
 have w1:IntKind.i64.wrap ((col:Int)+1)=((col+1:Nat):Int):=by rw[IntWalk.i64_in _ (by omega)];omega
 have w2:IntKind.i64.wrap ((line:Int)+1)=((line+1:Nat):Int):=by rw[IntWalk.i64_in _ (by omega)];omega
 have w3:IntKind.i64.wrap ((i:Int)+1)=((i+1:Nat):Int):=by rw[IntWalk.i64_in _ (by omega)];omega
 have c0:w.cell? ⟨g,0,none⟩=some (strV s):=h.is 0 rfl
 have c1:w.cell? ⟨g,1,none⟩=some (.int .i64 (i:Int)):=h.is 1 rfl
 have c2:w.cell? ⟨g,2,none⟩=some (.int .i64 (line:Int)):=h.is 2 rfl
 have c3:w.cell? ⟨g,3,none⟩=some (.int .i64 (col:Int)):=h.is 3 rfl
 have f1:=h.frozen 1
 have f2:=h.frozen 2
 have f3:=h.frozen 3
 have hgl:=h.lt
 have hlti:(i:Int)<(s.length:Int):=by omega
 have H:=Lib.hid h
 clear h
 by_cases hc:c.toNat=10
 ·have hst:(⟨i,line,col⟩:Pt).step c=⟨i+1,line+1,1⟩:=by unfold Pt.step;simp[hc]
  rw[hst]
  have hcc:(c.toNat:Int)=10:=by omega
  clear hst
  go_enter Tryz.func400,Tryz.ntmps400
  go_wp2_with fail
  go_quiet (fail)
  go_wp2_with fail
  refine bodyPost_end (results_none rfl _ _ _) rfl ?_
  refine ⟨rfl,?_,?_⟩
  ·have h1:=(((H.out.put 3 (.int .i64 ((col+1:Nat):Int))).put 2 (.int .i64 ((line+1:Nat):Int))).put 3 (.int .i64 1)).put 1 (.int .i64 ((i+1:Nat):Int))
   simp only[List.setIfInBounds_toArray,List.set_cons_succ,List.set_cons_zero] at h1
   exact h1
  ·exact lx_to (lx_to (lx_to (lx_grow _ g 3 _) (lx_to (lx_drew _ _) (lx_grow _ g 2 _))) (lx_grow _ g 3 _)) (lx_grow _ g 1 _)
 ·have hst:(⟨i,line,col⟩:Pt).step c=⟨i+1,line,col+1⟩:=by unfold Pt.step;simp[hc]
  rw[hst]
  have hcc:¬(c.toNat:Int)=10:=by omega
  clear hst
  go_enter Tryz.func400,Tryz.ntmps400
  go_wp2_with fail
  go_quiet (fail)
  go_wp2_with fail
  refine bodyPost_end (results_none rfl _ _ _) rfl ?_
  refine ⟨rfl,?_,?_⟩
  ·have h1:=(H.out.put 3 (.int .i64 ((col+1:Nat):Int))).put 1 (.int .i64 ((i+1:Nat):Int))
   simp only[List.setIfInBounds_toArray,List.set_cons_succ,List.set_cons_zero] at h1
   exact h1
  ·exact lx_to (lx_to (lx_grow _ g 3 _) (lx_drew _ _)) (lx_grow _ g 1 _)
def lxAt(g:Nat)(w:World):Nat:=match w.cell? ⟨g,1,none⟩ with
 | some (.int _ n)=>n.toNat
 | _=>0
theorem LxB.at{w:World}{g:Nat}{s:List UInt8}{p:Pt}(h:LxB w g s p):lxAt g w=p.i:=by
 have c1:w.cell? ⟨g,1,none⟩=some (.int .i64 (p.i:Int)):=Blk.is h 1 rfl
 unfold lxAt
 rw[c1]
 simp
def LxPost(w:World)(g:Nat)(v:Value)(s:List UInt8)(p:Pt)(e:Ending)(w':World):Prop:=e=.returned v∧LxB w' g s p∧w.grownBy w' (some g)
theorem while_ok{F:FuncId}{pr:UInt8→Bool}(HF:Prd F pr)(w:World)(g:Nat)(s:List UInt8)(p:Pt)(h:LxB w g s p)(hp:p.i≤s.length)(hs:s.length≤1000000)(hlow:p.low) :
  Calls Tryz.prog 300 #[.pointer (some ⟨g,0,none⟩),.func (.func F) #[] #[]] w (LxPost w g (strV ((s.drop p.i).takeWhile pr)) s (p.adv ((s.drop p.i).takeWhile pr))):=by
 have c1:w.cell? ⟨g,1,none⟩=some (.int .i64 (p.i:Int)):=h.is 1 rfl
 have HFF:=Lib.hid HF
 have H:=Lib.hid h
 have HP:=Lib.hid hp
 have HS:=Lib.hid hs
 have HL:=Lib.hid hlow
 obtain ⟨n,hn⟩:∃n,n=((s.drop p.i).takeWhile pr).length:=⟨_,rfl⟩
 have HN:=Lib.hid hn
 have HT:=Lib.hid (tw_take pr (s.drop p.i))
 have hnle:p.i+n≤s.length:=by have:=takeWhile_len pr (s.drop p.i);rw[List.length_drop] at this;omega
 have HLE:=Lib.hid hnle
 clear h hp hs hlow hn hnle HF
 go_enter Tryz.func300,Tryz.ntmps300
 go_wp2_with fail
 go_loopw [] (fun wr=>∃k,k≤n∧LxB wr g s (p.adv ((s.drop p.i).take k))∧w.grownBy wr (some g)) (fun wr=>s.length - lxAt g wr)
 case atStart=>exact ⟨0,by omega,by rw[List.take_zero,Pt.adv_nil];exact H.out,lx_drew 0 _⟩
 case round=>
  obtain ⟨k,hk,hb,hg⟩:=hrel
  have hi:(p.adv ((s.drop p.i).take k)).i=p.i+k:=by
   rw[Pt.adv_i,List.length_take,List.length_drop];have:=HLE.out;omega
  have HI:=Lib.hid hi
  have HB:=Lib.hid hb
  have HG:=Lib.hid hg
  have HM:=Lib.hid (more_ok HFF.out wr g s _ hb)
  have hlow2:=Lib.hid (Pt.low_adv ((s.drop p.i).take k) HL.out)
  have hd:s.drop (p.adv ((s.drop p.i).take k)).i=(s.drop p.i).drop k:=by rw[hi,List.drop_drop]
  rw[hd] at HM
  clear hi hb hg hd
  by_cases hlt:k<n
  ·have hmt:moreB pr ((s.drop p.i).drop k)=true:=tw_lt pr _ k (by rw[←HN.out];exact hlt)
   rw[hmt] at HM
   have hls:(p.adv ((s.drop p.i).take k)).i<s.length:=by rw[HI.out];have:=HLE.out;omega
   have HST:=Lib.hid (fun m=>step_ok (wr.drewN m) g s _ (show LxB (wr.drewN m) g s _ from HB.out) hls HS.out hlow2.out)
   have HNX:=Lib.hid (show (p.adv ((s.drop p.i).take k)).step s[(p.adv ((s.drop p.i).take k)).i]=p.adv ((s.drop p.i).take (k+1)) by
    have h1:k<(s.drop p.i).length:=by rw[List.length_drop];have:=HLE.out;omega
    rw[List.take_succ_eq_append_getElem h1,Pt.adv_app]
    show _=Pt.step _ _
    congr 1
    rw[List.getElem_drop]
    congr 1)
   rw[HNX.out] at HST
   clear hmt
   go_wp2_with fail
   refine HM.out.mono ?_
   rintro e w1 ⟨rfl,m,hw1⟩
   rw[hw1]
   clear hw1 w1
   go_wp2_with fail
   refine (HST.out m).mono ?_
   rintro e w2 ⟨rfl,hb2,hg2⟩
   have HB2:=Lib.hid hb2
   have HG2:=Lib.hid (lx_to HG.out (lx_to (lx_drew m _) hg2))
   clear hb2 hg2
   go_wp2_with fail
   go_roundw
   case rel=>exact ⟨k+1,by omega,HB2.out,HG2.out⟩
   case measure=>
    rw[HB2.out.at,HB.out.at,Pt.adv_i,Pt.adv_i,List.length_take,List.length_take,List.length_drop]
    have:=HLE.out
    omega
  ·obtain rfl:k=n:=by omega
   have hmt:moreB pr ((s.drop p.i).drop k)=false:=by rw[HN.out];exact tw_end pr _
   rw[hmt] at HM
   have hcut:(s.drop p.i).takeWhile pr=(s.take (p.i+k)).drop p.i:=by rw[HT.out,←HN.out,List.drop_take];congr 1;omega
   have b0:wr.cell? ⟨g,0,none⟩=some (strV s):=Blk.is HB.out 0 rfl
   obtain ⟨j,hj⟩:∃j,j=p.i+k:=⟨_,rfl⟩
   have b1:wr.cell? ⟨g,1,none⟩=some (.int .i64 (j:Int)):=by rw[hj,←HI.out];exact Blk.is HB.out 1 rfl
   have hrun:=fun w=>lx_cut s p.i j (by omega) (by have:=HLE.out;omega) w
   rw[←hj] at hcut
   have HC:=Lib.hid hcut
   clear hj
   clear hmt hcut
   go_wp2_with fail
   refine HM.out.mono ?_
   rintro e w1 ⟨rfl,m,hw1⟩
   rw[hw1]
   clear hw1 w1
   go_wp2_with fail
   go_quiet (fail)
   go_wp2_with fail
   go_ret
   refine ⟨by rw[HC.out];rfl,?_,lx_to HG.out (lx_to (lx_drew m _) (lx_drew _ _))⟩
   rw[HT.out,←HN.out]
   exact HB.out
theorem skip_ok(w:World)(g:Nat)(s:List UInt8)(p:Pt)(h:LxB w g s p)(hp:p.i≤s.length)(hs:s.length≤1000000)(hlow:p.low) :
  Calls Tryz.prog 298 #[.pointer (some ⟨g,0,none⟩)] w (LxPost w g (.tuple #[]) s (p.adv ((s.drop p.i).take (skipN (s.drop p.i))))):=by
 have H:=Lib.hid h
 have HP:=Lib.hid hp
 have HS:=Lib.hid hs
 have HL:=Lib.hid hlow
 clear h hp hs hlow
 go_enter Tryz.func298,Tryz.ntmps298
 go_wp2_with fail
 go_loopw [] (fun wr=>∃k,p.i+k≤s.length∧k+skipN ((s.drop p.i).drop k)=skipN (s.drop p.i)∧LxB wr g s (p.adv ((s.drop p.i).take k))∧w.grownBy wr (some g)) (fun wr=>s.length - lxAt g wr)
 case atStart=>exact ⟨0,by have:=HP.out;omega,by simp,by rw[List.take_zero,Pt.adv_nil];exact H.out,lx_drew 0 _⟩
 case round=>
  obtain ⟨k,hk,hsk,hb,hg⟩:=hrel
  obtain ⟨q,hq⟩:∃q,q=p.adv ((s.drop p.i).take k):=⟨_,rfl⟩
  have hi:q.i=p.i+k:=by rw[hq,Pt.adv_i,List.length_take,List.length_drop];omega
  rw[←hq] at hb
  have hlow2:q.low:=by rw[hq];exact Pt.low_adv _ HL.out
  obtain ⟨l,hl⟩:∃l,l=(s.drop p.i).drop k:=⟨_,rfl⟩
  have hdq:s.drop q.i=l:=by rw[hl,hi,List.drop_drop]
  rw[←hl] at hsk
  have W1:=while_ok blk_prd wr g s q hb (by omega) HS.out hlow2
  rw[hdq] at W1
  obtain ⟨n,hn⟩:∃n,n=(l.takeWhile isBlk).length:=⟨_,rfl⟩
  have htk:l.takeWhile isBlk=l.take n:=by rw[hn];exact tw_take _ _
  have hnl:n≤l.length:=by rw[hn];exact takeWhile_len _ _
  rw[htk] at W1
  have hll:l.length=s.length - q.i:=by rw[←hdq,List.length_drop]
  have hq2:(q.adv (l.take n)).i=q.i+n:=by rw[Pt.adv_i,List.length_take];omega
  have hd2:s.drop (q.adv (l.take n)).i=l.drop n:=by rw[hq2,←hdq,List.drop_drop]
  have M1:=fun w1 (h1:LxB w1 g s (q.adv (l.take n)))=>more_ok hash_prd w1 g s _ h1
  have low3:(q.adv (l.take n)).low:=Pt.low_adv _ hlow2
  have W2:=fun w1 (h1:LxB w1 g s (q.adv (l.take n)))=>while_ok noend_prd w1 g s _ h1 (by rw[hq2];omega) HS.out low3
  rw[hd2] at M1 W2
  have hse:=skipN_eq l
  rw[←hn] at hse
  have happ:∀j,q.adv (l.take j)=p.adv ((s.drop p.i).take (k+j)):=fun j=>by
   rw[List.take_add,Pt.adv_app,←hq,hl]
  have HG:=Lib.hid hg
  have HQ:=Lib.hid hi
  have HB0:=Lib.hid hb
  have HW1:=Lib.hid W1
  have HM1:=Lib.hid M1
  have HW2:=Lib.hid W2
  have HA:=Lib.hid happ
  have HSK:=Lib.hid hsk
  have HSE:=Lib.hid hse
  have HNL:=Lib.hid hnl
  have HLL:=Lib.hid hll
  have HHL:=Lib.hid hl
  have HK:=Lib.hid hk
  clear hi hb W1 M1 W2 happ hsk hse hnl hll hlow2 low3 hq2 hd2 hdq htk hn hl hg hk hq
  cases hm:moreB isHash (l.drop n)
  ·rw[hm] at HM1 HSE
   have hfin:skipN (s.drop p.i)=k+n:=by rw[←HSK.out,HSE.out];simp
   have HF:=Lib.hid hfin
   clear hm hfin
   go_wp2_with fail
   refine HW1.out.mono ?_
   rintro e w1 ⟨rfl,hb1,hg1⟩
   have HB1:=Lib.hid hb1
   have HG1:=Lib.hid (lx_to HG.out hg1)
   clear hb1 hg1
   go_wp2_with fail
   refine (HM1.out w1 HB1.out).mono ?_
   rintro e w2 ⟨rfl,m,hw2⟩
   rw[hw2]
   clear hw2 w2
   go_wp2_with fail
   refine bodyPost_end (results_none rfl _ _ _) rfl ?_
   refine ⟨rfl,?_,lx_to HG1.out (lx_drew _ _)⟩
   rw[HF.out,←HA.out n]
   exact HB1.out
  ·rw[hm] at HM1 HSE
   obtain ⟨m2,hm2⟩:∃m,m=((l.drop n).takeWhile noEnd).length:=⟨_,rfl⟩
   have hpos:0<m2:=by rw[hm2];exact hash_noEnd _ hm
   have htk2:(l.drop n).takeWhile noEnd=(l.drop n).take m2:=by rw[hm2];exact tw_take _ _
   have hml:m2≤l.length - n:=by rw[hm2,←List.length_drop];exact takeWhile_len _ _
   rw[htk2] at HW2
   rw[←hm2] at HSE
   have HPOS:=Lib.hid hpos
   have HML:=Lib.hid hml
   clear hm hm2 hpos htk2 hml
   go_wp2_with fail
   refine HW1.out.mono ?_
   rintro e w1 ⟨rfl,hb1,hg1⟩
   have HB1:=Lib.hid hb1
   have HG1:=Lib.hid (lx_to HG.out hg1)
   clear hb1 hg1
   go_wp2_with fail
   refine (HM1.out w1 HB1.out).mono ?_
   rintro e w2 ⟨rfl,m,hw2⟩
   rw[hw2]
   clear hw2 w2
   go_wp2_with fail
   refine (HW2.out (w1.drewN m) (show LxB (w1.drewN m) g s _ from HB1.out)).mono ?_
   rintro e w3 ⟨rfl,hb3,hg3⟩
   have hb4:LxB w3 g s (q.adv (l.take (n+m2))):=by
    have h5:l.take (n+m2)=l.take n++(l.drop n).take m2:=List.take_add
    rw[h5,Pt.adv_app]
    exact hb3
   have HB3:=Lib.hid hb4
   have HG3:=Lib.hid (lx_to HG1.out (lx_to (lx_drew m _) hg3))
   clear hb3 hg3 hb4
   go_wp2_with fail
   go_roundw
   case rel=>
    have h1:=HML.out
    have h2:=HLL.out
    have h3:=HQ.out
    have h4:=HNL.out
    have h5:=HK.out
    refine ⟨k+(n+m2),by omega,?_,?_,HG3.out⟩
    ·rw[←HSK.out,HSE.out,HHL.out]
     simp only[if_true,List.drop_drop]
     have e1:p.i+(k+(n+m2))=p.i+k+(n+m2):=by omega
     have e2:p.i+k+n+m2=p.i+k+(n+m2):=by omega
     simp only[e1,e2]
     omega
    ·rw[←HA.out]
     exact HB3.out
   case measure=>
    have h1:=HML.out
    have h2:=HLL.out
    have h3:=HPOS.out
    have h4:=HNL.out
    have h5:=HK.out
    have h6:=HQ.out
    rw[HB3.out.at,HB0.out.at,Pt.adv_i,List.length_take]
    omega
theorem place_ok(w:World)(g:Nat)(s:List UInt8)(p:Pt)(h:LxB w g s p) :
  Calls Tryz.prog 297 #[.pointer (some ⟨g,0,none⟩)] w (fun e w'=>e=.returned (.agg #[.int .i64 (p.line:Int),.int .i64 (p.col:Int)])∧Below w.heap.size w w'):=by
 obtain ⟨w0,hst⟩:∃w0,w.alloc (.cells #[.int .i64 0,.int .i64 0] 84)=w0:=⟨_,rfl⟩
 have h0:LxB w0 g s p:=by rw[←hst];exact Blk.alloc h _
 have c2:w0.cell? ⟨g,2,none⟩=some (.int .i64 (p.line:Int)):=h0.is 2 rfl
 have c3:w0.cell? ⟨g,3,none⟩=some (.int .i64 (p.col:Int)):=h0.is 3 rfl
 have hb:Blk w0 w.heap.size 84 #[.int .i64 0,.int .i64 0]:=by rw[←hst];exact Blk.new _ _ _
 have hbel:Below w.heap.size w w0:=by rw[←hst];exact (Below.refl _ w).alloc (Nat.le_refl _) _
 have d0:=hb.is 0 rfl
 have d1:=hb.is 1 rfl
 have f0:=hb.frozen 0
 have f1:=hb.frozen 1
 have hlt:=hb.lt
 have H:=Lib.hid hb
 have HW:=Lib.hid hbel
 clear h h0 hb hbel
 go_enter Tryz.func297,Tryz.ntmps297
 go_wp2_with fail
 go_still_tail 9,(by kernel_rfl)
 go_wp2_with fail
 have hB2:=(H.out.put 0 (.int .i64 (p.line:Int))).put 1 (.int .i64 (p.col:Int))
 simp only[List.setIfInBounds_toArray,List.set_cons_succ,List.set_cons_zero] at hB2
 refine row_ret (ty:=84) rfl w.heap.size 84 #[.int .i64 (p.line:Int),.int .i64 (p.col:Int)] rfl hB2 Tryz.underlying84 rfl (by kernel_rfl) rfl ?_
 refine ⟨rfl,?_⟩
 exact below_drewN ((HW.out.setCell (p:=⟨w.heap.size,0,none⟩) (Nat.le_refl _) _).setCell (p:=⟨w.heap.size,1,none⟩) (Nat.le_refl _) _) 1
end Go.Proofs.YtmbdghclhpboaaaGreat

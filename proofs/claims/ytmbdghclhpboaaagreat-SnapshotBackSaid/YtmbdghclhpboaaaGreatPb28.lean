/- Part of the proof: Lex2. Conditions: as each states. -/
import Derived.Test.YtmbdghclhpboaaaGreatPb27
import Derived.Deep.RegionHeld3
set_option linter.all false
set_option maxRecDepth 100000
set_option maxHeartbeats 8000000
namespace Go.Proofs.YtmbdghclhpboaaaGreat
open Go.RowKit
theorem numF_le(s:List UInt8):numF s≤65536:=by
 unfold numF
 generalize h:(0:Nat)=z
 have hz:z≤65536:=by omega
 clear h
 induction s generalizing z with
 | nil=>exact hz
 | cons c s ih=>exact ih _ (Nat.min_le_left _ _)
theorem numF_take(s:List UInt8)(k:Nat)(h:k<s.length):numF (s.take (k+1))=min 65536 (10 * numF (s.take k)+(s[k].toNat - 48)):=by
 unfold numF
 rw[List.take_succ_eq_append_getElem h,List.foldl_append]
 rfl
theorem lx_ix0{t:List UInt8}(h:0<t.length)(w:World):(Instr.index 9 (strV t) (.int .i64 0)).run Tryz.prog w=.ok (.int .u8 ((t.headD 0).toNat:Int)) w:=by
 have h1:=lx_ix h w
 have e:t[0]=t.headD 0:=by cases t with
  | nil=>simp at h
  | cons c r=>rfl
 rw[e] at h1
 exact h1
theorem lexnum_ok(s:List UInt8)(w:World)(hs:s.length≤1000000)(hd:∀c∈s,48≤c.toNat∧c.toNat≤57) :
  Calls Tryz.prog 475 #[strV s] w (fun e w'=>e=.returned (.tuple #[.int .i64 ((numD s).1:Int),.bool (numD s).2])∧w'=w):=by
 have hsz:=str_size s
 have HD:=Lib.hid hd
 have HS:=Lib.hid hs
 clear hd hs
 by_cases hz:1<s.length∧s.headD 0=48
 ·obtain ⟨h1,h2⟩:=hz
  have hix:=lx_ix0 (show 0<s.length by omega)
  have hh:(s.headD 0).toNat=48:=by rw[h2];rfl
  rw[hh] at hix
  have hr:numD s=(0,false):=by unfold numD;rw[if_pos ⟨h1,h2⟩]
  rw[hr]
  have i1:(1:Int)<(s.length:Int):=by omega
  clear hr h2 hh
  go_enter Tryz.func475,Tryz.ntmps475
  go_wp2_with fail
  go_ret2
  exact ⟨rfl,rfl⟩
 ·have hr:numD s=(numF s,decide (numF s≤65535)):=by unfold numD;rw[if_neg hz]
  rw[hr]
  have HR:=Lib.hid hr
  have hround:∀(k:Nat) (h:k<s.length),Hid (IntKind.u8.wrap ((s[k].toNat:Int) - 48)=((s[k].toNat - 48:Nat):Int)∧s[k].toNat - 48≤9):=fun k h=>Lib.hid (by
   have:=HD.out s[k] (List.getElem_mem h)
   refine ⟨?_,by omega⟩
   simp only[IntKind.wrap,IntKind.bits,IntKind.signed]
   simp
   omega)
  have HRD:=Lib.hid hround
  clear hr hround
  by_cases h1:(1:Int)<(s.length:Int)
  ·have hix:=lx_ix0 (show 0<s.length by omega)
   have h2:(((s.headD 0).toNat:Int)==48)=false:=by
    rw[beq_eq_false_iff_ne]
    exact fun hc=>hz ⟨by omega,UInt8.toNat_inj.1 (by have:(48:UInt8).toNat=48:=rfl;omega)⟩
   clear hz
   generalize (s.headD 0).toNat=x at hix h2
   go_enter Tryz.func475,Tryz.ntmps475
   go_wp2_with fail
   go_loopw [4,16] (fun nv iv wr=>∃k:Nat,k≤s.length∧iv=.int .i64 (k:Int)∧nv=.int .i64 (numF (s.take k):Int)∧wr=w) (fun _ iv _=>s.length - (intOf iv).toNat)
   case atStart=>exact ⟨0,by omega,rfl,rfl,rfl⟩
   case round=>
    obtain ⟨k,hk,rfl,rfl,rfl⟩:=hrel
    by_cases hlt:k<s.length
    ·have hx:=lx_ix hlt
     obtain ⟨w1,d9⟩:=(HRD.out k hlt).out
     have hn:=numF_le (s.take k)
     have HNX:=Lib.hid (numF_take s k hlt)
     have hki:(k:Int)<(s.length:Int):=by omega
     have hsl:=HS.out
     generalize numF (s.take k)=n at *
     generalize s[k].toNat - 48=d at *
     generalize s[k].toNat=c at *
     have hd9:(d:Int)≤9:=by omega
     go_wp2_with fail
     go_roundw
     case rel=>exact ⟨k+1,by omega,by go_num,by rw[HNX.out];simp only[imin_eq];congr 1;omega,tU⟩
     case measure=>simp[intOf];omega
    ·obtain rfl:k=s.length:=by omega
     rw[List.take_length] at *
     have hn:=numF_le s
     go_wp2_with fail
     go_ret2
     exact ⟨by simp;omega,rfl⟩
  ·have h2:decide ((1:Int)<(s.length:Int))=false:=by simpa using h1
   go_enter Tryz.func475,Tryz.ntmps475
   go_wp2_with fail
   go_loopw [4,16] (fun nv iv wr=>∃k:Nat,k≤s.length∧iv=.int .i64 (k:Int)∧nv=.int .i64 (numF (s.take k):Int)∧wr=w) (fun _ iv _=>s.length - (intOf iv).toNat)
   case atStart=>exact ⟨0,by omega,rfl,rfl,rfl⟩
   case round=>
    obtain ⟨k,hk,rfl,rfl,rfl⟩:=hrel
    by_cases hlt:k<s.length
    ·have hx:=lx_ix hlt
     obtain ⟨w1,d9⟩:=(HRD.out k hlt).out
     have hn:=numF_le (s.take k)
     have HNX:=Lib.hid (numF_take s k hlt)
     have hki:(k:Int)<(s.length:Int):=by omega
     have hsl:=HS.out
     generalize numF (s.take k)=n at *
     generalize s[k].toNat - 48=d at *
     generalize s[k].toNat=c at *
     have hd9:(d:Int)≤9:=by omega
     go_wp2_with fail
     go_roundw
     case rel=>exact ⟨k+1,by omega,by go_num,by rw[HNX.out];simp only[imin_eq];congr 1;omega,tU⟩
     case measure=>simp[intOf];omega
    ·obtain rfl:k=s.length:=by omega
     rw[List.take_length] at *
     have hn:=numF_le s
     go_wp2_with fail
     go_ret2
     exact ⟨by simp;omega,rfl⟩
def wordsV:Array Value:=#[strV [114,111,108,101],strV [108,97,98,101,108],strV [114,101,103,105,111,110],strV [97,108,108,111,119],strV [99,97,112],strV [99,108,111,97,107],strV [97,110,121],strV [97,108,108],strV [116,105,101,114],strV [105,110],strV [122,111,111,109]]
theorem words_ok(w:World):Calls Tryz.prog 518 #[] w (fun e w'=>e=.returned (.agg wordsV)∧Below w.heap.size w w'):=by
 go_enter Tryz.func518,Tryz.ntmps518
 go_wp2_with fail
 exact row_ret (ty:=590) rfl w.heap.size 590 wordsV rfl (Blk.new w _ _) Tryz.underlying590 rfl (by kernel_rfl) rfl ⟨rfl,(Below.refl _ w).alloc (Nat.le_refl _) _⟩
theorem wordsV_get(k:Nat)(h:k<11):wordsV[k]?=some (strV (wordL.getD k [])):=by
 have:k=0∨k=1∨k=2∨k=3∨k=4∨k=5∨k=6∨k=7∨k=8∨k=9∨k=10:=by omega
 rcases this with rfl|rfl|rfl|rfl|rfl|rfl|rfl|rfl|rfl|rfl|rfl<;>rfl
theorem isWord_of(s:List UInt8)(k:Nat)(h:k<11)(e:s=wordL.getD k []):isWord s=true:=by
 have:k=0∨k=1∨k=2∨k=3∨k=4∨k=5∨k=6∨k=7∨k=8∨k=9∨k=10:=by omega
 subst e
 rcases this with rfl|rfl|rfl|rfl|rfl|rfl|rfl|rfl|rfl|rfl|rfl<;>rfl
theorem isWord_no(s:List UInt8)(h:∀k,k<11→s≠wordL.getD k []):isWord s=false:=by
 have h0:=h 0 (by omega)
 have h1:=h 1 (by omega)
 have h2:=h 2 (by omega)
 have h3:=h 3 (by omega)
 have h4:=h 4 (by omega)
 have h5:=h 5 (by omega)
 have h6:=h 6 (by omega)
 have h7:=h 7 (by omega)
 have h8:=h 8 (by omega)
 have h9:=h 9 (by omega)
 have h10:=h 10 (by omega)
 simp[wordL] at h0 h1 h2 h3 h4 h5 h6 h7 h8 h9 h10
 simp[isWord,wordL, *]
theorem ix_words(k:Nat)(h:k<11)(w:World):(Instr.index 590 (.agg wordsV) (.int .i64 (k:Int))).run Tryz.prog w=.ok (strV (wordL.getD k [])) w:=by
 have hn:(0:Int)≤(k:Int)∧(k:Int)<((11:Nat):Int):=by omega
 have hg:=wordsV_get k h
 simp[Instr.index,run_underlying Tryz.underlying590,asIntOf,h,hg,go_sem]
theorem word_ok(s:List UInt8)(w:World):Calls Tryz.prog 474 #[strV s] w (fun e w'=>e=.returned (.bool (isWord s))∧Below w.heap.size w w'):=by
 have HW:=Lib.hid (words_ok w)
 obtain ⟨b,hb⟩:∃b,b=isWord s:=⟨_,rfl⟩
 rw[←hb]
 have HBW:=Lib.hid hb
 clear hb
 go_enter Tryz.func474,Tryz.ntmps474
 go_wp2_with fail
 go_step3
 go_wp2_with fail
 go_step3
 go_wp2_with fail
 refine HW.out.mono ?_
 rintro e w1 ⟨rfl,hb⟩
 have HB:=Lib.hid hb
 clear hb
 go_wp2_with fail
 go_loopw [3,7] (fun bv iv wr=>∃k:Nat,k≤11∧iv=.int .i64 (k:Int)∧bv=.bool false∧(∀j,j<k→s≠wordL.getD j [])∧wr=w1) (fun _ iv _=>11 - (intOf iv).toNat)
 case atStart=>exact ⟨0,by omega,rfl,rfl,fun j hj=>absurd hj (by omega),rfl⟩
 case round=>
  obtain ⟨k,hk,rfl,rfl,hno,rfl⟩:=hrel
  have HNO:=Lib.hid hno
  clear hno
  by_cases hlt:k<11
  ·have hg:=ix_words k hlt
   obtain ⟨x,hx⟩:∃x,x=wordL.getD k []:=⟨_,rfl⟩
   rw[←hx] at hg
   have hki:(k:Int)<11:=by omega
   by_cases he:s=x
   ·have HF:=Lib.hid (HBW.out.trans (isWord_of s k hlt (he.trans hx)))
    subst he
    clear hx
    go_wp2_with fail
    rw[Exit.noGoto_ret]
    go_ret
    exact ⟨by rw[HF.out];rfl,HB.out⟩
   ·have HX:=Lib.hid hx
    have he2:(s==x)=false:=by simpa using he
    have HE:=Lib.hid he
    clear hx he
    go_wp2_with fail
    go_roundw
    case rel=>
     refine ⟨k+1,by omega,by go_num,rfl,fun j hj=>?_,tU⟩
     rcases Nat.lt_succ_iff_lt_or_eq.1 hj with h|rfl
     ·exact HNO.out j h
     ·rw[←HX.out];exact HE.out
    case measure=>simp[intOf];omega
  ·obtain rfl:k=11:=by omega
   have HF:=Lib.hid (HBW.out.trans (isWord_no s HNO.out))
   go_wp2_with fail
   rw[Exit.noGoto_ret]
   go_ret
   exact ⟨by rw[HF.out];rfl,HB.out⟩
theorem row_ret2{fn:Func}{p q:Tmp}{ty:TypeId}{R:Ending→World→Prop}{a:Act}{w:World}(h:fn.results=#[.cell p ty,.tmp q])(g:Nat)(t:TypeId)(cs:Array Value){d:TypeDesc}
  (hp:a.tmps.getD p undef=.pointer (some ⟨g,0,none⟩)) (hb:Blk w g t cs) (hu:Tryz.prog.underlying ty=some d) (hd:(match d with|.struct _|.array _ _=>true|_=>false)=true) (hi:(Tryz.prog.info? ty).map (·.size)=some cs.size)
  (hdf:a.defers=[]) (hR:R (.returned (.tuple #[.agg cs,a.tmps.getD q undef])) w):bodyPost Tryz.prog fn R .ret a w:=by
 refine bodyPost_ret (v:=.tuple #[.agg cs,a.tmps.getD q undef]) ?_ hdf hR
 have hp':a.tmps[p]?.getD undef=.pointer (some ⟨g,0,none⟩):=by simpa using hp
 have hl:=run_loadVar_row (P:=Tryz.prog) w g t ty cs (0,0) d hb hu (by cases d<;>first|rfl|exact hd) hi
 simp[results,h,hp',asAddr,hl]
theorem five{w:World}{g:Nat}{T:TypeId}{a0 a1 a2 a3 a4:Value}(h:Blk w g T #[a0,a1,a2,a3,a4]) :
  (w.cell? ⟨g,0,none⟩=some a0∧w.cell? ⟨g,1,none⟩=some a1∧w.cell? ⟨g,2,none⟩=some a2∧w.cell? ⟨g,3,none⟩=some a3∧w.cell? ⟨g,4,none⟩=some a4) ∧
  (w.frozen? ⟨g,0,none⟩=false∧w.frozen? ⟨g,1,none⟩=false∧w.frozen? ⟨g,2,none⟩=false∧w.frozen? ⟨g,3,none⟩=false∧w.frozen? ⟨g,4,none⟩=false):=
 ⟨⟨h.is 0 rfl,h.is 1 rfl,h.is 2 rfl,h.is 3 rfl,h.is 4 rfl⟩,h.frozen 0,h.frozen 1,h.frozen 2,h.frozen 3,h.frozen 4⟩
def put5(w:World)(g:Nat)(b0 b1 b2 b3 b4:Value):World:=((((w.setCell ⟨g,0,none⟩ b0).setCell ⟨g,1,none⟩ b1).setCell ⟨g,2,none⟩ b2).setCell ⟨g,3,none⟩ b3).setCell ⟨g,4,none⟩ b4
theorem five_put{w:World}{g:Nat}{T:TypeId}{a0 a1 a2 a3 a4:Value}(h:Blk w g T #[a0,a1,a2,a3,a4])(b0 b1 b2 b3 b4:Value):Blk (put5 w g b0 b1 b2 b3 b4) g T #[b0,b1,b2,b3,b4]:=by
 have h1:=((((h.put 0 b0).put 1 b1).put 2 b2).put 3 b3).put 4 b4
 simp only[List.setIfInBounds_toArray,List.set_cons_succ,List.set_cons_zero] at h1
 exact h1
theorem gr_alloc(w:World)(o:Obj)(row:Option Nat):w.grownBy (w.alloc o) row:=⟨rfl,rfl,rfl,by simp,fun k hk _=>Below.heap_alloc w o k hk⟩
theorem gr_below{w w':World}(h:Below w.heap.size w w')(row:Option Nat):w.grownBy w' row:=⟨h.os,h.tape,h.output,h.size,fun k hk _=>h.block k hk⟩
theorem gr_put{w w':World}{row:Option Nat}(h:w.grownBy w' row){r:Nat}(hr:w.heap.size≤r)(i:Nat)(u:Value):w.grownBy (w'.setCell ⟨r,i,none⟩ u) row:=
 ⟨h.os,h.tape,h.output,Nat.le_trans h.size (by simp),fun k hk hne=>(Below.heap_setCell w' ⟨r,i,none⟩ u k (by simp;omega)).trans (h.block k hk hne)⟩
theorem gr_five{w w':World}{row:Option Nat}(h:w.grownBy w' row){r:Nat}(hr:w.heap.size≤r)(b0 b1 b2 b3 b4:Value):w.grownBy (put5 w' r b0 b1 b2 b3 b4) row:=
 gr_put (gr_put (gr_put (gr_put (gr_put h hr 0 b0) hr 1 b1) hr 2 b2) hr 3 b3) hr 4 b4
theorem blk_far5{w:World}{g:Nat}{T:TypeId}{cs:Array Value}(h:Blk w g T cs){r:Nat}(hne:g≠r)(b0 b1 b2 b3 b4:Value):Blk (put5 w r b0 b1 b2 b3 b4) g T cs:=
 ((((h.far (p:=⟨r,0,none⟩) hne b0).far (p:=⟨r,1,none⟩) hne b1).far (p:=⟨r,2,none⟩) hne b2).far (p:=⟨r,3,none⟩) hne b3).far (p:=⟨r,4,none⟩) hne b4
def tkA(t:Tk):Value:=.agg #[.int .i64 (t.kind:Int),strV t.text,.int .i64 (t.n:Int),.int .i64 (t.line:Int),.int .i64 (t.col:Int)]
theorem lname_ok(w:World)(g:Nat)(s:List UInt8)(p:Pt)(h:LxB w g s p)(hp:p.i≤s.length)(hs:s.length≤1000000)(hlow:p.low)(l:List UInt8)(hl:l=(s.drop p.i).takeWhile isInn)(kd er:Nat)
  (hkd:kd=if isWord l then 2 else 1) (her:er=if 16<l.length then 2 else 0) :
  Calls Tryz.prog 397 #[.pointer (some ⟨g,0,none⟩)] w (LxPost w g (.tuple #[tkA ⟨kd,l,0,0,0⟩,.int .i64 (er:Int)]) s (p.adv l)):=by
 obtain ⟨w0,hst⟩:∃w0,w.alloc (.cells #[.int .i64 0,strV [],.int .i64 0,.int .i64 0,.int .i64 0] 265)=w0:=⟨_,rfl⟩
 have h0:LxB w0 g s p:=by rw[←hst];exact Blk.alloc h _
 have hgl:=h.lt
 have hb0:Blk w0 w.heap.size 265 #[.int .i64 0,strV [],.int .i64 0,.int .i64 0,.int .i64 0]:=by rw[←hst];exact Blk.new _ _ _
 have hg0:w.grownBy w0 (some g):=by rw[←hst];exact ⟨rfl,rfl,rfl,by simp,fun k hk _=>Below.heap_alloc w _ k hk⟩
 have HW:=Lib.hid (while_ok inn_prd w0 g s p h0 hp hs hlow)
 rw[←hl] at HW
 have HB0:=Lib.hid hb0
 have HG0:=Lib.hid hg0
 have hsz:=str_size l
 have HWO:=Lib.hid (word_ok l)
 have HGL:=Lib.hid hgl
 have HKD:=Lib.hid hkd
 have HER:=Lib.hid her
 clear h h0 hb0 hg0 hp hs hlow hl hgl hkd her
 go_enter Tryz.func397,Tryz.ntmps397
 go_wp2_with fail
 refine HW.out.mono ?_
 rintro e w1 ⟨rfl,hb1,hg1⟩
 have hr1:Blk w1 w.heap.size 265 #[.int .i64 0,strV [],.int .i64 0,.int .i64 0,.int .i64 0]:=HB0.out.grown hg1 (by have:=HGL.out;simp;omega)
 have HR1:=Lib.hid hr1
 have HB1:=Lib.hid hb1
 have HG1:=Lib.hid (lx_to HG0.out hg1)
 clear hr1 hb1 hg1
 go_wp2_with fail
 refine (HWO.out _).mono ?_
 rintro e w3 ⟨rfl,hbel⟩
 have ht2:=Blk.new w1 265 #[.int .i64 1,strV l,.int .i64 0,.int .i64 0,.int .i64 0]
 have hr3:=(HR1.out.alloc _).below hbel (HR1.out.alloc _).lt
 have ht3:=ht2.below hbel ht2.lt
 have hb3:LxB w3 g s (p.adv l):=Blk.below (Blk.alloc HB1.out _) hbel (Blk.lt (Blk.alloc HB1.out _))
 have hg3:w.grownBy w3 (some g):=lx_to (lx_to HG1.out (gr_alloc w1 _ _)) (gr_below hbel _)
 have hne:w.heap.size<w1.heap.size:=HR1.out.lt
 obtain ⟨⟨t0,t1,t2,t3,t4⟩,tf,-⟩:=five ht3
 obtain ⟨⟨r0,r1,r2,r3,r4⟩,f0,f1,f2,f3,f4⟩:=five hr3
 have HR3:=Lib.hid hr3
 have HT3:=Lib.hid ht3
 have HB3:=Lib.hid hb3
 have HG3:=Lib.hid hg3
 clear hr3 ht3 hb3 hg3 ht2 hbel
 cases hwd:isWord l
 ·rw[hwd] at HKD
  simp only[Bool.false_eq_true,if_false] at HKD
  by_cases h16:16<l.length
  ·have h16i:(16:Int)<(l.length:Int):=by omega
   rw[if_pos h16] at HER
   go_wp2_with fail
   rw[HKD.out,HER.out]
   refine row_ret2 (ty:=265) rfl w.heap.size 265 _ rfl (five_put HR3.out (.int .i64 1) (strV l) (.int .i64 0) (.int .i64 0) (.int .i64 0)) Tryz.underlying265 rfl (by kernel_rfl) rfl ?_
   exact ⟨rfl,blk_far5 HB3.out (Nat.ne_of_lt HGL.out) _ _ _ _ _,gr_five HG3.out (Nat.le_refl _) _ _ _ _ _⟩
  ·have h16i:(l.length:Int)≤16:=by omega
   rw[if_neg h16] at HER
   go_wp2_with fail
   rw[HKD.out,HER.out]
   refine row_ret2 (ty:=265) rfl w.heap.size 265 _ rfl (five_put HR3.out (.int .i64 1) (strV l) (.int .i64 0) (.int .i64 0) (.int .i64 0)) Tryz.underlying265 rfl (by kernel_rfl) rfl ?_
   exact ⟨rfl,blk_far5 HB3.out (Nat.ne_of_lt HGL.out) _ _ _ _ _,gr_five HG3.out (Nat.le_refl _) _ _ _ _ _⟩
 ·rw[hwd] at HKD
  simp only[if_true] at HKD
  have hr4:=HR3.out.far (p:=⟨w1.heap.size,0,none⟩) (Nat.ne_of_lt hne) (.int .i64 2)
  have hb4:LxB (w3.setCell ⟨w1.heap.size,0,none⟩ (.int .i64 2)) g s (p.adv l):=Blk.far HB3.out (p:=⟨w1.heap.size,0,none⟩) (by have:=HGL.out;simp;omega) _
  have hg4:=gr_put HG3.out (Nat.le_of_lt hne) 0 (.int .i64 2)
  have HR4:=Lib.hid hr4
  have HB4:=Lib.hid hb4
  have HG4:=Lib.hid hg4
  clear hr4 hb4 hg4
  by_cases h16:16<l.length
  ·have h16i:(16:Int)<(l.length:Int):=by omega
   rw[if_pos h16] at HER
   go_wp2_with fail
   rw[HKD.out,HER.out]
   refine row_ret2 (ty:=265) rfl w.heap.size 265 _ rfl (five_put HR4.out (.int .i64 2) (strV l) (.int .i64 0) (.int .i64 0) (.int .i64 0)) Tryz.underlying265 rfl (by kernel_rfl) rfl ?_
   exact ⟨rfl,blk_far5 HB4.out (Nat.ne_of_lt HGL.out) _ _ _ _ _,gr_five HG4.out (Nat.le_refl _) _ _ _ _ _⟩
  ·have h16i:(l.length:Int)≤16:=by omega
   rw[if_neg h16] at HER
   go_wp2_with fail
   rw[HKD.out,HER.out]
   refine row_ret2 (ty:=265) rfl w.heap.size 265 _ rfl (five_put HR4.out (.int .i64 2) (strV l) (.int .i64 0) (.int .i64 0) (.int .i64 0)) Tryz.underlying265 rfl (by kernel_rfl) rfl ?_
   exact ⟨rfl,blk_far5 HB4.out (Nat.ne_of_lt HGL.out) _ _ _ _ _,gr_five HG4.out (Nat.le_refl _) _ _ _ _ _⟩
theorem ldigits_ok(w:World)(g:Nat)(s:List UInt8)(p:Pt)(h:LxB w g s p)(hp:p.i≤s.length)(hs:s.length≤1000000)(hlow:p.low)(l:List UInt8)(hl:l=(s.drop p.i).takeWhile isDig)(n:Nat)(er:Nat)
  (hn:n=if (numD l).2 then (numD l).1 else 0) (her:er=if (numD l).2 then 0 else 10) :
  Calls Tryz.prog 399 #[.pointer (some ⟨g,0,none⟩)] w (LxPost w g (.tuple #[tkA ⟨3,l,n,0,0⟩,.int .i64 (er:Int)]) s (p.adv l)):=by
 obtain ⟨w0,hst⟩:∃w0,w.alloc (.cells #[.int .i64 0,strV [],.int .i64 0,.int .i64 0,.int .i64 0] 265)=w0:=⟨_,rfl⟩
 have h0:LxB w0 g s p:=by rw[←hst];exact Blk.alloc h _
 have hgl:=h.lt
 have hb0:Blk w0 w.heap.size 265 #[.int .i64 0,strV [],.int .i64 0,.int .i64 0,.int .i64 0]:=by rw[←hst];exact Blk.new _ _ _
 have hg0:w.grownBy w0 (some g):=by rw[←hst];exact ⟨rfl,rfl,rfl,by simp,fun k hk _=>Below.heap_alloc w _ k hk⟩
 have HW:=Lib.hid (while_ok dig_prd w0 g s p h0 hp hs hlow)
 rw[←hl] at HW
 have HB0:=Lib.hid hb0
 have HG0:=Lib.hid hg0
 have hsz:=str_size l
 have hdig:∀c∈l,48≤c.toNat∧c.toNat≤57:=fun c hc=>by
  rw[hl] at hc
  have:=List.all_takeWhile (p:=isDig) (l:=s.drop p.i)
  rw[List.all_eq_true] at this
  simpa [isDig] using this c hc
 have hll:l.length≤1000000:=by
  have h1:=takeWhile_len isDig (s.drop p.i)
  rw[←hl,List.length_drop] at h1
  omega
 have HWO:=Lib.hid (fun w=>lexnum_ok l w hll hdig)
 clear hdig hll
 have HGL:=Lib.hid hgl
 have HKD:=Lib.hid hn
 have HER:=Lib.hid her
 clear h h0 hb0 hg0 hp hs hlow hl hgl hn her
 go_enter Tryz.func399,Tryz.ntmps399
 go_wp2_with fail
 refine HW.out.mono ?_
 rintro e w1 ⟨rfl,hb1,hg1⟩
 have hr1:Blk w1 w.heap.size 265 #[.int .i64 0,strV [],.int .i64 0,.int .i64 0,.int .i64 0]:=HB0.out.grown hg1 (by have:=HGL.out;simp;omega)
 have HR1:=Lib.hid hr1
 have HB1:=Lib.hid hb1
 have HG1:=Lib.hid (lx_to HG0.out hg1)
 clear hr1 hb1 hg1
 go_wp2_with fail
 refine (HWO.out _).mono ?_
 rintro e w3 ⟨rfl,rfl⟩
 have ht2:=Blk.new w1 265 #[.int .i64 3,strV l,.int .i64 0,.int .i64 0,.int .i64 0]
 have hr3:=HR1.out.alloc (.cells #[.int .i64 3,strV l,.int .i64 0,.int .i64 0,.int .i64 0] 265)
 have hb3:LxB (w1.alloc (.cells #[.int .i64 3,strV l,.int .i64 0,.int .i64 0,.int .i64 0] 265)) g s (p.adv l):=Blk.alloc HB1.out _
 have hg3:=lx_to HG1.out (gr_alloc w1 (.cells #[.int .i64 3,strV l,.int .i64 0,.int .i64 0,.int .i64 0] 265) _)
 have hne:w.heap.size<w1.heap.size:=HR1.out.lt
 obtain ⟨w3,hst3⟩:∃w3,w1.alloc (.cells #[.int .i64 3,strV l,.int .i64 0,.int .i64 0,.int .i64 0] 265)=w3:=⟨_,rfl⟩
 rw[hst3] at ht2 hr3 hb3 hg3 ⊢
 obtain ⟨⟨t0,t1,t2,t3,t4⟩,-,-,tf,-,-⟩:=five ht2
 obtain ⟨⟨r0,r1,r2,r3,r4⟩,f0,f1,f2,f3,f4⟩:=five hr3
 have HR3:=Lib.hid hr3
 have HT3:=Lib.hid ht2
 have HB3:=Lib.hid hb3
 have HG3:=Lib.hid hg3
 clear hr3 hb3 hg3 ht2 hst3
 obtain ⟨⟨m,ok⟩,hnd⟩:∃x,numD l=x:=⟨_,rfl⟩
 rw[hnd] at HKD HER ⊢
 cases ok
 ·simp only[Bool.false_eq_true,if_false] at HKD HER
  go_wp2_with fail
  rw[HKD.out,HER.out]
  refine row_ret2 (ty:=265) rfl w.heap.size 265 _ rfl (five_put HR3.out (.int .i64 3) (strV l) (.int .i64 0) (.int .i64 0) (.int .i64 0)) Tryz.underlying265 rfl (by kernel_rfl) rfl ?_
  exact ⟨rfl,blk_far5 HB3.out (Nat.ne_of_lt HGL.out) _ _ _ _ _,gr_five HG3.out (Nat.le_refl _) _ _ _ _ _⟩
 ·simp only[if_true] at HKD HER
  have hr4:=HR3.out.far (p:=⟨w1.heap.size,2,none⟩) (Nat.ne_of_lt hne) (.int .i64 (m:Int))
  have hb4:LxB (w3.setCell ⟨w1.heap.size,2,none⟩ (.int .i64 (m:Int))) g s (p.adv l):=Blk.far HB3.out (p:=⟨w1.heap.size,2,none⟩) (by have:=HGL.out;simp;omega) _
  have hg4:=gr_put HG3.out (Nat.le_of_lt hne) 2 (.int .i64 (m:Int))
  have HR4:=Lib.hid hr4
  have HB4:=Lib.hid hb4
  have HG4:=Lib.hid hg4
  clear hr4 hb4 hg4
  go_wp2_with fail
  rw[HKD.out,HER.out]
  refine row_ret2 (ty:=265) rfl w.heap.size 265 _ rfl (five_put HR4.out (.int .i64 3) (strV l) (.int .i64 (m:Int)) (.int .i64 0) (.int .i64 0)) Tryz.underlying265 rfl (by kernel_rfl) rfl ?_
  exact ⟨rfl,blk_far5 HB4.out (Nat.ne_of_lt HGL.out) _ _ _ _ _,gr_five HG4.out (Nat.le_refl _) _ _ _ _ _⟩
def markT:List UInt8→Tk×Nat
 | []=>(Tk.none,30)
 | c::r=>if c.toNat=61∨c.toNat=43∨c.toNat=59 then (⟨4,[c],0,0,0⟩,0) else if c.toNat=46∧r.head?=some 46 then (⟨4,[46,46],0,0,0⟩,0) else (Tk.none,30)
theorem lmark_ok(w:World)(g:Nat)(s:List UInt8)(p:Pt)(h:LxB w g s p)(hp:p.i<s.length)(hs:s.length≤1000000)(hlow:p.low) :
  Calls Tryz.prog 395 #[.pointer (some ⟨g,0,none⟩)] w (LxPost w g (.tuple #[tkA (markT (s.drop p.i)).1,.int .i64 ((markT (s.drop p.i)).2:Int)]) s (p.adv (markT (s.drop p.i)).1.text)):=by
 obtain ⟨w0,hst⟩:∃w0,w.alloc (.cells #[.int .i64 0,strV [],.int .i64 0,.int .i64 0,.int .i64 0] 265)=w0:=⟨_,rfl⟩
 have h0:LxB w0 g s p:=by rw[←hst];exact Blk.alloc h _
 have hgl:=h.lt
 have hb0:Blk w0 w.heap.size 265 #[.int .i64 0,strV [],.int .i64 0,.int .i64 0,.int .i64 0]:=by rw[←hst];exact Blk.new _ _ _
 have hg0:w.grownBy w0 (some g):=by rw[←hst];exact gr_alloc _ _ _
 have hsz:=str_size s
 have hix:=lx_ix hp
 have hd:s.drop p.i=s[p.i]::s.drop (p.i+1):=List.drop_eq_getElem_cons hp
 have c0:w0.cell? ⟨g,0,none⟩=some (strV s):=Blk.is h0 0 rfl
 have c1:w0.cell? ⟨g,1,none⟩=some (.int .i64 (p.i:Int)):=Blk.is h0 1 rfl
 have hpi:(p.i:Int)<(s.length:Int):=by omega
 obtain ⟨⟨r0,r1,r2,r3,r4⟩,f0,f1,f2,f3,f4⟩:=five hb0
 have hst1:=fun (u:World) (hu:LxB u g s p)=>step_ok u g s p hu hp hs hlow
 have hst2:∀(d:UInt8),(s.drop (p.i+1)).head?=some d→∀(u:World),LxB u g s (p.step s[p.i])→Calls Tryz.prog 400 #[.pointer (some ⟨g,0,none⟩)] u (fun e w'=>e=.returned (.tuple #[])∧LxB w' g s ((p.step s[p.i]).step d)∧u.grownBy w' (some g)):=fun d hdd u hu=>by
  have hlt2:p.i+1<s.length:=by
   rcases Nat.lt_or_ge (p.i+1) s.length with h1|h1
   ·exact h1
   ·rw[List.drop_eq_nil_of_le h1] at hdd
    cases hdd
  have h2:=step_ok u g s (p.step s[p.i]) hu (show p.i+1<s.length from hlt2) hs (Pt.low_step hlow _)
  have e:s[(p.step s[p.i]).i]'(show p.i+1<s.length from hlt2)=d:=by
   rw[List.drop_eq_getElem_cons hlt2,List.head?_cons] at hdd
   exact Option.some.inj hdd
  rw[e] at h2
  exact h2
 obtain ⟨c,hc⟩:∃c,c=s[p.i]:=⟨_,rfl⟩
 obtain ⟨r,hr⟩:∃r,r=s.drop (p.i+1):=⟨_,rfl⟩
 rw[←hr] at hst2
 rw[←hc] at hix hst1 hst2
 rw[←hc,←hr] at hd
 rw[hd]
 have HH0:=Lib.hid h0
 have HB0:=Lib.hid hb0
 have HG0:=Lib.hid hg0
 have HGL:=Lib.hid hgl
 have HR:=Lib.hid hr
 have HD:=Lib.hid hd
 have HS:=Lib.hid hs
 have HL:=Lib.hid hlow
 have HST1:=Lib.hid hst1
 have HST2:=Lib.hid hst2
 clear hc
 clear h h0 hb0 hg0 hp hs hlow hgl hr hd hst1 hst2
 by_cases h1:c.toNat=61∨c.toNat=43∨c.toNat=59
 ·have hm:markT (c::r)=(⟨4,[c],0,0,0⟩,0):=by show (if _ then _ else _)=_;rw[if_pos h1]
  rw[hm]
  have hcut:∀w,(Instr.slice 9 (strV s) (some (.int .i64 (p.i:Int))) (some (.int .i64 ((p.i:Int)+1))) none).run Tryz.prog w=.ok (strV [c]) w:=fun w=>by
   have:=lx_cut s p.i (p.i+1) (by omega) (by omega) w
   rw[show (s.take (p.i+1)).drop p.i=[c] by rw[List.drop_take,HD.out,show p.i+1 - p.i=1 by omega];rfl] at this
   exact this
  clear hm
  rcases h1 with h1|h1|h1
  all_goals
   rw[h1] at hix
   have hwr:IntKind.i64.wrap ((p.i:Int)+1)=(p.i:Int)+1:=IntWalk.i64_in _ (by have:=HS.out;omega)
   go_enter Tryz.func395,Tryz.ntmps395
   go_wp2_with fail
   go_quiet (fail)
   go_wp2_with fail
   obtain ⟨w5,hw5⟩:∃w5,w0.drewN nq=w5:=⟨_,rfl⟩
   rw[hw5]
   have k0:w5.cell? ⟨g,0,none⟩=some (strV s):=by rw[←hw5];exact c0
   have k1:w5.cell? ⟨g,1,none⟩=some (.int .i64 (p.i:Int)):=by rw[←hw5];exact c1
   have hgl5:g<w5.heap.size:=by rw[←hw5];exact (Blk.lt HH0.out)
   go_region_held3 (fun wx=>wx.cell? ⟨g,0,none⟩=some (strV s)∧wx.cell? ⟨g,1,none⟩=some (.int .i64 (p.i:Int))) (first|exact ⟨k0,k1⟩|go_keep) (fail)
   go_wp2_with fail
   have hb5:LxB w5 g s p:=by rw[←hw5];exact HH0.out
   have hr5:Blk w5 w.heap.size 265 #[.int .i64 0,strV [],.int .i64 0,.int .i64 0,.int .i64 0]:=by rw[←hw5];exact HB0.out
   have hg5:w.grownBy w5 (some g):=by rw[←hw5];exact lx_to HG0.out (lx_drew _ _)
   have hne:w.heap.size<w5.heap.size:=hr5.lt
   obtain ⟨w6,hw6⟩:∃w6,w6=(w5.alloc (.cells #[.int .i64 4,strV [c],.int .i64 0,.int .i64 0,.int .i64 0] 265)).drewN 1:=⟨_,rfl⟩
   have hb6:LxB w6 g s p:=by rw[hw6];exact Blk.alloc hb5 _
   have hr6:Blk w6 w.heap.size 265 #[.int .i64 0,strV [],.int .i64 0,.int .i64 0,.int .i64 0]:=by rw[hw6];exact Blk.alloc hr5 _
   have ht6:Blk w6 w5.heap.size 265 #[.int .i64 4,strV [c],.int .i64 0,.int .i64 0,.int .i64 0]:=by rw[hw6];exact Blk.new _ _ _
   have hg6:w.grownBy w6 (some g):=by rw[hw6];exact lx_to (lx_to hg5 (gr_alloc _ _ _)) (lx_drew 1 _)
   have HB6:=Lib.hid hb6
   have HR6:=Lib.hid hr6
   have HT6:=Lib.hid ht6
   have HG6:=Lib.hid hg6
   have HNE:=Lib.hid hne
   clear hb5 hr5 hg5 hne hb6 hr6 ht6 hg6
   go_loopw [64] (fun iv wr=>(iv=.int .i64 0∧LxB wr g s p∨iv=.int .i64 1∧LxB wr g s (p.step c))∧Blk wr w.heap.size 265 #[.int .i64 0,strV [],.int .i64 0,.int .i64 0,.int .i64 0]∧Blk wr w5.heap.size 265 #[.int .i64 4,strV [c],.int .i64 0,.int .i64 0,.int .i64 0]∧w.grownBy wr (some g)) (fun iv _=>1 - (intOf iv).toNat)
   case atStart=>
    rw[hw6] at HB6 HR6 HT6 HG6
    exact ⟨.inl ⟨rfl,HB6.out⟩,HR6.out,HT6.out,HG6.out⟩
   case round=>
    obtain ⟨hrel,hr7,ht7,hg7⟩:=hrel
    obtain ⟨⟨t0,t1,t2,t3,t4⟩,-⟩:=five ht7
    obtain ⟨⟨r0,r1,r2,r3,r4⟩,f0,f1,f2,f3,f4⟩:=five hr7
    have HR7:=Lib.hid hr7
    have HT7:=Lib.hid ht7
    have HG7:=Lib.hid hg7
    clear hr7 ht7 hg7
    rcases hrel with ⟨rfl,hb7⟩|⟨rfl,hb7⟩
    ·have HB7:=Lib.hid hb7
     clear hb7
     go_wp2_with fail
     refine (HST1.out _ HB7.out).mono ?_
     rintro e w8 ⟨rfl,hb8,hg8⟩
     have hr8:=HR7.out.grown hg8 (by have:=HGL.out;simp;omega)
     have ht8:=HT7.out.grown hg8 (by have:=HGL.out;have:=HNE.out;simp;omega)
     have HB8:=Lib.hid hb8
     have HR8:=Lib.hid hr8
     have HT8:=Lib.hid ht8
     have HG8:=Lib.hid (lx_to HG7.out hg8)
     clear hb8 hr8 ht8 hg8
     go_wp2_with fail
     go_roundw
     case rel=>exact ⟨.inr ⟨rfl,HB8.out⟩,HR8.out,HT8.out,HG8.out⟩
     case measure=>simp[intOf]
    ·have HB7:=Lib.hid hb7
     clear hb7
     go_wp2_with fail
     refine row_ret2 (ty:=265) rfl w.heap.size 265 _ rfl (five_put HR7.out (.int .i64 4) (strV [c]) (.int .i64 0) (.int .i64 0) (.int .i64 0)) Tryz.underlying265 rfl (by kernel_rfl) rfl ?_
     exact ⟨rfl,blk_far5 HB7.out (Nat.ne_of_lt HGL.out) _ _ _ _ _,gr_five HG7.out (Nat.le_refl _) _ _ _ _ _⟩
 ·by_cases h2:c.toNat=46∧r.head?=some 46
  ·have hm:markT (c::r)=(⟨4,[46,46],0,0,0⟩,0):=by show (if _ then _ else _)=_;rw[if_neg h1,if_pos h2]
   rw[hm]
   clear hm
   have hr46:r=46::r.tail:=by
    cases r with
    | nil=>simp at h2
    | cons d r=>simp at h2;rw[h2.2];rfl
   have hlt2:p.i+1<s.length:=by
    rcases Nat.lt_or_ge (p.i+1) s.length with h3|h3
    ·exact h3
    ·have:=HR.out
     rw[List.drop_eq_nil_of_le h3] at this
     rw[this] at hr46
     cases hr46
   have hix2:∀w,(Instr.index 9 (strV s) (.int .i64 ((p.i:Int)+1))).run Tryz.prog w=.ok (.int .u8 46) w:=fun w=>by
    have h3:=lx_ix hlt2 w
    have h4:=HR.out
    rw[List.drop_eq_getElem_cons hlt2] at h4
    rw[hr46] at h4
    rw[←(List.cons.inj h4).1] at h3
    exact h3
   have hcut:∀w,(Instr.slice 9 (strV s) (some (.int .i64 (p.i:Int))) (some (.int .i64 ((p.i:Int)+2))) none).run Tryz.prog w=.ok (strV [46,46]) w:=fun w=>by
    have:=lx_cut s p.i (p.i+2) (by omega) (by omega) w
    rw[show (s.take (p.i+2)).drop p.i=[46,46] by
     rw[List.drop_take,HD.out,show p.i+2 - p.i=2 by omega,hr46,show c=46 from UInt8.toNat_inj.1 (by rw[h2.1];rfl)];rfl] at this
    exact this
   have hwr:IntKind.i64.wrap ((p.i:Int)+1)=(p.i:Int)+1:=IntWalk.i64_in _ (by have:=HS.out;omega)
   have hwr2:IntKind.i64.wrap ((p.i:Int)+2)=(p.i:Int)+2:=IntWalk.i64_in _ (by have:=HS.out;omega)
   have hg8:((p.i:Int)+1==(s.length:Int))=false:=by rw[beq_eq_false_iff_ne];omega
   have hg9:(0:Int)≤(p.i:Int)+1:=by omega
   have hg10:(p.i:Int)+1<(s.length:Int):=by omega
   rw[h2.1] at hix
   have H2:=Lib.hid h2
   clear hr46
   go_enter Tryz.func395,Tryz.ntmps395
   go_wp2_with fail
   go_quiet (fail)
   go_wp2_with fail
   rename Nat=>n1
   go_quiet (fail)
   go_wp2_with fail
   obtain ⟨w5,hw5⟩:∃w5,((w0.drewN n1).drewN nq)=w5:=⟨_,rfl⟩
   rw[hw5]
   have k0:w5.cell? ⟨g,0,none⟩=some (strV s):=by rw[←hw5];exact c0
   have k1:w5.cell? ⟨g,1,none⟩=some (.int .i64 (p.i:Int)):=by rw[←hw5];exact c1
   have hgl5:g<w5.heap.size:=by rw[←hw5];exact (Blk.lt HH0.out)
   go_region_held3 (fun wx=>wx.cell? ⟨g,0,none⟩=some (strV s)∧wx.cell? ⟨g,1,none⟩=some (.int .i64 (p.i:Int))) (first|exact ⟨k0,k1⟩|go_keep) (fail)
   go_wp2_with fail
   have hb5:LxB w5 g s p:=by rw[←hw5];exact HH0.out
   have hr5:Blk w5 w.heap.size 265 #[.int .i64 0,strV [],.int .i64 0,.int .i64 0,.int .i64 0]:=by rw[←hw5];exact HB0.out
   have hg5:w.grownBy w5 (some g):=by rw[←hw5];exact lx_to HG0.out (lx_to (lx_drew n1 _) (lx_drew _ _))
   have hne:w.heap.size<w5.heap.size:=hr5.lt
   obtain ⟨w6,hw6⟩:∃w6,w6=(w5.alloc (.cells #[.int .i64 4,strV [46,46],.int .i64 0,.int .i64 0,.int .i64 0] 265)).drewN 1:=⟨_,rfl⟩
   have hb6:LxB w6 g s p:=by rw[hw6];exact Blk.alloc hb5 _
   have hr6:Blk w6 w.heap.size 265 #[.int .i64 0,strV [],.int .i64 0,.int .i64 0,.int .i64 0]:=by rw[hw6];exact Blk.alloc hr5 _
   have ht6:Blk w6 w5.heap.size 265 #[.int .i64 4,strV [46,46],.int .i64 0,.int .i64 0,.int .i64 0]:=by rw[hw6];exact Blk.new _ _ _
   have hg6:w.grownBy w6 (some g):=by rw[hw6];exact lx_to (lx_to hg5 (gr_alloc _ _ _)) (lx_drew 1 _)
   have HB6:=Lib.hid hb6
   have HR6:=Lib.hid hr6
   have HT6:=Lib.hid ht6
   have HG6:=Lib.hid hg6
   have HNE:=Lib.hid hne
   clear hb5 hr5 hg5 hne hb6 hr6 ht6 hg6
   go_loopw [64] (fun iv wr=>(iv=.int .i64 0∧LxB wr g s p∨iv=.int .i64 1∧LxB wr g s (p.step c)∨iv=.int .i64 2∧LxB wr g s ((p.step c).step 46))∧Blk wr w.heap.size 265 #[.int .i64 0,strV [],.int .i64 0,.int .i64 0,.int .i64 0]∧Blk wr w5.heap.size 265 #[.int .i64 4,strV [46,46],.int .i64 0,.int .i64 0,.int .i64 0]∧w.grownBy wr (some g)) (fun iv _=>2 - (intOf iv).toNat)
   case atStart=>
    rw[hw6] at HB6 HR6 HT6 HG6
    exact ⟨.inl ⟨rfl,HB6.out⟩,HR6.out,HT6.out,HG6.out⟩
   case round=>
    obtain ⟨hrel,hr7,ht7,hg7⟩:=hrel
    obtain ⟨⟨t0,t1,t2,t3,t4⟩,-⟩:=five ht7
    obtain ⟨⟨r0,r1,r2,r3,r4⟩,f0,f1,f2,f3,f4⟩:=five hr7
    have HR7:=Lib.hid hr7
    have HT7:=Lib.hid ht7
    have HG7:=Lib.hid hg7
    clear hr7 ht7 hg7
    rcases hrel with ⟨rfl,hb7⟩|⟨rfl,hb7⟩|⟨rfl,hb7⟩
    ·have HB7:=Lib.hid hb7
     clear hb7
     go_wp2_with fail
     refine (HST1.out _ HB7.out).mono ?_
     rintro e w8 ⟨rfl,hb8,hg8⟩
     have hr8:=HR7.out.grown hg8 (by have:=HGL.out;simp;omega)
     have ht8:=HT7.out.grown hg8 (by have:=HGL.out;have:=HNE.out;simp;omega)
     have HB8:=Lib.hid hb8
     have HR8:=Lib.hid hr8
     have HT8:=Lib.hid ht8
     have HG8:=Lib.hid (lx_to HG7.out hg8)
     clear hb8 hr8 ht8 hg8
     go_wp2_with fail
     go_roundw
     case rel=>exact ⟨.inr (.inl ⟨rfl,HB8.out⟩),HR8.out,HT8.out,HG8.out⟩
     case measure=>simp[intOf]
    ·have HB7:=Lib.hid hb7
     clear hb7
     go_wp2_with fail
     refine (HST2.out 46 H2.out.2 _ HB7.out).mono ?_
     rintro e w8 ⟨rfl,hb8,hg8⟩
     have hr8:=HR7.out.grown hg8 (by have:=HGL.out;simp;omega)
     have ht8:=HT7.out.grown hg8 (by have:=HGL.out;have:=HNE.out;simp;omega)
     have HB8:=Lib.hid hb8
     have HR8:=Lib.hid hr8
     have HT8:=Lib.hid ht8
     have HG8:=Lib.hid (lx_to HG7.out hg8)
     clear hb8 hr8 ht8 hg8
     go_wp2_with fail
     go_roundw
     case rel=>exact ⟨.inr (.inr ⟨rfl,HB8.out⟩),HR8.out,HT8.out,HG8.out⟩
     case measure=>simp[intOf]
    ·have HB7:=Lib.hid hb7
     clear hb7
     go_wp2_with fail
     refine row_ret2 (ty:=265) rfl w.heap.size 265 _ rfl (five_put HR7.out (.int .i64 4) (strV [46,46]) (.int .i64 0) (.int .i64 0) (.int .i64 0)) Tryz.underlying265 rfl (by kernel_rfl) rfl ?_
     exact ⟨rfl,blk_far5 (show LxB _ g s (p.adv [46,46]) by rw[show p.adv [46,46]=(p.step c).step 46 by rw[show c=46 from UInt8.toNat_inj.1 (by rw[H2.out.1];rfl)];rfl];exact HB7.out) (Nat.ne_of_lt HGL.out) _ _ _ _ _,gr_five HG7.out (Nat.le_refl _) _ _ _ _ _⟩
  ·have hm:markT (c::r)=(Tk.none,30):=by show (if _ then _ else _)=_;rw[if_neg h1,if_neg h2]
   rw[hm]
   clear hm
   have hwr:IntKind.i64.wrap ((p.i:Int)+1)=(p.i:Int)+1:=IntWalk.i64_in _ (by have:=HS.out;omega)
   have hg9:(0:Int)≤(p.i:Int)+1:=by omega
   by_cases h46:c.toNat=46
   ·rw[h46] at hix
    by_cases hlt2:p.i+1<s.length
    ·have hg8:((p.i:Int)+1==(s.length:Int))=false:=by rw[beq_eq_false_iff_ne];omega
     have hg10:(p.i:Int)+1<(s.length:Int):=by omega
     have hix2:∀w,(Instr.index 9 (strV s) (.int .i64 ((p.i:Int)+1))).run Tryz.prog w=.ok (.int .u8 (s[p.i+1].toNat:Int)) w:=lx_ix hlt2
     have hd46:(((s[p.i+1].toNat:Nat):Int) != 46)=true:=by
      rw[bne_iff_ne]
      intro hc
      refine h2 ⟨h46,?_⟩
      rw[HR.out,List.drop_eq_getElem_cons hlt2,List.head?_cons]
      congr 1
      exact UInt8.toNat_inj.1 (by have:(46:UInt8).toNat=46:=rfl;omega)
     generalize s[p.i+1].toNat=d at *
     clear h1 h2
     go_enter Tryz.func395,Tryz.ntmps395
     go_wp2_with fail
     go_quiet (fail)
     go_wp2_with fail
     rename Nat=>n1
     go_quiet (fail)
     go_wp2_with fail
     refine row_ret2 (ty:=265) rfl w.heap.size 265 _ rfl (five_put (show Blk (w0.drewN (n1+nq)) w.heap.size 265 #[.int .i64 0,strV [],.int .i64 0,.int .i64 0,.int .i64 0] from HB0.out) (.int .i64 0) (strV []) (.int .i64 0) (.int .i64 0) (.int .i64 0)) Tryz.underlying265 rfl (by kernel_rfl) rfl ?_
     exact ⟨rfl,blk_far5 (show Blk (w0.drewN (n1+nq)) g _ _ from HH0.out) (Nat.ne_of_lt HGL.out) _ _ _ _ _,gr_five (show w.grownBy (w0.drewN (n1+nq)) (some g) from lx_to HG0.out (lx_drew _ _)) (Nat.le_refl _) _ _ _ _ _⟩
    ·have hg8:((p.i:Int)+1==(s.length:Int))=true:=by rw[beq_iff_eq];omega
     clear h1 h2
     go_enter Tryz.func395,Tryz.ntmps395
     go_wp2_with fail
     go_quiet (fail)
     go_wp2_with fail
     rename Nat=>n1
     go_quiet (fail)
     go_wp2_with fail
     refine row_ret2 (ty:=265) rfl w.heap.size 265 _ rfl (five_put (show Blk (w0.drewN (n1+nq)) w.heap.size 265 #[.int .i64 0,strV [],.int .i64 0,.int .i64 0,.int .i64 0] from HB0.out) (.int .i64 0) (strV []) (.int .i64 0) (.int .i64 0) (.int .i64 0)) Tryz.underlying265 rfl (by kernel_rfl) rfl ?_
     exact ⟨rfl,blk_far5 (show Blk (w0.drewN (n1+nq)) g _ _ from HH0.out) (Nat.ne_of_lt HGL.out) _ _ _ _ _,gr_five (show w.grownBy (w0.drewN (n1+nq)) (some g) from lx_to HG0.out (lx_drew _ _)) (Nat.le_refl _) _ _ _ _ _⟩
   ·have e1:((c.toNat:Int)==61)=false:=by rw[beq_eq_false_iff_ne];omega
    have e2:((c.toNat:Int)==43)=false:=by rw[beq_eq_false_iff_ne];omega
    have e3:((c.toNat:Int)==59)=false:=by rw[beq_eq_false_iff_ne];omega
    have e4:((c.toNat:Int)==46)=false:=by rw[beq_eq_false_iff_ne];omega
    generalize c.toNat=x at hix e1 e2 e3 e4
    clear h1 h2 h46
    go_enter Tryz.func395,Tryz.ntmps395
    go_wp2_with fail
    go_quiet (fail)
    go_wp2_with fail
    refine row_ret2 (ty:=265) rfl w.heap.size 265 _ rfl (five_put (show Blk (w0.drewN nq) w.heap.size 265 #[.int .i64 0,strV [],.int .i64 0,.int .i64 0,.int .i64 0] from HB0.out) (.int .i64 0) (strV []) (.int .i64 0) (.int .i64 0) (.int .i64 0)) Tryz.underlying265 rfl (by kernel_rfl) rfl ?_
    exact ⟨rfl,blk_far5 (show Blk (w0.drewN nq) g _ _ from HH0.out) (Nat.ne_of_lt HGL.out) _ _ _ _ _,gr_five (show w.grownBy (w0.drewN nq) (some g) from lx_to HG0.out (lx_drew _ _)) (Nat.le_refl _) _ _ _ _ _⟩
end Go.Proofs.YtmbdghclhpboaaaGreat

/- Part of the proof: Lex3. Conditions: as each states. -/
import Derived.Test.YtmbdghclhpboaaaGreatPb28
set_option linter.all false
set_option maxRecDepth 100000
set_option maxHeartbeats 8000000
namespace Go.Proofs.YtmbdghclhpboaaaGreat
open Go.RowKit
theorem nextT_let(c:UInt8)(r:List UInt8)(h:isLet c=true):nextT (c::r)=(⟨if isWord ((c::r).takeWhile isInn) then 2 else 1,(c::r).takeWhile isInn,0,0,0⟩,if 16<((c::r).takeWhile isInn).length then 2 else 0):=by
 unfold nextT
 simp only[h,if_true]
theorem nextT_dig(c:UInt8)(r:List UInt8)(h:isLet c=false)(h2:isDig c=true):nextT (c::r)=(⟨3,(c::r).takeWhile isDig,if (numD ((c::r).takeWhile isDig)).2 then (numD ((c::r).takeWhile isDig)).1 else 0,0,0⟩,if (numD ((c::r).takeWhile isDig)).2 then 0 else 10):=by
 unfold nextT
 simp only[h,h2,if_true,Bool.false_eq_true,if_false]
 split<;>simp[*]
theorem nextT_mark(c:UInt8)(r:List UInt8)(h:isLet c=false)(h2:isDig c=false):nextT (c::r)=markT (c::r):=by
 unfold nextT markT
 simp only[h,h2,Bool.false_eq_true,if_false]
theorem lnext_ok(w:World)(g:Nat)(s:List UInt8)(p:Pt)(h:LxB w g s p)(hp:p.i<s.length)(hs:s.length≤1000000)(hlow:p.low) :
  Calls Tryz.prog 299 #[.pointer (some ⟨g,0,none⟩)] w (LxPost w g (.tuple #[tkA (nextT (s.drop p.i)).1,.int .i64 ((nextT (s.drop p.i)).2:Int)]) s (p.adv (nextT (s.drop p.i)).1.text)):=by
 obtain ⟨w0,hst⟩:∃w0,w.alloc (.cells #[.int .i64 0,strV [],.int .i64 0,.int .i64 0,.int .i64 0] 265)=w0:=⟨_,rfl⟩
 have h0:LxB w0 g s p:=by rw[←hst];exact Blk.alloc h _
 have hgl:=h.lt
 have hb0:Blk w0 w.heap.size 265 #[.int .i64 0,strV [],.int .i64 0,.int .i64 0,.int .i64 0]:=by rw[←hst];exact Blk.new _ _ _
 have hg0:w.grownBy w0 (some g):=by rw[←hst];exact gr_alloc _ _ _
 have hd:s.drop p.i=s[p.i]::s.drop (p.i+1):=List.drop_eq_getElem_cons hp
 have HM1:=Lib.hid (more_ok let_prd w0 g s p h0)
 have HM2:=Lib.hid (fun n=>more_ok dig_prd (w0.drewN n) g s p h0)
 have HN:=Lib.hid (fun n=>lname_ok (w0.drewN n) g s p h0 (Nat.le_of_lt hp) hs hlow _ rfl _ _ rfl rfl)
 have HDG:=Lib.hid (fun n=>ldigits_ok (w0.drewN n) g s p h0 (Nat.le_of_lt hp) hs hlow _ rfl _ _ rfl rfl)
 have HMK:=Lib.hid (fun n=>lmark_ok (w0.drewN n) g s p h0 hp hs hlow)
 rw[hd] at HM1 HM2 HN HDG HMK ⊢
 generalize s[p.i]=c at *
 generalize s.drop (p.i+1)=r at *
 have HB0:=Lib.hid hb0
 have HG0:=Lib.hid hg0
 have HGL:=Lib.hid hgl
 clear h h0 hb0 hg0 hp hs hlow hgl hd
 have hm1:moreB isLet (c::r)=isLet c:=rfl
 have hm2:moreB isDig (c::r)=isDig c:=rfl
 rw[hm1] at HM1
 rw[hm2] at HM2
 clear hm1 hm2
 cases h1:isLet c
 ·rw[h1] at HM1
  cases h2:isDig c
  ·rw[h2] at HM2
   rw[nextT_mark c r h1 h2]
   obtain ⟨⟨⟨kd,tx,n,ln,cl⟩,er⟩,hx⟩:∃x,markT (c::r)=x:=⟨_,rfl⟩
   rw[hx] at HMK ⊢
   clear hx h1 h2 HN HDG
   go_enter Tryz.func299,Tryz.ntmps299
   go_wp2_with fail
   refine HM1.out.mono ?_
   rintro e w1 ⟨rfl,n1,hw1⟩
   rw[hw1]
   clear hw1 w1
   go_wp2_with fail
   refine (HM2.out n1).mono ?_
   rintro e w1 ⟨rfl,n2,hw1⟩
   have hw2:w1=w0.drewN (n1+n2):=by rw[hw1,World.drewN_drewN]
   rw[hw2]
   clear hw1 hw2 w1
   go_wp2_with fail
   refine (HMK.out _).mono ?_
   rintro e w2 ⟨rfl,hb2,hg2⟩
   have hr2:=(show Blk (w0.drewN (n1+n2)) w.heap.size _ _ from HB0.out).grown hg2 (by have:=HGL.out;simp;omega)
   obtain ⟨⟨r0,r1,r2,r3,r4⟩,f0,f1,f2,f3,f4⟩:=five hr2
   have HB2:=Lib.hid hb2
   have HR2:=Lib.hid hr2
   have HG2:=Lib.hid (lx_to (lx_to HG0.out (lx_drew (n1+n2) _)) hg2)
   clear hb2 hr2 hg2
   unfold tkA
   go_wp2_with fail
   refine row_ret2 (ty:=265) rfl w.heap.size 265 _ rfl (five_put HR2.out (.int .i64 (kd:Int)) (strV tx) (.int .i64 (n:Int)) (.int .i64 (ln:Int)) (.int .i64 (cl:Int))) Tryz.underlying265 rfl (by kernel_rfl) rfl ?_
   exact ⟨rfl,blk_far5 HB2.out (Nat.ne_of_lt HGL.out) _ _ _ _ _,gr_five HG2.out (Nat.le_refl _) _ _ _ _ _⟩
  ·rw[h2] at HM2
   rw[nextT_dig c r h1 h2]
   obtain ⟨tx,htx⟩:∃x,(c::r).takeWhile isDig=x:=⟨_,rfl⟩
   rw[htx] at HDG ⊢
   obtain ⟨n,hn⟩:∃n,(if (numD tx).2 then (numD tx).1 else 0)=n:=⟨_,rfl⟩
   obtain ⟨er,her⟩:∃n:Nat,(if (numD tx).2 then 0 else 10)=n:=⟨_,rfl⟩
   rw[hn,her] at HDG ⊢
   clear htx hn her h1 h2 HN HMK
   go_enter Tryz.func299,Tryz.ntmps299
   go_wp2_with fail
   refine HM1.out.mono ?_
   rintro e w1 ⟨rfl,n1,hw1⟩
   rw[hw1]
   clear hw1 w1
   go_wp2_with fail
   refine (HM2.out n1).mono ?_
   rintro e w1 ⟨rfl,n2,hw1⟩
   have hw2:w1=w0.drewN (n1+n2):=by rw[hw1,World.drewN_drewN]
   rw[hw2]
   clear hw1 hw2 w1
   go_wp2_with fail
   refine (HDG.out _).mono ?_
   rintro e w2 ⟨rfl,hb2,hg2⟩
   have hr2:=(show Blk (w0.drewN (n1+n2)) w.heap.size _ _ from HB0.out).grown hg2 (by have:=HGL.out;simp;omega)
   obtain ⟨⟨r0,r1,r2,r3,r4⟩,f0,f1,f2,f3,f4⟩:=five hr2
   have HB2:=Lib.hid hb2
   have HR2:=Lib.hid hr2
   have HG2:=Lib.hid (lx_to (lx_to HG0.out (lx_drew (n1+n2) _)) hg2)
   clear hb2 hr2 hg2
   unfold tkA
   go_wp2_with fail
   refine row_ret2 (ty:=265) rfl w.heap.size 265 _ rfl (five_put HR2.out (.int .i64 3) (strV tx) (.int .i64 (n:Int)) (.int .i64 0) (.int .i64 0)) Tryz.underlying265 rfl (by kernel_rfl) rfl ?_
   exact ⟨rfl,blk_far5 HB2.out (Nat.ne_of_lt HGL.out) _ _ _ _ _,gr_five HG2.out (Nat.le_refl _) _ _ _ _ _⟩
 ·rw[h1] at HM1
  ·rw[nextT_let c r h1]
   obtain ⟨tx,htx⟩:∃x,(c::r).takeWhile isInn=x:=⟨_,rfl⟩
   rw[htx] at HN ⊢
   obtain ⟨kd,hkd⟩:∃n:Nat,(if isWord tx=true then 2 else 1)=n:=⟨_,rfl⟩
   obtain ⟨er,her⟩:∃n:Nat,(if 16<tx.length then 2 else 0)=n:=⟨_,rfl⟩
   rw[hkd,her] at HN ⊢
   clear htx hkd her h1 HM2 HMK HDG
   go_enter Tryz.func299,Tryz.ntmps299
   go_wp2_with fail
   refine HM1.out.mono ?_
   rintro e w1 ⟨rfl,n1,hw1⟩
   rw[hw1]
   clear hw1 w1
   go_wp2_with fail
   refine (HN.out _).mono ?_
   rintro e w2 ⟨rfl,hb2,hg2⟩
   have hr2:=(show Blk (w0.drewN n1) w.heap.size _ _ from HB0.out).grown hg2 (by have:=HGL.out;simp;omega)
   obtain ⟨⟨r0,r1,r2,r3,r4⟩,f0,f1,f2,f3,f4⟩:=five hr2
   have HB2:=Lib.hid hb2
   have HR2:=Lib.hid hr2
   have HG2:=Lib.hid (lx_to (lx_to HG0.out (lx_drew n1 _)) hg2)
   clear hb2 hr2 hg2
   unfold tkA
   go_wp2_with fail
   refine row_ret2 (ty:=265) rfl w.heap.size 265 _ rfl (five_put HR2.out (.int .i64 (kd:Int)) (strV tx) (.int .i64 0) (.int .i64 0) (.int .i64 0)) Tryz.underlying265 rfl (by kernel_rfl) rfl ?_
   exact ⟨rfl,blk_far5 HB2.out (Nat.ne_of_lt HGL.out) _ _ _ _ _,gr_five HG2.out (Nat.le_refl _) _ _ _ _ _⟩
def tkC(t:Tk):List Value:=[.int .i64 (t.kind:Int),strV t.text,.int .i64 (t.n:Int),.int .i64 (t.line:Int),.int .i64 (t.col:Int)]
theorem tk_enc:EncOk tkC 5:=⟨fun _=>rfl,fun t u h=>by
 simp only[tkC,List.mem_cons,List.not_mem_nil,or_false] at h
 rcases h with rfl|rfl|rfl|rfl|rfl<;>rfl⟩
theorem tk_elem:ElemOk Tryz.prog 165 265 5 48:=⟨Tryz.underlying165,by
 have h:(Tryz.prog.info? 265).map (fun i=>(i.zero,i.size,i.bytes))=some (some (.agg #[.int .i64 0,strV [],.int .i64 0,.int .i64 0,.int .i64 0]),5,48):=by kernel_rfl
 obtain ⟨i,hi,h1,h2,h3⟩:=info_parts h
 exact ⟨i,_,hi,h1,h2,h3,rfl⟩,by omega⟩
theorem row_ret3{fn:Func}{p q:Tmp}{ty:TypeId}{R:Ending→World→Prop}{a:Act}{w:World}(h:fn.results=#[.tmp q,.cell p ty])(g:Nat)(t:TypeId)(cs:Array Value){d:TypeDesc}
  (hp:a.tmps.getD p undef=.pointer (some ⟨g,0,none⟩)) (hb:Blk w g t cs) (hu:Tryz.prog.underlying ty=some d) (hd:(match d with|.struct _|.array _ _=>true|_=>false)=true) (hi:(Tryz.prog.info? ty).map (·.size)=some cs.size)
  (hdf:a.defers=[]) (hR:R (.returned (.tuple #[a.tmps.getD q undef,.agg cs])) w):bodyPost Tryz.prog fn R .ret a w:=by
 refine bodyPost_ret (v:=.tuple #[a.tmps.getD q undef,.agg cs]) ?_ hdf hR
 have hp':a.tmps[p]?.getD undef=.pointer (some ⟨g,0,none⟩):=by simpa using hp
 have hl:=run_loadVar_row (P:=Tryz.prog) w g t ty cs (0,0) d hb hu (by cases d<;>first|rfl|exact hd) hi
 simp[results,h,hp',asAddr,hl]
theorem begin_ok(s:List UInt8)(w:World):Calls Tryz.prog 296 #[strV s] w (fun e w'=>e=.returned (.pointer (some ⟨w.heap.size,0,none⟩))∧LxB w' w.heap.size s Pt.zero∧Below w.heap.size w w'):=by
 have HB:=Lib.hid (Blk.new w 417 #[strV s,.int .i64 0,.int .i64 1,.int .i64 1])
 have HW:=Lib.hid ((Below.refl w.heap.size w).alloc (Nat.le_refl _) (.cells #[strV s,.int .i64 0,.int .i64 1,.int .i64 1] 417))
 go_enter Tryz.func296,Tryz.ntmps296
 go_wp2_with fail
 go_ret
 exact ⟨rfl,HB.out,HW.out⟩
def TkPost(w:World)(l:List Tk)(f:Flt)(e:Ending)(w':World):Prop:=
 ∃v,e=.returned (.tuple #[v,.agg #[.int .i64 (f.err:Int),.int .i64 (f.line:Int),.int .i64 (f.col:Int)]])∧Own tkC 5 265 w' w.heap.size v l∧Below w.heap.size w w'
theorem own_put{α:Type}{enc:α→List Value}{k:Nat}{e:TypeId}{w:World}{base:Nat}{v:Value}{l:List α}(h:Own enc k e w base v l){r:Nat}(hr:v.ownBlock≠some r)(i:Nat)(u:Value):Own enc k e (w.setCell ⟨r,i,none⟩ u) base v l:=h.set u hr
theorem three{w:World}{g:Nat}{T:TypeId}{a0 a1 a2:Value}(h:Blk w g T #[a0,a1,a2]) :
  (w.cell? ⟨g,0,none⟩=some a0∧w.cell? ⟨g,1,none⟩=some a1∧w.cell? ⟨g,2,none⟩=some a2)∧(w.frozen? ⟨g,0,none⟩=false∧w.frozen? ⟨g,1,none⟩=false∧w.frozen? ⟨g,2,none⟩=false):=
 ⟨⟨h.is 0 rfl,h.is 1 rfl,h.is 2 rfl⟩,h.frozen 0,h.frozen 1,h.frozen 2⟩
def put3(w:World)(g:Nat)(b0 b1 b2:Value):World:=((w.setCell ⟨g,0,none⟩ b0).setCell ⟨g,1,none⟩ b1).setCell ⟨g,2,none⟩ b2
theorem three_put{w:World}{g:Nat}{T:TypeId}{a0 a1 a2:Value}(h:Blk w g T #[a0,a1,a2])(b0 b1 b2:Value):Blk (put3 w g b0 b1 b2) g T #[b0,b1,b2]:=by
 have h1:=((h.put 0 b0).put 1 b1).put 2 b2
 simp only[List.setIfInBounds_toArray,List.set_cons_succ,List.set_cons_zero] at h1
 exact h1
theorem below_put3{B:Nat}{w w':World}(h:Below B w w'){r:Nat}(hr:B≤r)(b0 b1 b2:Value):Below B w (put3 w' r b0 b1 b2):=
 ((h.setCell (p:=⟨r,0,none⟩) hr b0).setCell (p:=⟨r,1,none⟩) hr b1).setCell (p:=⟨r,2,none⟩) hr b2
theorem below_of_gr{B g:Nat}{w w':World}(h:w.grownBy w' (some g))(hg:B≤g)(hB:B≤w.heap.size):Below B w w':=
 ⟨h.os,h.tape,h.output,h.size,fun k hk=>h.block k (by omega) (by simp;omega)⟩
theorem tokens_long(s:List UInt8)(w:World)(h:512<s.length):Calls Tryz.prog 217 #[strV s] w (TkPost w (toks s).1 (toks s).2):=by
 have hr:toks s=([],⟨2,1,1⟩):=by unfold toks;rw[if_pos h]
 rw[hr]
 have hsz:=str_size s
 have h1:(512:Int)<(s.length:Int):=by omega
 obtain ⟨w0,hst⟩:∃w0,w.alloc (.cells #[.int .i64 0,.int .i64 0,.int .i64 0] 86)=w0:=⟨_,rfl⟩
 have hb0:Blk w0 w.heap.size 86 #[.int .i64 0,.int .i64 0,.int .i64 0]:=by rw[←hst];exact Blk.new _ _ _
 have hw0:Below w.heap.size w w0:=by rw[←hst];exact (Below.refl _ w).alloc (Nat.le_refl _) _
 have HB0:=Lib.hid hb0
 have HW0:=Lib.hid hw0
 clear hr hb0 hw0
 go_enter Tryz.func217,Tryz.ntmps217
 go_wp2_with fail
 refine (begin_ok s _).mono ?_
 rintro e w1 ⟨rfl,hb1,hw1⟩
 have HB1:=Lib.hid (HB0.out.below hw1 HB0.out.lt)
 have HW1:=Lib.hid (HW0.out.trans (hw1.mono HW0.out.size))
 have HL1:=Lib.hid hb1
 have hsz1:=Lib.hid hw1.size
 clear hb1 hw1
 go_wp2_with fail
 refine (place_ok w1 w0.heap.size s Pt.zero HL1.out).mono ?_
 rintro e w2 ⟨rfl,hw2⟩
 have hb2:=HB1.out.below hw2 HB1.out.lt
 obtain ⟨⟨r0,r1,r2⟩,f0,f1,f2⟩:=three hb2
 have HB2:=Lib.hid hb2
 have HW2:=Lib.hid (HW1.out.trans (hw2.mono HW1.out.size))
 clear hb2 hw2
 go_wp2_with fail
 refine row_ret3 (ty:=86) rfl w.heap.size 86 _ rfl (three_put HB2.out (.int .i64 2) (.int .i64 1) (.int .i64 1)) Tryz.underlying86 rfl (by kernel_rfl) rfl ?_
 exact ⟨_,rfl,Own.nil,below_put3 HW2.out (Nat.le_refl _) _ _ _⟩
theorem tokens_ok(s:List UInt8)(w:World)(h:s.length≤512):Calls Tryz.prog 217 #[strV s] w (TkPost w (toks s).1 (toks s).2):=by
 have hr:toks s=toksN s Pt.zero []:=by unfold toks toksN;rw[if_neg (by omega)]
 rw[hr]
 obtain ⟨T,hT⟩:∃T,T=toksN s Pt.zero []:=⟨_,rfl⟩
 rw[←hT]
 have HT:=Lib.hid hT
 have hsz:=str_size s
 have h1:¬(512:Int)<(s.length:Int):=by omega
 have HS:=Lib.hid h
 obtain ⟨w0,hst⟩:∃w0,w.alloc (.cells #[.int .i64 0,.int .i64 0,.int .i64 0] 86)=w0:=⟨_,rfl⟩
 have hb0:Blk w0 w.heap.size 86 #[.int .i64 0,.int .i64 0,.int .i64 0]:=by rw[←hst];exact Blk.new _ _ _
 have hw0:Below w.heap.size w w0:=by rw[←hst];exact (Below.refl _ w).alloc (Nat.le_refl _) _
 have HB0:=Lib.hid hb0
 have HW0:=Lib.hid hw0
 clear hr hb0 hw0 hT h
 go_enter Tryz.func217,Tryz.ntmps217
 go_wp2_with fail
 refine (begin_ok s _).mono ?_
 rintro e w1 ⟨rfl,hb1,hw1⟩
 obtain ⟨g,hg⟩:∃g,g=w0.heap.size:=⟨_,rfl⟩
 rw[←hg] at hb1 ⊢
 have HB1:=Lib.hid (HB0.out.below hw1 HB0.out.lt)
 have HW1:=Lib.hid (HW0.out.trans (hw1.mono HW0.out.size))
 have HL1:=Lib.hid hb1
 have HGL:=Lib.hid (show w.heap.size<g by rw[hg];exact HB0.out.lt)
 clear hb1 hw1 hg
 go_wp2_with fail
 go_loopw [5] (fun ov wr=>∃(q:Pt) (out:List Tk) (A:Option Addr) (cap:Nat),q.i≤s.length∧q.low∧out.length≤q.i∧ov=.slice A out.length cap∧Hid (toksN (s.drop q.i) q out=T)∧Hid (LxB wr g s q)∧Hid (Own tkC 5 265 wr w.heap.size (.slice A out.length cap) out)∧Hid (Blk wr w.heap.size 86 #[.int .i64 0,.int .i64 0,.int .i64 0])∧Hid (Below w.heap.size w wr)) (fun _ wr=>s.length+1 - lxAt g wr)
 case atStart=>exact ⟨Pt.zero,[],none,0,Nat.zero_le _,Pt.low_zero,Nat.le_refl _,rfl,Lib.hid HT.out.symm,HL1,Lib.hid Own.nil,HB1,HW1⟩
 case round=>
  obtain ⟨q,out,A,cap,hqi,hlow,hol,rfl,HN,HL,HO,HF,HW⟩:=hrel
  obtain ⟨l,hl⟩:∃l,l=s.drop q.i:=⟨_,rfl⟩
  have hll:l.length=s.length - q.i:=by rw[hl,List.length_drop]
  have hnl:=skipN_le l
  have SK:=skip_ok wr g s q HL.out hqi (by have:=HS.out;omega) hlow
  rw[←hl] at SK
  obtain ⟨n,hn⟩:∃n,n=skipN l:=⟨_,rfl⟩
  rw[←hn] at SK hnl
  obtain ⟨q1,hq1⟩:∃q1,q1=q.adv (l.take n):=⟨_,rfl⟩
  rw[←hq1] at SK
  have hi1:q1.i=q.i+n:=by rw[hq1,Pt.adv_i,List.length_take];omega
  have hlow1:q1.low:=by rw[hq1];exact Pt.low_adv _ hlow
  have hd1:s.drop q1.i=l.drop n:=by rw[hi1,hl,List.drop_drop]
  have HSK:=Lib.hid SK
  have HLOW1:=Lib.hid hlow1
  have HD1:=Lib.hid hd1
  have HI1:=Lib.hid hi1
  have HNL:=Lib.hid hnl
  have HLL:=Lib.hid hll
  have HHN:=Lib.hid hn
  have HQ1:=Lib.hid hq1
  have HHL:=Lib.hid hl
  have HOL:=Lib.hid hol
  have HQI:=Lib.hid hqi
  clear SK hlow hlow1 hd1 hi1 hnl hll hn hq1 hl hol hqi
  go_wp2_with fail
  refine HSK.out.mono ?_
  rintro e w2 ⟨rfl,hb2,hg2⟩
  have HL2:=Lib.hid hb2
  have HO2:=Lib.hid (HO.out.grown hg2 (.inr (HO.out.ne_blk HL.out (by decide))))
  have HF2:=Lib.hid (HF.out.grown hg2 (by have:=HGL.out;simp;omega))
  have HW2:=Lib.hid (HW.out.trans (below_of_gr hg2 (Nat.le_of_lt HGL.out) HW.out.size))
  clear hb2 hg2
  go_wp2_with fail
  refine (place_ok w2 g s q1 HL2.out).mono ?_
  rintro e w3 ⟨rfl,hw3⟩
  have HL3:=Lib.hid (show LxB w3 g s q1 from Blk.below HL2.out hw3 (Blk.lt HL2.out))
  have HO3:=Lib.hid (HO2.out.keep fun b hb=>hw3.block b (HO2.out.lt b hb).2)
  have HF3:=Lib.hid (HF2.out.below hw3 HF2.out.lt)
  have HW3:=Lib.hid (HW2.out.trans (hw3.mono HW2.out.size))
  clear hw3
  have c1:(w3.alloc (.cells #[.int .i64 (q1.line:Int),.int .i64 (q1.col:Int)] 84)).cell? ⟨g,1,none⟩=some (.int .i64 (q1.i:Int)):=Blk.is (Blk.alloc HL3.out _) 1 rfl
  have HA4:=Lib.hid (Blk.new w3 84 #[.int .i64 (q1.line:Int),.int .i64 (q1.col:Int)])
  have HL4:=Lib.hid (Blk.alloc HL3.out (.cells #[.int .i64 (q1.line:Int),.int .i64 (q1.col:Int)] 84))
  have HO4:=Lib.hid (HO3.out.alloc (.cells #[.int .i64 (q1.line:Int),.int .i64 (q1.col:Int)] 84))
  have HF4:=Lib.hid (HF3.out.alloc (.cells #[.int .i64 (q1.line:Int),.int .i64 (q1.col:Int)] 84))
  have HW4:=Lib.hid (HW3.out.alloc HW3.out.size (.cells #[.int .i64 (q1.line:Int),.int .i64 (q1.col:Int)] 84))
  obtain ⟨a,ha⟩:∃a,a=w3.heap.size:=⟨_,rfl⟩
  have HAL:=Lib.hid (show g<a by rw[ha];exact Blk.lt HL3.out)
  by_cases hend:q1.i=s.length
  ·have hnil:l.drop n=[]:=by rw[←HD1.out,hend];simp
   have hfin:T=(out,Flt.ok):=by rw[←HN.out,←HHL.out];exact toksN_end l q out (by rw[←HHN.out];exact hnil)
   have HFIN:=Lib.hid hfin
   have hei:(q1.i:Int)=(s.length:Int):=by omega
   obtain ⟨⟨r0,r1,r2⟩,f0,f1,f2⟩:=three HF4.out
   have HNE:=Lib.hid (HO4.out.ne_blk HF4.out (by decide))
   clear hnil hfin hend ha
   go_wp2_with fail
   rw[HFIN.out]
   refine row_ret3 (ty:=86) rfl w.heap.size 86 _ rfl (three_put HF4.out (.int .i64 0) (.int .i64 0) (.int .i64 0)) Tryz.underlying86 rfl (by kernel_rfl) rfl ?_
   exact ⟨_,rfl,own_put (own_put (own_put HO4.out HNE.out 0 _) HNE.out 1 _) HNE.out 2 _,below_put3 HW4.out (Nat.le_refl _) _ _ _⟩
  ·have hlt1:q1.i<s.length:=by have:=HI1.out;have:=HNL.out;have:=HLL.out;have:=HQI.out;omega
   have hni:¬(q1.i:Int)=(s.length:Int):=by omega
   have hni2:((q1.i:Int)==(s.length:Int))=false:=by rw[beq_eq_false_iff_ne];exact hni
   have NX:=lnext_ok _ g s q1 HL4.out hlt1 (by have:=HS.out;omega) HLOW1.out
   rw[HD1.out] at NX
   obtain ⟨m,hm⟩:∃m,m=l.drop n:=⟨_,rfl⟩
   rw[←hm] at NX
   have hm0:m≠[]:=by
    intro e
    have:m.length=l.length - n:=by rw[hm,List.length_drop]
    rw[e] at this
    have:=HI1.out;have:=HNL.out;have:=HLL.out;have:=HQI.out
    simp at *
    omega
   obtain ⟨⟨tk,er⟩,hnx⟩:∃x,nextT m=x:=⟨_,rfl⟩
   rw[hnx] at NX
   simp only at NX
   unfold tkA at NX
   have HNX:=Lib.hid NX
   have HM:=Lib.hid hm
   have HM0:=Lib.hid hm0
   have HHNX:=Lib.hid hnx
   clear NX hm hm0 hnx hend
   go_wp2_with fail
   refine HNX.out.mono ?_
   rintro e w5 ⟨rfl,hb5,hg5⟩
   have hne5:w3.heap.size≠g:=by rw[←ha];exact Nat.ne_of_gt HAL.out
   have HL5:=Lib.hid hb5
   have HO5:=Lib.hid (HO4.out.grown hg5 (.inr (HO4.out.ne_blk HL4.out (by decide))))
   have HF5:=Lib.hid (HF4.out.grown hg5 (by have:=HGL.out;simp;omega))
   have HA5:=Lib.hid (HA4.out.grown hg5 (by simp;exact hne5))
   have HW5:=Lib.hid (HW4.out.trans (below_of_gr hg5 (Nat.le_of_lt HGL.out) HW4.out.size))
   clear hb5 hg5
   obtain ⟨cs,hcs⟩:∃cs:Array Value,cs=#[.int .i64 (tk.kind:Int),strV tk.text,.int .i64 (tk.n:Int),.int .i64 (tk.line:Int),.int .i64 (tk.col:Int)]:=⟨_,rfl⟩
   have HT6:=Lib.hid (Blk.new w5 265 #[.int .i64 (tk.kind:Int),strV tk.text,.int .i64 (tk.n:Int),.int .i64 (tk.line:Int),.int .i64 (tk.col:Int)])
   have HL6:=Lib.hid (Blk.alloc HL5.out (.cells #[.int .i64 (tk.kind:Int),strV tk.text,.int .i64 (tk.n:Int),.int .i64 (tk.line:Int),.int .i64 (tk.col:Int)] 265))
   have HO6:=Lib.hid (HO5.out.alloc (.cells #[.int .i64 (tk.kind:Int),strV tk.text,.int .i64 (tk.n:Int),.int .i64 (tk.line:Int),.int .i64 (tk.col:Int)] 265))
   have HF6:=Lib.hid (HF5.out.alloc (.cells #[.int .i64 (tk.kind:Int),strV tk.text,.int .i64 (tk.n:Int),.int .i64 (tk.line:Int),.int .i64 (tk.col:Int)] 265))
   have HA6:=Lib.hid (HA5.out.alloc (.cells #[.int .i64 (tk.kind:Int),strV tk.text,.int .i64 (tk.n:Int),.int .i64 (tk.line:Int),.int .i64 (tk.col:Int)] 265))
   have HW6:=Lib.hid (HW5.out.alloc HW5.out.size (.cells #[.int .i64 (tk.kind:Int),strV tk.text,.int .i64 (tk.n:Int),.int .i64 (tk.line:Int),.int .i64 (tk.col:Int)] 265))
   clear hcs cs
   have ca0:w5.cell? ⟨w3.heap.size,0,none⟩=some (.int .i64 (q1.line:Int)):=HA5.out.is 0 rfl
   have ca1:w5.cell? ⟨w3.heap.size,1,none⟩=some (.int .i64 (q1.col:Int)):=HA5.out.is 1 rfl
   have hltA:=HA5.out.lt
   by_cases he:er=0
   ·subst he
    have hnew:Blk ((w5.alloc (.cells #[.int .i64 (tk.kind:Int),strV tk.text,.int .i64 (tk.n:Int),.int .i64 (q1.line:Int),.int .i64 (q1.col:Int)] 265)).alloc (.cells #[.int .i64 (tk.kind:Int),strV tk.text,.int .i64 (tk.n:Int),.int .i64 (q1.line:Int),.int .i64 (q1.col:Int)] 265)) (w5.heap.size+1) 265 #[.int .i64 (tk.kind:Int),strV tk.text,.int .i64 (tk.n:Int),.int .i64 (q1.line:Int),.int .i64 (q1.col:Int)]:=by
     have:=Blk.new (w5.alloc (.cells #[.int .i64 (tk.kind:Int),strV tk.text,.int .i64 (tk.n:Int),.int .i64 (q1.line:Int),.int .i64 (q1.col:Int)] 265)) 265 #[.int .i64 (tk.kind:Int),strV tk.text,.int .i64 (tk.n:Int),.int .i64 (q1.line:Int),.int .i64 (q1.col:Int)]
     simpa using this
    have hown6:=(HO5.out.alloc (.cells #[.int .i64 (tk.kind:Int),strV tk.text,.int .i64 (tk.n:Int),.int .i64 (q1.line:Int),.int .i64 (q1.col:Int)] 265)).alloc (.cells #[.int .i64 (tk.kind:Int),strV tk.text,.int .i64 (tk.n:Int),.int .i64 (q1.line:Int),.int .i64 (q1.col:Int)] 265)
    have hl6:LxB ((w5.alloc (.cells #[.int .i64 (tk.kind:Int),strV tk.text,.int .i64 (tk.n:Int),.int .i64 (q1.line:Int),.int .i64 (q1.col:Int)] 265)).alloc (.cells #[.int .i64 (tk.kind:Int),strV tk.text,.int .i64 (tk.n:Int),.int .i64 (q1.line:Int),.int .i64 (q1.col:Int)] 265)) g s (q1.adv tk.text):=Blk.alloc (Blk.alloc HL5.out _) _
    have hf6:=Blk.alloc (Blk.alloc HF5.out (.cells #[.int .i64 (tk.kind:Int),strV tk.text,.int .i64 (tk.n:Int),.int .i64 (q1.line:Int),.int .i64 (q1.col:Int)] 265)) (.cells #[.int .i64 (tk.kind:Int),strV tk.text,.int .i64 (tk.n:Int),.int .i64 (q1.line:Int),.int .i64 (q1.col:Int)] 265)
    have hw6:=(HW5.out.alloc HW5.out.size (.cells #[.int .i64 (tk.kind:Int),strV tk.text,.int .i64 (tk.n:Int),.int .i64 (q1.line:Int),.int .i64 (q1.col:Int)] 265)).alloc (by have:=HW5.out.size;simp;omega) (.cells #[.int .i64 (tk.kind:Int),strV tk.text,.int .i64 (tk.n:Int),.int .i64 (q1.line:Int),.int .i64 (q1.col:Int)] 265)
    have hol6:out.length≤512:=by have:=HOL.out;have:=HQI.out;have:=HS.out;omega
    have HNEW:=Lib.hid hnew
    have HOWN6:=Lib.hid hown6
    have HLX6:=Lib.hid hl6
    have HFX6:=Lib.hid hf6
    have HWX6:=Lib.hid hw6
    have HBS:=Lib.hid (show w.heap.size≤((w5.alloc (.cells #[.int .i64 (tk.kind:Int),strV tk.text,.int .i64 (tk.n:Int),.int .i64 (q1.line:Int),.int .i64 (q1.col:Int)] 265)).alloc (.cells #[.int .i64 (tk.kind:Int),strV tk.text,.int .i64 (tk.n:Int),.int .i64 (q1.line:Int),.int .i64 (q1.col:Int)] 265)).heap.size from hw6.size)
    clear hnew hown6 hl6 hf6 hw6
    go_wp2_with (at_builtin;refine app_one tk_elem tk_enc rfl (.tmp 42) (.tmp 44) rfl rfl HOWN6.out ⟨tk.kind,tk.text,tk.n,q1.line,q1.col⟩ (w5.heap.size+1) 1 rfl (Blk.lay HNEW.out) (by unfold maxLen;omega) (by omega) HBS.out ?_;intro g' cap' w8 hown8 hgrow8 hat8 hlt8)
    have hz:(nextT m).2=0:=by rw[HHNX.out]
    have htx:tk.text=m.take tk.text.length∧0<tk.text.length:=by
     have h3:=HHNX.out
     cases m with
     | nil=>exact absurd rfl HM0.out
     | cons c r=>
       obtain ⟨h4,h5⟩:=nextT_len c r hz
       rw[h3] at h4 h5
       exact ⟨h5,h4⟩
    have hml:m.length=l.length - n:=by rw[HM.out,List.length_drop]
    have htl:tk.text.length≤m.length:=by
     have:=congrArg List.length htx.1
     rw[List.length_take] at this
     omega
    have hnb:=HO5.out.ne_blk HL5.out (by decide)
    have hnf:=HO5.out.ne_blk HF5.out (by decide)
    have hstep:=toksN_next l m q out (by rw[←HHN.out];exact HM.out.symm) HM0.out hz
    rw[HHNX.out,←HHN.out,←HQ1.out] at hstep
    simp only at hstep
    rw[←htx.1] at hstep
    have e1:=HI1.out
    have e2:=HNL.out
    have e3:=HLL.out
    have e4:=HQI.out
    have e5:=HOL.out
    refine ⟨⟨q1.adv tk.text,out++[⟨tk.kind,tk.text,tk.n,q1.line,q1.col⟩],some ⟨g',0,none⟩,cap',by rw[Pt.adv_i];omega,Pt.low_adv _ HLOW1.out,by rw[Pt.adv_i,List.length_append];simp;omega,by rw[List.length_append];rfl,Lib.hid ?_,Lib.hid ?_,Lib.hid ?_,Lib.hid ?_,Lib.hid ?_⟩,?_⟩
    ·rw[←HN.out,←HHL.out,hstep]
     congr 1
     rw[Pt.adv_i,←List.drop_drop,HD1.out,HM.out]
    ·exact Blk.grown HLX6.out hgrow8 (fun e=>hnb e.symm)
    ·rw[List.length_append];exact hown8
    ·exact Blk.grown HFX6.out hgrow8 (fun e=>hnf e.symm)
    ·exact HWX6.out.grown hgrow8 HBS.out (fun b hb=>(HO5.out.lt b hb).1)
    ·have hl8:LxB w8 g s (q1.adv tk.text):=Blk.grown HLX6.out hgrow8 (fun e=>hnb e.symm)
     rw[hl8.at,HL.out.at,Pt.adv_i]
     omega
   ·have hen:((er:Int) != 0)=true:=by simpa using he
    have HE:=Lib.hid he
    clear he
    go_wp2_with fail
    obtain ⟨w6,hw6⟩:∃w6,(w5.alloc (.cells #[.int .i64 (tk.kind:Int),strV tk.text,.int .i64 (tk.n:Int),.int .i64 (tk.line:Int),.int .i64 (tk.col:Int)] 265))=w6:=⟨_,rfl⟩
    rw[show (w5.alloc (.cells #[.int .i64 (tk.kind:Int),.string ⟨tk.text.toArray⟩,.int .i64 (tk.n:Int),.int .i64 (tk.line:Int),.int .i64 (tk.col:Int)] 265))=w6 from hw6]
    have hf6:Blk w6 w.heap.size 86 #[.int .i64 0,.int .i64 0,.int .i64 0]:=by rw[←hw6];exact HF6.out
    have hW6:Below w.heap.size w w6:=by rw[←hw6];exact HW6.out
    have ha6:Blk w6 w3.heap.size 84 #[.int .i64 (q1.line:Int),.int .i64 (q1.col:Int)]:=by rw[←hw6];exact HA6.out
    have ka0:w6.cell? ⟨w3.heap.size,0,none⟩=some (.int .i64 (q1.line:Int)):=ha6.is 0 rfl
    have ka1:w6.cell? ⟨w3.heap.size,1,none⟩=some (.int .i64 (q1.col:Int)):=ha6.is 1 rfl
    obtain ⟨⟨r0,r1,r2⟩,f0,f1,f2⟩:=three hf6
    have hlt6:=hf6.lt
    have HF6:=Lib.hid hf6
    have HW6:=Lib.hid hW6
    clear hf6 hW6 ha6 hw6
    go_region
    all_goals
     go_wp2_with fail
     have hbad:=toksN_bad l m q out (by rw[←HHN.out];exact HM.out.symm) HM0.out (by rw[HHNX.out];exact HE.out)
     rw[HHNX.out,←HHN.out,←HQ1.out,HHL.out,HN.out] at hbad
     rw[hbad]
     refine row_ret3 (ty:=86) rfl w.heap.size 86 _ rfl (Blk.drewN (three_put HF6.out (.int .i64 (er:Int)) (.int .i64 (q1.line:Int)) (.int .i64 (q1.col:Int))) 1) Tryz.underlying86 rfl (by kernel_rfl) rfl ?_
     exact ⟨_,rfl,Own.nil,below_drewN (below_put3 HW6.out (Nat.le_refl _) _ _ _) 1⟩
theorem tw_all(l:List UInt8):l.takeWhile (fun _=>true)=l:=by
 induction l with
 | nil=>rfl
 | cons c l ih=>rw[List.takeWhile_cons,if_pos rfl,ih]
theorem end_ok(s:List UInt8)(w:World)(hs:s.length≤1000000):Calls Tryz.prog 218 #[strV s] w (fun e w'=>e=.returned (.agg #[.int .i64 ((endP s).line:Int),.int .i64 ((endP s).col:Int)])∧Below w.heap.size w w'):=by
 obtain ⟨w0,hst⟩:∃w0,w.alloc (.cells #[.int .i64 0,.int .i64 0] 84)=w0:=⟨_,rfl⟩
 have hb0:Blk w0 w.heap.size 84 #[.int .i64 0,.int .i64 0]:=by rw[←hst];exact Blk.new _ _ _
 have hw0:Below w.heap.size w w0:=by rw[←hst];exact (Below.refl _ w).alloc (Nat.le_refl _) _
 have HB0:=Lib.hid hb0
 have HW0:=Lib.hid hw0
 have HS:=Lib.hid hs
 clear hb0 hw0 hs
 go_enter Tryz.func218,Tryz.ntmps218
 go_wp2_with fail
 refine (begin_ok s _).mono ?_
 rintro e w1 ⟨rfl,hb1,hw1⟩
 obtain ⟨g,hg⟩:∃g,g=w0.heap.size:=⟨_,rfl⟩
 rw[←hg] at hb1 ⊢
 have HGL:=Lib.hid (show w.heap.size<g by rw[hg];exact HB0.out.lt)
 have HB1:=Lib.hid (HB0.out.below hw1 HB0.out.lt)
 have HW1:=Lib.hid (HW0.out.trans (hw1.mono HW0.out.size))
 have HWH:=Lib.hid (while_ok all_prd w1 g s Pt.zero hb1 (Nat.zero_le _) HS.out Pt.low_zero)
 rw[show s.drop Pt.zero.i=s from rfl,tw_all] at HWH
 clear hb1 hw1 hg
 go_wp2_with fail
 refine HWH.out.mono ?_
 rintro e w2 ⟨rfl,hb2,hg2⟩
 have HL2:=Lib.hid hb2
 have HB2:=Lib.hid (HB1.out.grown hg2 (by have:=HGL.out;simp;omega))
 have HW2:=Lib.hid (HW1.out.trans (below_of_gr hg2 (Nat.le_of_lt HGL.out) HW1.out.size))
 clear hb2 hg2
 go_wp2_with fail
 refine (place_ok w2 g s _ HL2.out).mono ?_
 rintro e w3 ⟨rfl,hw3⟩
 have hb3:=HB2.out.below hw3 HB2.out.lt
 have r0:=hb3.is 0 rfl
 have r1:=hb3.is 1 rfl
 have f0:=hb3.frozen 0
 have f1:=hb3.frozen 1
 have HB3:=Lib.hid hb3
 have HW3:=Lib.hid (HW2.out.trans (hw3.mono HW2.out.size))
 clear hb3 hw3
 go_wp2_with fail
 have hB4:=(HB3.out.put 0 (.int .i64 ((Pt.zero.adv s).line:Int))).put 1 (.int .i64 ((Pt.zero.adv s).col:Int))
 simp only[List.setIfInBounds_toArray,List.set_cons_succ,List.set_cons_zero] at hB4
 refine row_ret (ty:=84) rfl w.heap.size 84 _ rfl hB4 Tryz.underlying84 rfl (by kernel_rfl) rfl ?_
 exact ⟨rfl,(HW3.out.setCell (p:=⟨w.heap.size,0,none⟩) (Nat.le_refl _) _).setCell (p:=⟨w.heap.size,1,none⟩) (Nat.le_refl _) _⟩
theorem nameB_no(s:List UInt8)(h:s.all isInn=false):nameB s=false:=by unfold nameB;rw[h];simp
theorem lexname_ok(s:List UInt8)(w:World):Calls Tryz.prog 408 #[strV s] w (fun e w'=>e=.returned (.bool (nameB s))∧Below w.heap.size w w'):=by
 have hsz:=str_size s
 obtain ⟨b,hb⟩:∃b,b=nameB s:=⟨_,rfl⟩
 rw[←hb]
 have HB:=Lib.hid hb
 clear hb
 by_cases h0:s=[]
 ·subst h0
  have HF:=Lib.hid (HB.out.trans (show nameB []=false from rfl))
  go_enter Tryz.func408,Tryz.ntmps408
  go_wp2_with fail
  go_ret
  exact ⟨by rw[HF.out];rfl,Below.refl _ _⟩
 ·have hpos:0<s.length:=List.length_pos_iff.2 h0
  have hne:(s==[])=false:=by simpa using h0
  by_cases h16:16<s.length
  ·have HF:=Lib.hid (HB.out.trans (show nameB s=false by unfold nameB;rw[decide_eq_false (by omega)];rfl))
   have h16i:(16:Int)<(s.length:Int):=by omega
   clear h0
   go_enter Tryz.func408,Tryz.ntmps408
   go_wp2_with fail
   go_ret
   exact ⟨by rw[HF.out];rfl,Below.refl _ _⟩
  ·have h16i:decide ((16:Int)<(s.length:Int))=false:=by simp;omega
   have hix:=lx_ix0 hpos
   have HL:=Lib.hid (let_prd.ok (s.headD 0))
   have hfirst:isLet (s.headD 0)=false→nameB s=false:=fun h=>by unfold nameB;rw[h];simp
   obtain ⟨c,hcc⟩:∃c,c=s.headD 0:=⟨_,rfl⟩
   rw[←hcc] at hix HL hfirst
   have HFI:=Lib.hid (And.intro hfirst (fun (h:isLet c=true)=>show isLet (s.headD 0)=true by rw[←hcc];exact h))
   have H16:=Lib.hid h16
   clear h0 h16 hfirst hcc
   cases hc:isLet c
   ·rw[hc] at HL
    have HF:=Lib.hid (HB.out.trans (HFI.out.1 hc))
    go_enter Tryz.func408,Tryz.ntmps408
    go_wp2_with fail
    refine (HL.out _).mono ?_
    rintro e w1 ⟨rfl,hw1⟩
    rw[hw1]
    go_wp2_with fail
    go_ret
    exact ⟨by rw[HF.out];rfl,Below.refl _ _⟩
   ·rw[hc] at HL
    have HWO:=Lib.hid (word_ok s w)
    cases hw:isWord s
    ·rw[hw] at HWO
     have HALL:=Lib.hid (show nameB s=s.all isInn by unfold nameB;rw[decide_eq_true ⟨hpos,by have:=H16.out;omega⟩,hw,show isLet (s.headD 0)=true from HFI.out.2 hc];simp)
     go_enter Tryz.func408,Tryz.ntmps408
     go_wp2_with fail
     refine (HL.out _).mono ?_
     rintro e w1 ⟨rfl,hw1⟩
     rw[hw1]
     clear hw1 w1
     go_wp2_with fail
     refine HWO.out.mono ?_
     rintro e w1 ⟨rfl,hw1⟩
     have HW1:=Lib.hid hw1
     clear hw1
     go_wp2_with fail
     go_loopw [23] (fun iv wr=>∃k:Nat,k≤s.length∧iv=.int .i64 (k:Int)∧(∀j (hj:j<s.length),j<k→isInn s[j]=true)∧wr=w1) (fun iv _=>s.length - (intOf iv).toNat)
     case atStart=>exact ⟨0,by omega,rfl,fun j _ hj=>absurd hj (by omega),rfl⟩
     case round=>
      obtain ⟨k,hk,rfl,hall,rfl⟩:=hrel
      have hl16:s.length≤16:=by have:=H16.out;omega
      have HAL:=Lib.hid hall
      clear hall
      by_cases hlt:k<s.length
      ·have hx:=lx_ix hlt
       have hki:(k:Int)<(s.length:Int):=by omega
       have HI:=Lib.hid (inn_prd.ok s[k])
       have HIN:=Lib.hid (fun (hb:isInn s[k]=false)=>show nameB s=false from nameB_no s (by rw[List.all_eq_false];exact ⟨s[k],List.getElem_mem hlt,by simp[hb]⟩))
       have HIT:=Lib.hid (fun (hb:isInn s[k]=true) (j:Nat) (hj:j<s.length) (hjk:j<k+1)=>show isInn s[j]=true by
        rcases Nat.lt_succ_iff_lt_or_eq.1 hjk with h|h
        ·exact HAL.out j hj h
        ·subst h;exact hb)
       cases hi:isInn s[k]
       ·rw[hi] at HI
        have HF:=Lib.hid (HB.out.trans (HIN.out hi))
        clear HIN HIT
        generalize s[k]=c at *
        go_wp2_with fail
        refine (HI.out _).mono ?_
        rintro e w2 ⟨rfl,hw2⟩
        rw[hw2]
        go_wp2_with fail
        go_ret
        exact ⟨by rw[HF.out];rfl,HW1.out⟩
       ·rw[hi] at HI
        have HT:=Lib.hid (HIT.out hi)
        clear HIN HIT
        generalize s[k]=c at *
        go_wp2_with fail
        refine (HI.out _).mono ?_
        rintro e w2 ⟨rfl,hw2⟩
        rw[hw2]
        go_wp2_with fail
        go_roundw
        case rel=>exact ⟨k+1,by omega,by go_num,HT.out,tU⟩
        case measure=>simp[intOf];omega
      ·obtain rfl:k=s.length:=by omega
       have HF:=Lib.hid (show b=true by
        rw[HB.out,HALL.out,List.all_eq_true]
        intro x hx
        obtain ⟨j,hj,rfl⟩:=List.mem_iff_getElem.1 hx
        exact HAL.out j hj hj)
       go_wp2_with fail
       go_ret
       exact ⟨by rw[HF.out];rfl,HW1.out⟩
    ·rw[hw] at HWO
     have HF:=Lib.hid (HB.out.trans (show nameB s=false by unfold nameB;rw[hw];simp))
     go_enter Tryz.func408,Tryz.ntmps408
     go_wp2_with fail
     refine (HL.out _).mono ?_
     rintro e w1 ⟨rfl,hw1⟩
     rw[hw1]
     clear hw1 w1
     go_wp2_with fail
     refine HWO.out.mono ?_
     rintro e w1 ⟨rfl,hw1⟩
     go_wp2_with fail
     go_ret
     exact ⟨by rw[HF.out];rfl,hw1⟩
end Go.Proofs.YtmbdghclhpboaaaGreat

/- Part of the proof: PolR PolR2. Conditions: as each states. -/
import Derived.Test.YtmbdghclhpboaaaGreatPb29
set_option linter.all false
set_option maxRecDepth 100000
set_option maxHeartbeats 8000000
namespace Go.Proofs.YtmbdghclhpboaaaGreat
open Go.RowKit
def badN:Option (Nat×Nat)→Nat×Nat×Nat
 | none=>(0,0,0)
 | some b=>(31,b.1,b.2)
structure PrB(w:World)(g:Nat)(L:List Tk)(e:Nat×Nat)(p:Pr):Prop where
 at_:∃v i,Sl tkC w g v L∧i≤L.length∧p.l=L.drop i∧Blk w g 317 #[v,.int .i64 (i:Int),.int .i64 (e.1:Int),.int .i64 (e.2:Int),.int .i64 ((badN p.bad).1:Int),.int .i64 ((badN p.bad).2.1:Int),.int .i64 ((badN p.bad).2.2:Int)]
section
variable{w w':World}{g:Nat}{L:List Tk}{e:Nat×Nat}{p:Pr}
theorem PrB.lt(h:PrB w g L e p):g<w.heap.size:=let ⟨_,_,_,_,_,hb⟩:=h.at_;Blk.lt hb
theorem PrB.keep(h:PrB w g L e p)(hk:∀b,b≤g→w'.heap[b]?=w.heap[b]?):PrB w' g L e p:=by
 obtain ⟨v,i,hs,hi,hp,hb⟩:=h.at_
 exact ⟨v,i,hs.keep fun b hb=>hk b (by omega),hi,hp,(hk g (Nat.le_refl _)).trans hb⟩
theorem PrB.drew(h:PrB w g L e p)(n:Nat):PrB (w.drewN n) g L e p:=h.keep fun _ _=>rfl
theorem PrB.below(h:PrB w g L e p)(hb:Below w.heap.size w w'):PrB w' g L e p:=h.keep fun b hbl=>hb.block b (Nat.lt_of_le_of_lt hbl h.lt)
theorem Sl.putg{α:Type}{enc:α→List Value}{v:Value}{l:List α}(h:Sl enc w g v l)(i:Nat)(u:Value):Sl enc (w.setCell ⟨g,i,none⟩ u) g v l:=h.keep fun b hb=>Below.heap_setCell w ⟨g,i,none⟩ u b (by simp;omega)
theorem PrB.far(h:PrB w g L e p){d:Nat}(hd:g<d)(i:Nat)(u:Value):PrB (w.setCell ⟨d,i,none⟩ u) g L e p:=h.keep fun b hb=>Below.heap_setCell w ⟨d,i,none⟩ u b (by simp;omega)
theorem PrB.far5(h:PrB w g L e p){d:Nat}(hd:g<d)(b0 b1 b2 b3 b4:Value):PrB (put5 w d b0 b1 b2 b3 b4) g L e p:=((((h.far hd 0 b0).far hd 1 b1).far hd 2 b2).far hd 3 b3).far hd 4 b4
end
def PrPost(w:World)(g:Nat)(L:List Tk)(e:Nat×Nat)(v:Value)(p:Pr)(r:Ending)(w':World):Prop:=r=.returned v∧PrB w' g L e p∧w.grownBy w' (some g)
theorem pis_ok(w:World)(g:Nat)(L:List Tk)(e:Nat×Nat)(p:Pr)(s:List UInt8)(h:PrB w g L e p) :
  Calls Tryz.prog 405 #[.pointer (some ⟨g,0,none⟩),strV s] w (fun r w'=>r=.returned (.bool (p.is s))∧∃n,w'=w.drewN n):=by
 obtain ⟨v,i,hs,hi,hp,hb⟩:=h.at_
 obtain ⟨l,bad⟩:=p
 simp only at hp hb
 have c0:w.cell? ⟨g,0,none⟩=some v:=hb.is 0 rfl
 have c1:w.cell? ⟨g,1,none⟩=some (.int .i64 (i:Int)):=hb.is 1 rfl
 cases bad with
 | some b=>
   have c4:w.cell? ⟨g,4,none⟩=some (.int .i64 31):=hb.is 4 rfl
   have hr:(⟨l,some b⟩:Pr).is s=false:=rfl
   rw[hr]
   clear h hb hs hp hr
   go_enter Tryz.func405,Tryz.ntmps405
   go_wp2_with fail
   go_quiet (fail)
   go_wp2_with fail
   go_ret
   exact ⟨rfl,_,rfl⟩
 | none=>
   have c4:w.cell? ⟨g,4,none⟩=some (.int .i64 0):=hb.is 4 rfl
   obtain ⟨A,cap,rfl,hs1,hs2,hs3⟩:=hs
   by_cases hlt:i<L.length
   ·obtain ⟨b,off,rfl,hbg,hlay⟩:=hs3 (by omega)
    have hel:=hlay.elem tk_enc.len i hlt
    have hd:L.drop i=L[i]::L.drop (i+1):=List.drop_eq_getElem_cons hlt
    have hr:(⟨l,none⟩:Pr).is s=decide (L[i].text=s):=by
     rw[hp,hd]
     rfl
    rw[hr]
    have ct:w.cell? ⟨b,off+i * 5+1,none⟩=some (strV L[i].text):=hel 1 _ rfl
    generalize L[i].text=t at *
    have hii:(i:Int)<(L.length:Int):=by omega
    clear h hb hp hd hr hel hlay hs3
    go_enter Tryz.func405,Tryz.ntmps405
    go_wp2_with fail
    go_quiet (fail)
    go_wp2_with fail
    go_ret
    exact ⟨by rw[show decide (t=s)=(t==s) by rw[Bool.eq_iff_iff];simp];rfl,_,rfl⟩
   ·have hr:(⟨l,none⟩:Pr).is s=false:=by
     rw[hp,List.drop_eq_nil_of_le (by omega)]
     rfl
    rw[hr]
    have hii:decide ((i:Int)<(L.length:Int))=false:=by simpa using hlt
    clear h hb hp hr hs3
    go_enter Tryz.func405,Tryz.ntmps405
    go_wp2_with fail
    go_quiet (fail)
    go_wp2_with fail
    go_ret
    exact ⟨rfl,_,rfl⟩
theorem pkind_ok(w:World)(g:Nat)(L:List Tk)(e:Nat×Nat)(p:Pr)(k:Nat)(h:PrB w g L e p) :
  Calls Tryz.prog 476 #[.pointer (some ⟨g,0,none⟩),.int .i64 (k:Int)] w (fun r w'=>r=.returned (.bool (p.kind k))∧∃n,w'=w.drewN n):=by
 obtain ⟨v,i,hs,hi,hp,hb⟩:=h.at_
 obtain ⟨l,bad⟩:=p
 simp only at hp hb
 have c0:w.cell? ⟨g,0,none⟩=some v:=hb.is 0 rfl
 have c1:w.cell? ⟨g,1,none⟩=some (.int .i64 (i:Int)):=hb.is 1 rfl
 cases bad with
 | some b=>
   have c4:w.cell? ⟨g,4,none⟩=some (.int .i64 31):=hb.is 4 rfl
   have hr:(⟨l,some b⟩:Pr).kind k=false:=rfl
   rw[hr]
   clear h hb hs hp hr
   go_enter Tryz.func476,Tryz.ntmps476
   go_wp2_with fail
   go_quiet (fail)
   go_wp2_with fail
   go_ret
   exact ⟨rfl,_,rfl⟩
 | none=>
   have c4:w.cell? ⟨g,4,none⟩=some (.int .i64 0):=hb.is 4 rfl
   obtain ⟨A,cap,rfl,hs1,hs2,hs3⟩:=hs
   by_cases hlt:i<L.length
   ·obtain ⟨b,off,rfl,hbg,hlay⟩:=hs3 (by omega)
    have hel:=hlay.elem tk_enc.len i hlt
    have hd:L.drop i=L[i]::L.drop (i+1):=List.drop_eq_getElem_cons hlt
    have hr:(⟨l,none⟩:Pr).kind k=decide (L[i].kind=k):=by
     rw[hp,hd]
     rfl
    rw[hr]
    have ct:w.cell? ⟨b,off+i * 5,none⟩=some (.int .i64 (L[i].kind:Int)):=hel 0 _ rfl
    generalize L[i].kind=t at *
    have hii:(i:Int)<(L.length:Int):=by omega
    clear h hb hp hd hr hel hlay hs3
    go_enter Tryz.func476,Tryz.ntmps476
    go_wp2_with fail
    go_quiet (fail)
    go_wp2_with fail
    go_ret
    exact ⟨by rw[show decide (t=k)=((t:Int)==(k:Int)) by rw[Bool.eq_iff_iff];simp;omega];rfl,_,rfl⟩
   ·have hr:(⟨l,none⟩:Pr).kind k=false:=by
     rw[hp,List.drop_eq_nil_of_le (by omega)]
     rfl
    rw[hr]
    have hii:decide ((i:Int)<(L.length:Int))=false:=by simpa using hlt
    clear h hb hp hr hs3
    go_enter Tryz.func476,Tryz.ntmps476
    go_wp2_with fail
    go_quiet (fail)
    go_wp2_with fail
    go_ret
    exact ⟨rfl,_,rfl⟩
theorem PrB.step{w:World}{g:Nat}{L:List Tk}{e:Nat×Nat}{p:Pr}(h:PrB w g L e p)(hne:p.l≠[]) :
  ∃i:Nat,i<L.length∧p.l=L.drop i∧w.cell? ⟨g,1,none⟩=some (.int .i64 (i:Int))∧w.frozen? ⟨g,1,none⟩=false∧PrB (w.setCell ⟨g,1,none⟩ (.int .i64 ((i+1:Nat):Int))) g L e p.on:=by
 obtain ⟨v,i,hs,hi,hp,hb⟩:=h.at_
 have hlt:i<L.length:=by
  rcases Nat.lt_or_ge i L.length with h1|h1
  ·exact h1
  ·exact absurd (by rw[hp];exact List.drop_eq_nil_of_le h1) hne
 refine ⟨i,hlt,hp,hb.is 1 rfl,hb.frozen 1,⟨v,i+1,?_,by omega,?_,?_⟩⟩
 ·exact hs.keep fun b hb=>Below.heap_setCell w ⟨g,1,none⟩ _ b (by simp;omega)
 ·show p.l.tail=_
  rw[hp,List.tail_drop]
 ·have h1:=hb.put 1 (.int .i64 ((i+1:Nat):Int))
  simp only[List.setIfInBounds_toArray,List.set_cons_succ,List.set_cons_zero] at h1
  exact h1
theorem Pr.is_ne{p:Pr}{s:List UInt8}(h:p.is s=true):p.l≠[]:=by
 intro e
 unfold Pr.is at h
 rw[e] at h
 simp at h
theorem Pr.kind_ne{p:Pr}{k:Nat}(h:p.kind k=true):p.l≠[]:=by
 intro e
 unfold Pr.kind at h
 rw[e] at h
 simp at h
theorem took_ok(w:World)(g:Nat)(L:List Tk)(e:Nat×Nat)(p:Pr)(s:List UInt8)(h:PrB w g L e p)(hL:L.length≤1000000) :
  Calls Tryz.prog 304 #[.pointer (some ⟨g,0,none⟩),strV s] w (PrPost w g L e (.bool (p.is s)) (if p.is s then p.on else p)):=by
 have HI:=Lib.hid (pis_ok w g L e p s h)
 have H:=Lib.hid h
 clear h
 cases hb:p.is s
 ·rw[hb] at HI
  go_enter Tryz.func304,Tryz.ntmps304
  go_wp2_with fail
  refine HI.out.mono ?_
  rintro r w1 ⟨rfl,n,hw⟩
  rw[hw]
  clear hw w1
  go_wp2_with fail
  go_ret
  exact ⟨rfl,H.out.drew n,lx_drew _ _⟩
 ·rw[hb] at HI
  have hne:=Pr.is_ne hb
  go_enter Tryz.func304,Tryz.ntmps304
  go_wp2_with fail
  refine HI.out.mono ?_
  rintro r w1 ⟨rfl,n,hw⟩
  rw[hw]
  clear hw w1
  obtain ⟨i,hi,-,c1,f1,hst⟩:=(H.out.drew n).step hne
  have hlt:=(H.out.drew n).lt
  have HS:=Lib.hid hst
  have hw1:IntKind.i64.wrap ((i:Int)+1)=((i+1:Nat):Int):=by rw[IntWalk.i64_in _ (by omega)];omega
  clear hst hne hb
  go_wp2_with fail
  go_ret
  exact ⟨rfl,HS.out,lx_to (lx_drew _ _) (lx_grow _ g 1 _)⟩
theorem pplace_ok(w:World)(g:Nat)(L:List Tk)(e:Nat×Nat)(p:Pr)(h:PrB w g L e p) :
  Calls Tryz.prog 302 #[.pointer (some ⟨g,0,none⟩)] w (fun r w'=>r=.returned (.agg #[.int .i64 ((p.place e).1:Int),.int .i64 ((p.place e).2:Int)])∧Below w.heap.size w w'):=by
 obtain ⟨w0,hst⟩:∃w0,w.alloc (.cells #[.int .i64 0,.int .i64 0] 84)=w0:=⟨_,rfl⟩
 have hb0:Blk w0 w.heap.size 84 #[.int .i64 0,.int .i64 0]:=by rw[←hst];exact Blk.new _ _ _
 have hw0:Below w.heap.size w w0:=by rw[←hst];exact (Below.refl _ w).alloc (Nat.le_refl _) _
 have hgl:=h.lt
 obtain ⟨v,i,hs,hi,hp,hb⟩:=(h.below hw0).at_
 have c0:w0.cell? ⟨g,0,none⟩=some v:=hb.is 0 rfl
 have c1:w0.cell? ⟨g,1,none⟩=some (.int .i64 (i:Int)):=hb.is 1 rfl
 have c2:w0.cell? ⟨g,2,none⟩=some (.int .i64 (e.1:Int)):=hb.is 2 rfl
 have c3:w0.cell? ⟨g,3,none⟩=some (.int .i64 (e.2:Int)):=hb.is 3 rfl
 have r0:=hb0.is 0 rfl
 have r1:=hb0.is 1 rfl
 have f0:=hb0.frozen 0
 have f1:=hb0.frozen 1
 obtain ⟨A,cap,rfl,hs1,hs2,hs3⟩:=hs
 have HB0:=Lib.hid hb0
 have HW0:=Lib.hid hw0
 by_cases hlt:i<L.length
 ·obtain ⟨b,off,rfl,hbg,hlay⟩:=hs3 (by omega)
  have hel:=hlay.elem tk_enc.len i hlt
  have hd:L.drop i=L[i]::L.drop (i+1):=List.drop_eq_getElem_cons hlt
  have hr:p.place e=(L[i].line,L[i].col):=by
   obtain ⟨l,bad⟩:=p
   simp only at hp
   rw[hp,hd]
   rfl
  rw[hr]
  have ct3:w0.cell? ⟨b,off+i * 5+3,none⟩=some (.int .i64 (L[i].line:Int)):=hel 3 _ rfl
  have ct4:w0.cell? ⟨b,off+i * 5+4,none⟩=some (.int .i64 (L[i].col:Int)):=hel 4 _ rfl
  generalize L[i].line=y at *
  generalize L[i].col=x at *
  have hii:(i:Int)<(L.length:Int):=by omega
  clear h hb hp hd hr hel hlay hs3 hb0 hw0
  go_enter Tryz.func302,Tryz.ntmps302
  go_wp2_with fail
  go_quiet (fail)
  go_wp2_with fail
  obtain ⟨w5,hw5⟩:∃w5,w0.drewN nq=w5:=⟨_,rfl⟩
  rw[hw5]
  have k0:w5.cell? ⟨g,0,none⟩=some (.slice (some ⟨b,off,none⟩) L.length cap):=by rw[←hw5];exact c0
  have k1:w5.cell? ⟨g,1,none⟩=some (.int .i64 (i:Int)):=by rw[←hw5];exact c1
  have k3:w5.cell? ⟨b,off+i * 5+3,none⟩=some (.int .i64 (y:Int)):=by rw[←hw5];exact ct3
  have k4:w5.cell? ⟨b,off+i * 5+4,none⟩=some (.int .i64 (x:Int)):=by rw[←hw5];exact ct4
  have hb5:Blk w5 w.heap.size 84 #[.int .i64 0,.int .i64 0]:=by rw[←hw5];exact HB0.out
  have hW5:Below w.heap.size w w5:=by rw[←hw5];exact below_drewN HW0.out _
  have s0:=hb5.is 0 rfl
  have s1:=hb5.is 1 rfl
  have t0:=hb5.frozen 0
  have t1:=hb5.frozen 1
  have HB5:=Lib.hid hb5
  have HW5:=Lib.hid hW5
  clear hb5 hW5 hw5
  go_still_tail 11,(by kernel_rfl)
  go_wp2_with fail
  have hB6:=(HB5.out.put 0 (.int .i64 (y:Int))).put 1 (.int .i64 (x:Int))
  simp only[List.setIfInBounds_toArray,List.set_cons_succ,List.set_cons_zero] at hB6
  refine row_ret (ty:=84) rfl w.heap.size 84 _ rfl (Blk.drewN hB6 1) Tryz.underlying84 rfl (by kernel_rfl) rfl ?_
  exact ⟨rfl,below_drewN ((HW5.out.setCell (p:=⟨w.heap.size,0,none⟩) (Nat.le_refl _) _).setCell (p:=⟨w.heap.size,1,none⟩) (Nat.le_refl _) _) 1⟩
 ·have hr:p.place e=e:=by
   obtain ⟨l,bad⟩:=p
   simp only at hp
   rw[hp,List.drop_eq_nil_of_le (by omega)]
   rfl
  rw[hr]
  have hii:decide ((i:Int)<(L.length:Int))=false:=by simpa using hlt
  clear h hb hp hr hs3 hb0 hw0
  go_enter Tryz.func302,Tryz.ntmps302
  go_wp2_with fail
  go_quiet (fail)
  go_wp2_with fail
  have hB6:=((show Blk (w0.drewN nq) _ _ _ from HB0.out).put 0 (.int .i64 (e.1:Int))).put 1 (.int .i64 (e.2:Int))
  simp only[List.setIfInBounds_toArray,List.set_cons_succ,List.set_cons_zero] at hB6
  refine row_ret (ty:=84) rfl w.heap.size 84 _ rfl hB6 Tryz.underlying84 rfl (by kernel_rfl) rfl ?_
  exact ⟨rfl,((below_drewN HW0.out nq).setCell (p:=⟨w.heap.size,0,none⟩) (Nat.le_refl _) _).setCell (p:=⟨w.heap.size,1,none⟩) (Nat.le_refl _) _⟩
theorem pwrong_ok(w:World)(g:Nat)(L:List Tk)(e:Nat×Nat)(p:Pr)(h:PrB w g L e p) :
  Calls Tryz.prog 308 #[.pointer (some ⟨g,0,none⟩)] w (PrPost w g L e (.tuple #[]) (p.wrong e)):=by
 obtain ⟨l,bad⟩:=p
 cases bad with
 | some b=>
   obtain ⟨v,i,hs,hi,hp,hb⟩:=h.at_
   have c4:w.cell? ⟨g,4,none⟩=some (.int .i64 31):=hb.is 4 rfl
   have H:=Lib.hid h
   clear h hb hs hp
   go_enter Tryz.func308,Tryz.ntmps308
   go_wp2_with fail
   refine bodyPost_end (results_none rfl _ _ _) rfl ?_
   exact ⟨rfl,(show PrB w g L e (Pr.wrong e ⟨l,some b⟩) from H.out),lx_drew 0 _⟩
 | none=>
   have hr:(⟨l,none⟩:Pr).wrong e=⟨l,some ((⟨l,none⟩:Pr).place e)⟩:=rfl
   rw[hr]
   have hpl:=pplace_ok w g L e ⟨l,none⟩ h
   obtain ⟨⟨y,x⟩,hyx⟩:∃z,(⟨l,none⟩:Pr).place e=z:=⟨_,rfl⟩
   rw[hyx] at hpl ⊢
   have HPL:=Lib.hid hpl
   clear hpl hyx
   obtain ⟨v,i,hs,hi,hp,hb⟩:=h.at_
   have c4:w.cell? ⟨g,4,none⟩=some (.int .i64 0):=hb.is 4 rfl
   have H:=Lib.hid h
   clear h hb hs hr
   go_enter Tryz.func308,Tryz.ntmps308
   go_wp2_with fail
   refine HPL.out.mono ?_
   rintro r w1 ⟨rfl,hw1⟩
   obtain ⟨v1,i1,hs1,hi1,hp1,hb1⟩:=(H.out.below hw1).at_
   have d4:w1.cell? ⟨g,4,none⟩=some (.int .i64 0):=hb1.is 4 rfl
   have d5:w1.cell? ⟨g,5,none⟩=some (.int .i64 0):=hb1.is 5 rfl
   have d6:w1.cell? ⟨g,6,none⟩=some (.int .i64 0):=hb1.is 6 rfl
   have f4:=hb1.frozen 4
   have f5:=hb1.frozen 5
   have f6:=hb1.frozen 6
   have hlt:=hb1.lt
   have HB1:=Lib.hid hb1
   have HS1:=Lib.hid hs1
   have HP1:=Lib.hid hp1
   have HW1:=Lib.hid hw1
   clear hb1 hs1 hw1 hp1 hp
   go_wp2_with fail
   refine bodyPost_end (results_none rfl _ _ _) rfl ?_
   refine ⟨rfl,⟨v1,i1,?_,hi1,HP1.out,?_⟩,?_⟩
   ·exact ((HS1.out.putg 4 _).putg 5 _).putg 6 _
   ·have h1:=((HB1.out.put 4 (.int .i64 31)).put 5 (.int .i64 (y:Int))).put 6 (.int .i64 (x:Int))
    simp only[List.setIfInBounds_toArray,List.set_cons_succ,List.set_cons_zero] at h1
    exact h1
   ·exact lx_to (lx_to (lx_to (gr_below HW1.out _) (lx_grow _ g 4 _)) (lx_grow _ g 5 _)) (lx_grow _ g 6 _)
theorem pr_id{p:Pr}{s:List UInt8}(h:p.is s=false)(e:Nat×Nat):p.want e s=p.wrong e:=by unfold Pr.want;rw[h];rfl
theorem pwant_ok(w:World)(g:Nat)(L:List Tk)(e:Nat×Nat)(p:Pr)(s:List UInt8)(h:PrB w g L e p)(hL:L.length≤1000000) :
  Calls Tryz.prog 309 #[.pointer (some ⟨g,0,none⟩),strV s] w (PrPost w g L e (.tuple #[]) (p.want e s)):=by
 have HT:=Lib.hid (took_ok w g L e p s h hL)
 cases hb:p.is s
 ·rw[hb] at HT
  rw[pr_id hb]
  clear h hb
  go_enter Tryz.func309,Tryz.ntmps309
  go_wp2_with fail
  refine HT.out.mono ?_
  rintro r w1 ⟨rfl,hb1,hg1⟩
  have HW:=Lib.hid (pwrong_ok w1 g L e p hb1)
  have HG1:=Lib.hid hg1
  clear hb1 hg1
  go_wp2_with fail
  refine HW.out.mono ?_
  rintro r w2 ⟨rfl,hb2,hg2⟩
  have HB2:=Lib.hid hb2
  have HG2:=Lib.hid (lx_to HG1.out hg2)
  clear hb2 hg2
  go_wp2_with fail
  refine bodyPost_end (results_none rfl _ _ _) rfl ?_
  exact ⟨rfl,HB2.out,HG2.out⟩
 ·rw[hb] at HT
  have hr:p.want e s=p.on:=by unfold Pr.want;rw[hb];rfl
  rw[hr]
  clear h hb hr
  go_enter Tryz.func309,Tryz.ntmps309
  go_wp2_with fail
  refine HT.out.mono ?_
  rintro r w1 ⟨rfl,hb1,hg1⟩
  have HB1:=Lib.hid hb1
  have HG1:=Lib.hid hg1
  clear hb1 hg1
  go_wp2_with fail
  refine bodyPost_end (results_none rfl _ _ _) rfl ?_
  exact ⟨rfl,HB1.out,HG1.out⟩
theorem ptake_ok(w:World)(g:Nat)(L:List Tk)(e:Nat×Nat)(p:Pr)(k:Nat)(h:PrB w g L e p)(hL:L.length≤1000000) :
  Calls Tryz.prog 477 #[.pointer (some ⟨g,0,none⟩),.int .i64 (k:Int)] w (PrPost w g L e (tkA (p.take e k).1) (p.take e k).2):=by
 obtain ⟨w0,hst⟩:∃w0,w.alloc (.cells #[.int .i64 0,strV [],.int .i64 0,.int .i64 0,.int .i64 0] 265)=w0:=⟨_,rfl⟩
 have hgl:=h.lt
 have hb0:Blk w0 w.heap.size 265 #[.int .i64 0,strV [],.int .i64 0,.int .i64 0,.int .i64 0]:=by rw[←hst];exact Blk.new _ _ _
 have hg0:w.grownBy w0 (some g):=by rw[←hst];exact gr_alloc _ _ _
 have h0:PrB w0 g L e p:=h.below (by rw[←hst];exact (Below.refl _ w).alloc (Nat.le_refl _) _)
 have HK:=Lib.hid (pkind_ok w0 g L e p k h0)
 have HB0:=Lib.hid hb0
 have HG0:=Lib.hid hg0
 have HH0:=Lib.hid h0
 have HGL:=Lib.hid hgl
 clear h hb0 hg0 h0 hgl
 cases hb:p.kind k
 ·rw[hb] at HK
  have hr:p.take e k=(Tk.none,p.wrong e):=by unfold Pr.take;rw[hb];rfl
  rw[hr]
  clear hb hr
  go_enter Tryz.func477,Tryz.ntmps477
  go_wp2_with fail
  refine HK.out.mono ?_
  rintro r w1 ⟨rfl,n,hw1⟩
  rw[hw1]
  clear hw1 w1
  have HW:=Lib.hid (pwrong_ok (w0.drewN n) g L e p (HH0.out.drew n))
  go_wp2_with fail
  refine HW.out.mono ?_
  rintro r w2 ⟨rfl,hb2,hg2⟩
  have hr2:=(show Blk (w0.drewN n) _ _ _ from HB0.out).grown hg2 (by have:=HGL.out;simp;omega)
  obtain ⟨⟨r0,r1,r2,r3,r4⟩,f0,f1,f2,f3,f4⟩:=five hr2
  have HB2:=Lib.hid hb2
  have HR2:=Lib.hid hr2
  have HG2:=Lib.hid (lx_to (lx_to HG0.out (lx_drew n _)) hg2)
  clear hb2 hr2 hg2
  go_wp2_with fail
  refine row_ret (ty:=265) rfl w.heap.size 265 _ rfl (five_put HR2.out (.int .i64 0) (strV []) (.int .i64 0) (.int .i64 0) (.int .i64 0)) Tryz.underlying265 rfl (by kernel_rfl) rfl ?_
  exact ⟨rfl,HB2.out.far5 HGL.out _ _ _ _ _,gr_five HG2.out (Nat.le_refl _) _ _ _ _ _⟩
 ·rw[hb] at HK
  have hne:=Pr.kind_ne hb
  have hr:p.take e k=(p.l.headD Tk.none,p.on):=by unfold Pr.take;rw[hb];rfl
  rw[hr]
  obtain ⟨t,ht⟩:∃t,t=p.l.headD Tk.none:=⟨_,rfl⟩
  rw[←ht]
  clear hb hr
  go_enter Tryz.func477,Tryz.ntmps477
  go_wp2_with fail
  refine HK.out.mono ?_
  rintro r w1 ⟨rfl,n,hw1⟩
  rw[hw1]
  clear hw1 w1
  obtain ⟨i,hi,hpl,c1,f1,hst⟩:=(HH0.out.drew n).step hne
  have hlt:=(HH0.out.drew n).lt
  have hwr:IntKind.i64.wrap ((i:Int)+1)=((i+1:Nat):Int):=by rw[IntWalk.i64_in _ (by omega)];omega
  have hd:t=L[i]:=by rw[ht,hpl,List.drop_eq_getElem_cons hi];rfl
  have HST:=Lib.hid hst
  have HD:=Lib.hid hd
  have HPL:=Lib.hid (show p.on.l=L.drop (i+1) by show p.l.tail=_;rw[hpl,List.tail_drop])
  clear hst hne hd hpl ht
  go_wp2_with fail
  obtain ⟨w5,hw5⟩:∃w5,(w0.drewN n).setCell ⟨g,1,none⟩ (.int .i64 ((i:Int)+1))=w5:=⟨_,rfl⟩
  have hst5:PrB w5 g L e p.on:=by rw[←hw5];exact HST.out
  have hr5:Blk w5 w.heap.size 265 #[.int .i64 0,strV [],.int .i64 0,.int .i64 0,.int .i64 0]:=by rw[←hw5];exact (show Blk (w0.drewN n) _ _ _ from HB0.out).far (p:=⟨g,1,none⟩) (by have:=HGL.out;simp;omega) _
  have hg5:w.grownBy w5 (some g):=by rw[←hw5];exact lx_to (lx_to HG0.out (lx_drew n _)) (lx_grow _ g 1 _)
  rw[hw5]
  obtain ⟨v,j,hs,hj,hp,hb⟩:=hst5.at_
  have hji:j=i+1:=by
   have h1:=congrArg List.length (hp.symm.trans HPL.out)
   simp only[List.length_drop] at h1
   omega
  subst hji
  have k0:w5.cell? ⟨g,0,none⟩=some v:=hb.is 0 rfl
  have k1:w5.cell? ⟨g,1,none⟩=some (.int .i64 ((i:Int)+1)):=hb.is 1 rfl
  obtain ⟨A,cap,rfl,hs1,hs2,hs3⟩:=hs
  obtain ⟨b,off,rfl,hbg,hlay⟩:=hs3 (by omega)
  have hel:=hlay.elem tk_enc.len i hi
  rw[←HD.out] at hel
  have e0:w5.cell? ⟨b,off+i * 5,none⟩=some (.int .i64 (t.kind:Int)):=hel 0 _ rfl
  have e1:w5.cell? ⟨b,off+i * 5+1,none⟩=some (strV t.text):=hel 1 _ rfl
  have e2:w5.cell? ⟨b,off+i * 5+2,none⟩=some (.int .i64 (t.n:Int)):=hel 2 _ rfl
  have e3:w5.cell? ⟨b,off+i * 5+3,none⟩=some (.int .i64 (t.line:Int)):=hel 3 _ rfl
  have e4:w5.cell? ⟨b,off+i * 5+4,none⟩=some (.int .i64 (t.col:Int)):=hel 4 _ rfl
  have hsub:IntKind.i64.wrap (i:Int)=(i:Int):=IntWalk.i64_in _ (by omega)
  have hii:(i:Int)<(L.length:Int):=by omega
  obtain ⟨⟨r0,r1,r2,r3,r4⟩,f0,f1,f2,f3,f4⟩:=five hr5
  have HST5:=Lib.hid hst5
  have HR5:=Lib.hid hr5
  have HG5:=Lib.hid hg5
  clear hst5 hr5 hg5 hp hb hs3 hlay hel hw5
  go_still_tail 11,(by kernel_rfl)
  go_wp2_with fail
  unfold tkA
  refine row_ret (ty:=265) rfl w.heap.size 265 _ rfl (Blk.drewN (five_put HR5.out (.int .i64 (t.kind:Int)) (strV t.text) (.int .i64 (t.n:Int)) (.int .i64 (t.line:Int)) (.int .i64 (t.col:Int))) 1) Tryz.underlying265 rfl (by kernel_rfl) rfl ?_
  exact ⟨rfl,(HST5.out.far5 HGL.out _ _ _ _ _).drew 1,lx_to (gr_five HG5.out (Nat.le_refl _) _ _ _ _ _) (lx_drew 1 _)⟩
def whoA(x:Who):Value:=.agg #[.bool x.any,strV x.name,.int .i64 (x.n:Int),.int .i64 (x.line:Int),.int .i64 (x.col:Int)]
theorem field_text(a b c d e:Value)(w:World):(Instr.field 265 (.agg #[a,b,c,d,e]) 1).run Tryz.prog w=.ok b w:=by kernel_rfl
theorem field_n(a b c d e:Value)(w:World):(Instr.field 265 (.agg #[a,b,c,d,e]) 2).run Tryz.prog w=.ok c w:=by kernel_rfl
theorem pname_ok(w:World)(g:Nat)(L:List Tk)(e:Nat×Nat)(p:Pr)(h:PrB w g L e p)(hL:L.length≤1000000) :
  Calls Tryz.prog 406 #[.pointer (some ⟨g,0,none⟩)] w (PrPost w g L e (strV (pName e p).1) (pName e p).2):=by
 have HT:=ptake_ok w g L e p 1 h hL
 unfold tkA at HT
 unfold pName
 have HTT:=Lib.hid HT
 have hf:=field_text
 clear HT h
 go_enter Tryz.func406,Tryz.ntmps406
 go_wp2_with fail
 refine HTT.out.mono ?_
 rintro r w1 ⟨rfl,hb1,hg1⟩
 have HB1:=Lib.hid hb1
 have HG1:=Lib.hid hg1
 clear hb1 hg1
 go_wp2_with fail
 go_ret
 exact ⟨rfl,HB1.out,HG1.out⟩
theorem pnum_ok(w:World)(g:Nat)(L:List Tk)(e:Nat×Nat)(p:Pr)(h:PrB w g L e p)(hL:L.length≤1000000) :
  Calls Tryz.prog 404 #[.pointer (some ⟨g,0,none⟩)] w (PrPost w g L e (.int .i64 ((pNum e p).1:Int)) (pNum e p).2):=by
 have HT:=ptake_ok w g L e p 3 h hL
 unfold tkA at HT
 unfold pNum
 have HTT:=Lib.hid HT
 have hf:=field_n
 clear HT h
 go_enter Tryz.func404,Tryz.ntmps404
 go_wp2_with fail
 refine HTT.out.mono ?_
 rintro r w1 ⟨rfl,hb1,hg1⟩
 have HB1:=Lib.hid hb1
 have HG1:=Lib.hid hg1
 clear hb1 hg1
 go_wp2_with fail
 go_ret
 exact ⟨rfl,HB1.out,HG1.out⟩
theorem pwho_ok(w:World)(g:Nat)(L:List Tk)(e:Nat×Nat)(p:Pr)(h:PrB w g L e p)(hL:L.length≤1000000) :
  Calls Tryz.prog 402 #[.pointer (some ⟨g,0,none⟩)] w (PrPost w g L e (whoA (pWho e p).1) (pWho e p).2):=by
 obtain ⟨w0,hst⟩:∃w0,w.alloc (.cells #[.bool false,strV [],.int .i64 0,.int .i64 0,.int .i64 0] 173)=w0:=⟨_,rfl⟩
 have hgl:=h.lt
 have hb0:Blk w0 w.heap.size 173 #[.bool false,strV [],.int .i64 0,.int .i64 0,.int .i64 0]:=by rw[←hst];exact Blk.new _ _ _
 have hg0:w.grownBy w0 (some g):=by rw[←hst];exact gr_alloc _ _ _
 have h0:PrB w0 g L e p:=h.below (by rw[←hst];exact (Below.refl _ w).alloc (Nat.le_refl _) _)
 have HPL:=pplace_ok w0 g L e p h0
 obtain ⟨⟨y,x⟩,hyx⟩:∃z,p.place e=z:=⟨_,rfl⟩
 rw[hyx] at HPL
 have HP:=Lib.hid HPL
 have HB0:=Lib.hid hb0
 have HG0:=Lib.hid hg0
 have HH0:=Lib.hid h0
 have HGL:=Lib.hid hgl
 have HLL:=Lib.hid hL
 clear h hb0 hg0 h0 hgl HPL hL
 cases hb:p.is tAny
 ·cases hk:p.kind 1
  ·have hr:pWho e p=(⟨false,[],(pNum e p).1,y,x⟩,(pNum e p).2):=by unfold pWho;rw[hb,hk,hyx];rfl
   rw[hr]
   obtain ⟨⟨n,p4⟩,hpn⟩:∃z,pNum e p=z:=⟨_,rfl⟩
   rw[hpn]
   clear hr hyx
   go_enter Tryz.func402,Tryz.ntmps402
   go_wp2_with fail
   refine HP.out.mono ?_
   rintro r w1 ⟨rfl,hw1⟩
   have hr2:=(HB0.out.below hw1 HB0.out.lt).alloc (.cells #[.bool false,strV [],.int .i64 0,.int .i64 (y:Int),.int .i64 (x:Int)] 173)
   have ht2:=Blk.new w1 173 #[.bool false,strV [],.int .i64 0,.int .i64 (y:Int),.int .i64 (x:Int)]
   have hp2:PrB (w1.alloc (.cells #[.bool false,strV [],.int .i64 0,.int .i64 (y:Int),.int .i64 (x:Int)] 173)) g L e p:=(HH0.out.below hw1).below ((Below.refl _ w1).alloc (Nat.le_refl _) _)
   have hg2:=lx_to HG0.out (lx_to (gr_below hw1 (some g)) (gr_alloc w1 (.cells #[.bool false,strV [],.int .i64 0,.int .i64 (y:Int),.int .i64 (x:Int)] 173) (some g)))
   have HNE:=Lib.hid (show w.heap.size<w1.heap.size from (HB0.out.below hw1 HB0.out.lt).lt)
   have HT:=Lib.hid (took_ok _ g L e p tAny hp2 HLL.out)
   have HR2:=Lib.hid hr2
   have HT2:=Lib.hid ht2
   have HG2:=Lib.hid hg2
   clear hr2 ht2 hp2 hg2 hw1
   rw[hb] at HT
   go_wp2_with fail
   refine HT.out.mono ?_
   rintro r w3 ⟨rfl,hb3,hg3⟩
   have hr3:=HR2.out.grown hg3 (by have:=HGL.out;simp;omega)
   have ht3:=HT2.out.grown hg3 (by have:=HGL.out;have:=HNE.out;simp;omega)
   have HG3:=Lib.hid (lx_to HG2.out hg3)
   have HB3:=Lib.hid hb3
   clear hg3 hb3
   have HK:=Lib.hid (pkind_ok w3 g L e p 1 HB3.out)
   rw[hk] at HK
   go_wp2_with fail
   refine HK.out.mono ?_
   rintro r w4 ⟨rfl,m,hw4⟩
   rw[hw4]
   clear hw4 w4
   have HN:=pnum_ok (w3.drewN m) g L e p (HB3.out.drew m) HLL.out
   rw[hpn] at HN
   have HNN:=Lib.hid HN
   have HR3:=Lib.hid (show Blk (w3.drewN m) _ _ _ from hr3)
   have HT3:=Lib.hid (show Blk (w3.drewN m) _ _ _ from ht3)
   clear HN hr3 ht3
   go_wp2_with fail
   refine HNN.out.mono ?_
   rintro r w5 ⟨rfl,hb5,hg5⟩
   have hr5:=HR3.out.grown hg5 (by have:=HGL.out;simp;omega)
   have ht5:=HT3.out.grown hg5 (by have:=HGL.out;have:=HNE.out;simp;omega)
   have HG5:=Lib.hid (lx_to (lx_to HG3.out (lx_drew m _)) hg5)
   have HB5:=Lib.hid hb5
   clear hg5 hb5
   have hne:=HNE.out
   obtain ⟨⟨t0,t1,t2,t3,t4⟩,u0,u1,u2,-⟩:=five ht5
   obtain ⟨⟨r0,r1,r2,r3,r4⟩,f0,f1,f2,f3,f4⟩:=five hr5
   have HR4:=Lib.hid (hr5.far (p:=⟨w1.heap.size,2,none⟩) (Nat.ne_of_lt HNE.out) (.int .i64 (n:Int)))
   have HB4:=Lib.hid (HB5.out.far (d:=w1.heap.size) (by have:=HGL.out;have:=HNE.out;omega) 2 (.int .i64 (n:Int)))
   have HG4:=Lib.hid (gr_put HG5.out (Nat.le_of_lt HNE.out) 2 (.int .i64 (n:Int)))
   clear hr5 ht5
   go_wp2_with fail
   unfold whoA
   refine row_ret (ty:=173) rfl w.heap.size 173 _ rfl (five_put HR4.out (.bool false) (strV []) (.int .i64 (n:Int)) (.int .i64 (y:Int)) (.int .i64 (x:Int))) Tryz.underlying173 rfl (by kernel_rfl) rfl ?_
   exact ⟨rfl,HB4.out.far5 HGL.out _ _ _ _ _,gr_five HG4.out (Nat.le_refl _) _ _ _ _ _⟩
  ·have hr:pWho e p=(⟨false,(pName e p).1,0,y,x⟩,(pName e p).2):=by unfold pWho;rw[hb,hk,hyx];rfl
   rw[hr]
   obtain ⟨⟨nm,p4⟩,hpn⟩:∃z,pName e p=z:=⟨_,rfl⟩
   rw[hpn]
   clear hr hyx
   go_enter Tryz.func402,Tryz.ntmps402
   go_wp2_with fail
   refine HP.out.mono ?_
   rintro r w1 ⟨rfl,hw1⟩
   have hr2:=(HB0.out.below hw1 HB0.out.lt).alloc (.cells #[.bool false,strV [],.int .i64 0,.int .i64 (y:Int),.int .i64 (x:Int)] 173)
   have ht2:=Blk.new w1 173 #[.bool false,strV [],.int .i64 0,.int .i64 (y:Int),.int .i64 (x:Int)]
   have hp2:PrB (w1.alloc (.cells #[.bool false,strV [],.int .i64 0,.int .i64 (y:Int),.int .i64 (x:Int)] 173)) g L e p:=(HH0.out.below hw1).below ((Below.refl _ w1).alloc (Nat.le_refl _) _)
   have hg2:=lx_to HG0.out (lx_to (gr_below hw1 (some g)) (gr_alloc w1 (.cells #[.bool false,strV [],.int .i64 0,.int .i64 (y:Int),.int .i64 (x:Int)] 173) (some g)))
   have HNE:=Lib.hid (show w.heap.size<w1.heap.size from (HB0.out.below hw1 HB0.out.lt).lt)
   have HT:=Lib.hid (took_ok _ g L e p tAny hp2 HLL.out)
   have HR2:=Lib.hid hr2
   have HT2:=Lib.hid ht2
   have HG2:=Lib.hid hg2
   clear hr2 ht2 hp2 hg2 hw1
   rw[hb] at HT
   go_wp2_with fail
   refine HT.out.mono ?_
   rintro r w3 ⟨rfl,hb3,hg3⟩
   have hr3:=HR2.out.grown hg3 (by have:=HGL.out;simp;omega)
   have ht3:=HT2.out.grown hg3 (by have:=HGL.out;have:=HNE.out;simp;omega)
   have HG3:=Lib.hid (lx_to HG2.out hg3)
   have HB3:=Lib.hid hb3
   clear hg3 hb3
   have HK:=Lib.hid (pkind_ok w3 g L e p 1 HB3.out)
   rw[hk] at HK
   go_wp2_with fail
   refine HK.out.mono ?_
   rintro r w4 ⟨rfl,m,hw4⟩
   rw[hw4]
   clear hw4 w4
   have HN:=pname_ok (w3.drewN m) g L e p (HB3.out.drew m) HLL.out
   rw[hpn] at HN
   have HNN:=Lib.hid HN
   have HR3:=Lib.hid (show Blk (w3.drewN m) _ _ _ from hr3)
   have HT3:=Lib.hid (show Blk (w3.drewN m) _ _ _ from ht3)
   clear HN hr3 ht3
   go_wp2_with fail
   refine HNN.out.mono ?_
   rintro r w5 ⟨rfl,hb5,hg5⟩
   have hr5:=HR3.out.grown hg5 (by have:=HGL.out;simp;omega)
   have ht5:=HT3.out.grown hg5 (by have:=HGL.out;have:=HNE.out;simp;omega)
   have HG5:=Lib.hid (lx_to (lx_to HG3.out (lx_drew m _)) hg5)
   have HB5:=Lib.hid hb5
   clear hg5 hb5
   have hne:=HNE.out
   obtain ⟨⟨t0,t1,t2,t3,t4⟩,u0,u1,u2,-⟩:=five ht5
   obtain ⟨⟨r0,r1,r2,r3,r4⟩,f0,f1,f2,f3,f4⟩:=five hr5
   have HR4:=Lib.hid (hr5.far (p:=⟨w1.heap.size,1,none⟩) (Nat.ne_of_lt HNE.out) (strV nm))
   have HB4:=Lib.hid (HB5.out.far (d:=w1.heap.size) (by have:=HGL.out;have:=HNE.out;omega) 1 (strV nm))
   have HG4:=Lib.hid (gr_put HG5.out (Nat.le_of_lt HNE.out) 1 (strV nm))
   clear hr5 ht5
   go_wp2_with fail
   unfold whoA
   refine row_ret (ty:=173) rfl w.heap.size 173 _ rfl (five_put HR4.out (.bool false) (strV nm) (.int .i64 0) (.int .i64 (y:Int)) (.int .i64 (x:Int))) Tryz.underlying173 rfl (by kernel_rfl) rfl ?_
   exact ⟨rfl,HB4.out.far5 HGL.out _ _ _ _ _,gr_five HG4.out (Nat.le_refl _) _ _ _ _ _⟩
 ·have hr:pWho e p=(⟨true,[],0,y,x⟩,p.on):=by unfold pWho;rw[hb,hyx];rfl
  rw[hr]
  clear hr hyx
  go_enter Tryz.func402,Tryz.ntmps402
  go_wp2_with fail
  refine HP.out.mono ?_
  rintro r w1 ⟨rfl,hw1⟩
  have hr2:=(HB0.out.below hw1 HB0.out.lt).alloc (.cells #[.bool false,strV [],.int .i64 0,.int .i64 (y:Int),.int .i64 (x:Int)] 173)
  have ht2:=Blk.new w1 173 #[.bool false,strV [],.int .i64 0,.int .i64 (y:Int),.int .i64 (x:Int)]
  have hp2:PrB (w1.alloc (.cells #[.bool false,strV [],.int .i64 0,.int .i64 (y:Int),.int .i64 (x:Int)] 173)) g L e p:=(HH0.out.below hw1).below ((Below.refl _ w1).alloc (Nat.le_refl _) _)
  have hg2:=lx_to HG0.out (lx_to (gr_below hw1 (some g)) (gr_alloc w1 (.cells #[.bool false,strV [],.int .i64 0,.int .i64 (y:Int),.int .i64 (x:Int)] 173) (some g)))
  have HNE:=Lib.hid (show w.heap.size<w1.heap.size from (HB0.out.below hw1 HB0.out.lt).lt)
  have HT:=Lib.hid (took_ok _ g L e p tAny hp2 HLL.out)
  have HR2:=Lib.hid hr2
  have HT2:=Lib.hid ht2
  have HG2:=Lib.hid hg2
  clear hr2 ht2 hp2 hg2 hw1
  rw[hb] at HT
  go_wp2_with fail
  refine HT.out.mono ?_
  rintro r w3 ⟨rfl,hb3,hg3⟩
  have hr3:=HR2.out.grown hg3 (by have:=HGL.out;simp;omega)
  have ht3:=HT2.out.grown hg3 (by have:=HGL.out;have:=HNE.out;simp;omega)
  have HG3:=Lib.hid (lx_to HG2.out hg3)
  have HB3:=Lib.hid hb3
  clear hg3 hb3
  have hne:=HNE.out
  obtain ⟨⟨t0,t1,t2,t3,t4⟩,u0,u1,u2,-⟩:=five ht3
  obtain ⟨⟨r0,r1,r2,r3,r4⟩,f0,f1,f2,f3,f4⟩:=five hr3
  have HR4:=Lib.hid (hr3.far (p:=⟨w1.heap.size,0,none⟩) (Nat.ne_of_lt HNE.out) (.bool true))
  have HB4:=Lib.hid (HB3.out.far (d:=w1.heap.size) (by have:=HGL.out;have:=HNE.out;omega) 0 (.bool true))
  have HG4:=Lib.hid (gr_put HG3.out (Nat.le_of_lt HNE.out) 0 (.bool true))
  clear hr3 ht3
  go_wp2_with fail
  unfold whoA
  refine row_ret (ty:=173) rfl w.heap.size 173 _ rfl (five_put HR4.out (.bool true) (strV []) (.int .i64 0) (.int .i64 (y:Int)) (.int .i64 (x:Int))) Tryz.underlying173 rfl (by kernel_rfl) rfl ?_
  exact ⟨rfl,HB4.out.far5 HGL.out _ _ _ _ _,gr_five HG4.out (Nat.le_refl _) _ _ _ _ _⟩
theorem pwhere_ok(w:World)(g:Nat)(L:List Tk)(e:Nat×Nat)(p:Pr)(h:PrB w g L e p)(hL:L.length≤1000000) :
  Calls Tryz.prog 403 #[.pointer (some ⟨g,0,none⟩)] w (PrPost w g L e (whoA (pWhere e p).1) (pWhere e p).2):=by
 obtain ⟨w0,hst⟩:∃w0,w.alloc (.cells #[.bool false,strV [],.int .i64 0,.int .i64 0,.int .i64 0] 173)=w0:=⟨_,rfl⟩
 have hgl:=h.lt
 have hb0:Blk w0 w.heap.size 173 #[.bool false,strV [],.int .i64 0,.int .i64 0,.int .i64 0]:=by rw[←hst];exact Blk.new _ _ _
 have hg0:w.grownBy w0 (some g):=by rw[←hst];exact gr_alloc _ _ _
 have h0:PrB w0 g L e p:=h.below (by rw[←hst];exact (Below.refl _ w).alloc (Nat.le_refl _) _)
 have HPL:=pplace_ok w0 g L e p h0
 obtain ⟨⟨y,x⟩,hyx⟩:∃z,p.place e=z:=⟨_,rfl⟩
 rw[hyx] at HPL
 have HP:=Lib.hid HPL
 have HB0:=Lib.hid hb0
 have HG0:=Lib.hid hg0
 have HH0:=Lib.hid h0
 have HGL:=Lib.hid hgl
 have HLL:=Lib.hid hL
 clear h hb0 hg0 h0 hgl HPL hL
 cases hb:p.is tAll
 ·have hr:pWhere e p=(⟨false,(pName e p).1,0,y,x⟩,(pName e p).2):=by unfold pWhere;rw[hb,hyx];rfl
  rw[hr]
  obtain ⟨⟨nm,p4⟩,hpn⟩:∃z,pName e p=z:=⟨_,rfl⟩
  rw[hpn]
  clear hr hyx
  go_enter Tryz.func403,Tryz.ntmps403
  go_wp2_with fail
  refine HP.out.mono ?_
  rintro r w1 ⟨rfl,hw1⟩
  have hr2:=(HB0.out.below hw1 HB0.out.lt).alloc (.cells #[.bool false,strV [],.int .i64 0,.int .i64 (y:Int),.int .i64 (x:Int)] 173)
  have ht2:=Blk.new w1 173 #[.bool false,strV [],.int .i64 0,.int .i64 (y:Int),.int .i64 (x:Int)]
  have hp2:PrB (w1.alloc (.cells #[.bool false,strV [],.int .i64 0,.int .i64 (y:Int),.int .i64 (x:Int)] 173)) g L e p:=(HH0.out.below hw1).below ((Below.refl _ w1).alloc (Nat.le_refl _) _)
  have hg2:=lx_to HG0.out (lx_to (gr_below hw1 (some g)) (gr_alloc w1 (.cells #[.bool false,strV [],.int .i64 0,.int .i64 (y:Int),.int .i64 (x:Int)] 173) (some g)))
  have HNE:=Lib.hid (show w.heap.size<w1.heap.size from (HB0.out.below hw1 HB0.out.lt).lt)
  have HT:=Lib.hid (took_ok _ g L e p tAll hp2 HLL.out)
  have HR2:=Lib.hid hr2
  have HT2:=Lib.hid ht2
  have HG2:=Lib.hid hg2
  clear hr2 ht2 hp2 hg2 hw1
  rw[hb] at HT
  go_wp2_with fail
  refine HT.out.mono ?_
  rintro r w3 ⟨rfl,hb3,hg3⟩
  have hr3:=HR2.out.grown hg3 (by have:=HGL.out;simp;omega)
  have ht3:=HT2.out.grown hg3 (by have:=HGL.out;have:=HNE.out;simp;omega)
  have HG3:=Lib.hid (lx_to HG2.out hg3)
  have HB3:=Lib.hid hb3
  clear hg3 hb3
  have HN:=pname_ok w3 g L e p HB3.out HLL.out
  rw[hpn] at HN
  have HNN:=Lib.hid HN
  have HR3:=Lib.hid hr3
  have HT3:=Lib.hid ht3
  clear HN hr3 ht3
  go_wp2_with fail
  refine HNN.out.mono ?_
  rintro r w5 ⟨rfl,hb5,hg5⟩
  have hr5:=HR3.out.grown hg5 (by have:=HGL.out;simp;omega)
  have ht5:=HT3.out.grown hg5 (by have:=HGL.out;have:=HNE.out;simp;omega)
  have HG5:=Lib.hid (lx_to HG3.out hg5)
  have HB5:=Lib.hid hb5
  clear hg5 hb5
  have hne:=HNE.out
  obtain ⟨⟨t0,t1,t2,t3,t4⟩,u0,u1,u2,-⟩:=five ht5
  obtain ⟨⟨r0,r1,r2,r3,r4⟩,f0,f1,f2,f3,f4⟩:=five hr5
  have HR4:=Lib.hid (hr5.far (p:=⟨w1.heap.size,1,none⟩) (Nat.ne_of_lt HNE.out) (strV nm))
  have HB4:=Lib.hid (HB5.out.far (d:=w1.heap.size) (by have:=HGL.out;have:=HNE.out;omega) 1 (strV nm))
  have HG4:=Lib.hid (gr_put HG5.out (Nat.le_of_lt HNE.out) 1 (strV nm))
  clear hr5 ht5
  go_wp2_with fail
  unfold whoA
  refine row_ret (ty:=173) rfl w.heap.size 173 _ rfl (five_put HR4.out (.bool false) (strV nm) (.int .i64 0) (.int .i64 (y:Int)) (.int .i64 (x:Int))) Tryz.underlying173 rfl (by kernel_rfl) rfl ?_
  exact ⟨rfl,HB4.out.far5 HGL.out _ _ _ _ _,gr_five HG4.out (Nat.le_refl _) _ _ _ _ _⟩
 ·have hr:pWhere e p=(⟨true,[],0,y,x⟩,p.on):=by unfold pWhere;rw[hb,hyx];rfl
  rw[hr]
  clear hr hyx
  go_enter Tryz.func403,Tryz.ntmps403
  go_wp2_with fail
  refine HP.out.mono ?_
  rintro r w1 ⟨rfl,hw1⟩
  have hr2:=(HB0.out.below hw1 HB0.out.lt).alloc (.cells #[.bool false,strV [],.int .i64 0,.int .i64 (y:Int),.int .i64 (x:Int)] 173)
  have ht2:=Blk.new w1 173 #[.bool false,strV [],.int .i64 0,.int .i64 (y:Int),.int .i64 (x:Int)]
  have hp2:PrB (w1.alloc (.cells #[.bool false,strV [],.int .i64 0,.int .i64 (y:Int),.int .i64 (x:Int)] 173)) g L e p:=(HH0.out.below hw1).below ((Below.refl _ w1).alloc (Nat.le_refl _) _)
  have hg2:=lx_to HG0.out (lx_to (gr_below hw1 (some g)) (gr_alloc w1 (.cells #[.bool false,strV [],.int .i64 0,.int .i64 (y:Int),.int .i64 (x:Int)] 173) (some g)))
  have HNE:=Lib.hid (show w.heap.size<w1.heap.size from (HB0.out.below hw1 HB0.out.lt).lt)
  have HT:=Lib.hid (took_ok _ g L e p tAll hp2 HLL.out)
  have HR2:=Lib.hid hr2
  have HT2:=Lib.hid ht2
  have HG2:=Lib.hid hg2
  clear hr2 ht2 hp2 hg2 hw1
  rw[hb] at HT
  go_wp2_with fail
  refine HT.out.mono ?_
  rintro r w3 ⟨rfl,hb3,hg3⟩
  have hr3:=HR2.out.grown hg3 (by have:=HGL.out;simp;omega)
  have ht3:=HT2.out.grown hg3 (by have:=HGL.out;have:=HNE.out;simp;omega)
  have HG3:=Lib.hid (lx_to HG2.out hg3)
  have HB3:=Lib.hid hb3
  clear hg3 hb3
  have hne:=HNE.out
  obtain ⟨⟨t0,t1,t2,t3,t4⟩,u0,u1,u2,-⟩:=five ht3
  obtain ⟨⟨r0,r1,r2,r3,r4⟩,f0,f1,f2,f3,f4⟩:=five hr3
  have HR4:=Lib.hid (hr3.far (p:=⟨w1.heap.size,0,none⟩) (Nat.ne_of_lt HNE.out) (.bool true))
  have HB4:=Lib.hid (HB3.out.far (d:=w1.heap.size) (by have:=HGL.out;have:=HNE.out;omega) 0 (.bool true))
  have HG4:=Lib.hid (gr_put HG3.out (Nat.le_of_lt HNE.out) 0 (.bool true))
  clear hr3 ht3
  go_wp2_with fail
  unfold whoA
  refine row_ret (ty:=173) rfl w.heap.size 173 _ rfl (five_put HR4.out (.bool true) (strV []) (.int .i64 0) (.int .i64 (y:Int)) (.int .i64 (x:Int))) Tryz.underlying173 rfl (by kernel_rfl) rfl ?_
  exact ⟨rfl,HB4.out.far5 HGL.out _ _ _ _ _,gr_five HG4.out (Nat.le_refl _) _ _ _ _ _⟩
theorem ptiers_ok(w:World)(g:Nat)(L:List Tk)(e:Nat×Nat)(p:Pr)(h:PrB w g L e p)(hL:L.length≤1000000) :
  Calls Tryz.prog 401 #[.pointer (some ⟨g,0,none⟩)] w (PrPost w g L e (.tuple #[.int .i64 ((pTiers e p).1:Int),.int .i64 ((pTiers e p).2.1:Int)]) (pTiers e p).2.2):=by
 have HT:=Lib.hid (took_ok w g L e p tAny h hL)
 have HLL:=Lib.hid hL
 have HH:=Lib.hid h
 clear h hL
 cases hb:p.is tAny
 ·rw[hb] at HT
  obtain ⟨⟨n,p1⟩,hpn⟩:∃z,pNum e p=z:=⟨_,rfl⟩
  have HN:=Lib.hid (fun w1 (h1:PrB w1 g L e p)=>pnum_ok w1 g L e p h1 HLL.out)
  rw[hpn] at HN
  cases hd:p1.is tDots
  ·have hr:pTiers e p=(n,n,p1):=by unfold pTiers;rw[hb,hpn];simp only[hd];rfl
   rw[hr]
   clear hr
   go_enter Tryz.func401,Tryz.ntmps401
   go_wp2_with fail
   refine HT.out.mono ?_
   rintro r w1 ⟨rfl,hb1,hg1⟩
   have HNN:=Lib.hid (HN.out w1 hb1)
   have HG1:=Lib.hid hg1
   clear hb1 hg1
   go_wp2_with fail
   refine HNN.out.mono ?_
   rintro r w2 ⟨rfl,hb2,hg2⟩
   have HD:=Lib.hid (took_ok w2 g L e p1 tDots hb2 HLL.out)
   rw[hd] at HD
   have HG2:=Lib.hid (lx_to HG1.out hg2)
   clear hb2 hg2
   go_wp2_with fail
   refine HD.out.mono ?_
   rintro r w3 ⟨rfl,hb3,hg3⟩
   have HB3:=Lib.hid hb3
   have HG3:=Lib.hid (lx_to HG2.out hg3)
   clear hb3 hg3
   go_wp2_with fail
   go_ret2
   exact ⟨rfl,HB3.out,HG3.out⟩
  ·obtain ⟨⟨m,p2⟩,hpm⟩:∃z,pNum e p1.on=z:=⟨_,rfl⟩
   have hr:pTiers e p=(n,m,p2):=by unfold pTiers;rw[hb,hpn];simp only[hd,hpm];rfl
   rw[hr]
   clear hr
   go_enter Tryz.func401,Tryz.ntmps401
   go_wp2_with fail
   refine HT.out.mono ?_
   rintro r w1 ⟨rfl,hb1,hg1⟩
   have HNN:=Lib.hid (HN.out w1 hb1)
   have HG1:=Lib.hid hg1
   clear hb1 hg1
   go_wp2_with fail
   refine HNN.out.mono ?_
   rintro r w2 ⟨rfl,hb2,hg2⟩
   have HD:=Lib.hid (took_ok w2 g L e p1 tDots hb2 HLL.out)
   rw[hd] at HD
   have HG2:=Lib.hid (lx_to HG1.out hg2)
   clear hb2 hg2
   go_wp2_with fail
   refine HD.out.mono ?_
   rintro r w3 ⟨rfl,hb3,hg3⟩
   have HM:=pnum_ok w3 g L e _ hb3 HLL.out
   simp only[if_true] at HM
   rw[hpm] at HM
   have HMM:=Lib.hid HM
   have HG3:=Lib.hid (lx_to HG2.out hg3)
   clear hb3 hg3 HM
   go_wp2_with fail
   refine HMM.out.mono ?_
   rintro r w4 ⟨rfl,hb4,hg4⟩
   have HB4:=Lib.hid hb4
   have HG4:=Lib.hid (lx_to HG3.out hg4)
   clear hb4 hg4
   go_wp2_with fail
   go_ret2
   exact ⟨rfl,HB4.out,HG4.out⟩
 ·rw[hb] at HT
  have hr:pTiers e p=(0,7,p.on):=by unfold pTiers;rw[hb];rfl
  rw[hr]
  clear hr
  go_enter Tryz.func401,Tryz.ntmps401
  go_wp2_with fail
  refine HT.out.mono ?_
  rintro r w1 ⟨rfl,hb1,hg1⟩
  have HB1:=Lib.hid hb1
  have HG1:=Lib.hid hg1
  clear hb1 hg1
  go_wp2_with fail
  go_ret2
  exact ⟨rfl,HB1.out,HG1.out⟩
end Go.Proofs.YtmbdghclhpboaaaGreat

/- Part of the proof: PolP2 PolR6 Rul. Conditions: as each states. -/
import Derived.Test.YtmbdghclhpboaaaGreatPb32
import Derived.Great.BuildSlice
set_option linter.all false
set_option maxRecDepth 100000
set_option maxHeartbeats 8000000
namespace Go.Proofs.YtmbdghclhpboaaaGreat
theorem on_le(p:Pr):p.on.l.length≤p.l.length:=by unfold Pr.on;simp
theorem wrong_ll(e:Nat×Nat)(p:Pr):(p.wrong e).l=p.l:=by
 unfold Pr.wrong
 split<;>rfl
theorem want_le(e:Nat×Nat)(s:List UInt8)(p:Pr):(p.want e s).l.length≤p.l.length:=by
 unfold Pr.want
 split
 ·exact on_le p
 ·rw[wrong_ll];exact Nat.le_refl _
theorem take_le(e:Nat×Nat)(k:Nat)(p:Pr):(p.take e k).2.l.length≤p.l.length:=by
 unfold Pr.take
 split
 ·exact on_le p
 ·simp only[wrong_ll];exact Nat.le_refl _
theorem name_le(e:Nat×Nat)(p:Pr):(pName e p).2.l.length≤p.l.length:=take_le e 1 p
theorem num_le(e:Nat×Nat)(p:Pr):(pNum e p).2.l.length≤p.l.length:=take_le e 3 p
theorem who_le(e:Nat×Nat)(p:Pr):(pWho e p).2.l.length≤p.l.length:=by
 unfold pWho
 simp only
 split
 ·exact on_le p
 ·split
  ·exact name_le e p
  ·exact num_le e p
theorem where_le(e:Nat×Nat)(p:Pr):(pWhere e p).2.l.length≤p.l.length:=by
 unfold pWhere
 simp only
 split
 ·exact on_le p
 ·exact name_le e p
theorem tiers_le(e:Nat×Nat)(p:Pr):(pTiers e p).2.2.l.length≤p.l.length:=by
 unfold pTiers
 simp only
 split
 ·exact on_le p
 ·split
  ·exact Nat.le_trans (num_le e _) (Nat.le_trans (on_le _) (num_le e p))
  ·exact num_le e p
theorem box_le(e:Nat×Nat)(p:Pr):(pBox e p).2.l.length≤p.l.length:=
 Nat.le_trans (num_le e _) (Nat.le_trans (num_le e _) (Nat.le_trans (num_le e _) (num_le e p)))
theorem more_le(e:Nat×Nat):∀(k:Nat) (p:Pr) (out:List Bx),(pMore e k p out).2.l.length≤p.l.length
 | 0,p,out=>Nat.le_refl _
 | k+1,p,out=>by
   unfold pMore
   split
   ·exact Nat.le_trans (more_le e k _ _) (Nat.le_trans (box_le e _) (on_le p))
   ·exact Nat.le_refl _
theorem boxes_le(e:Nat×Nat)(p:Pr):(pBoxes e p).2.l.length≤p.l.length:=Nat.le_trans (more_le e _ _ _) (box_le e p)
theorem named_le(e:Nat×Nat)(d:Dc)(p:Pr):(pNamed e d p).2.l.length≤p.l.length:=Nat.le_trans (num_le e _) (Nat.le_trans (want_le e _ _) (name_le e p))
theorem region_le(e:Nat×Nat)(d:Dc)(p:Pr):(pRegion e d p).2.l.length≤p.l.length:=Nat.le_trans (boxes_le e _) (Nat.le_trans (want_le e _ _) (name_le e p))
theorem cloak_le(e:Nat×Nat)(d:Dc)(p:Pr):(pCloak e d p).2.l.length≤p.l.length:=Nat.le_trans (who_le e _) (want_le e _ p)
theorem rule_le(e:Nat×Nat)(d:Dc)(p:Pr):(pRule e d p).2.l.length≤p.l.length:=
 Nat.le_trans (num_le e _) (Nat.le_trans (want_le e _ _) (Nat.le_trans (where_le e _) (Nat.le_trans (want_le e _ _) (Nat.le_trans (who_le e _) (Nat.le_trans (want_le e _ _) (Nat.le_trans (tiers_le e _) (Nat.le_trans (want_le e _ _) (cloak_le e d p))))))))
theorem bad_is{p:Pr}(h:p.bad≠none)(s:List UInt8):p.is s=false:=by
 unfold Pr.is
 cases hb:p.bad with
 | none=>exact absurd hb h
 | some b=>rfl
theorem bad_kind{p:Pr}(h:p.bad≠none)(k:Nat):p.kind k=false:=by
 unfold Pr.kind
 cases hb:p.bad with
 | none=>exact absurd hb h
 | some b=>rfl
theorem bad_wrong{p:Pr}(h:p.bad≠none)(e:Nat×Nat):p.wrong e=p:=by
 unfold Pr.wrong
 cases hb:p.bad with
 | none=>exact absurd hb h
 | some b=>rfl
theorem bad_want{p:Pr}(h:p.bad≠none)(e:Nat×Nat)(s:List UInt8):p.want e s=p:=by unfold Pr.want;rw[bad_is h];exact bad_wrong h e
theorem bad_take{p:Pr}(h:p.bad≠none)(e:Nat×Nat)(k:Nat):(p.take e k).2=p:=by unfold Pr.take;rw[bad_kind h];exact bad_wrong h e
theorem bad_who{p:Pr}(h:p.bad≠none)(e:Nat×Nat):(pWho e p).2=p:=by
 unfold pWho
 simp only[bad_is h,bad_kind h,Bool.false_eq_true,if_false]
 exact bad_take h e 3
theorem bad_where{p:Pr}(h:p.bad≠none)(e:Nat×Nat):(pWhere e p).2=p:=by
 unfold pWhere
 simp only[bad_is h,Bool.false_eq_true,if_false]
 exact bad_take h e 1
theorem bad_tiers{p:Pr}(h:p.bad≠none)(e:Nat×Nat):(pTiers e p).2.2=p:=by
 have h1:(pNum e p).2=p:=bad_take h e 3
 unfold pTiers
 simp only[bad_is h,Bool.false_eq_true,if_false,h1]
theorem bad_rule{p:Pr}(h:p.bad≠none)(e:Nat×Nat)(d:Dc):(pRule e d p).2=p:=by
 have hc:(pCloak e d p).2=p:=by unfold pCloak;simp only[bad_want h,bad_who h]
 unfold pRule
 simp only[hc,bad_want h,bad_tiers h,bad_who h,bad_where h]
 exact bad_take h e 3
theorem wrong_bad(e:Nat×Nat)(p:Pr):(p.wrong e).bad≠none:=by
 unfold Pr.wrong
 cases hb:p.bad with
 | none=>simp
 | some b=>simp[hb]
theorem is_on{p:Pr}{s:List UInt8}(h:p.is s=true):p.on.l.length<p.l.length:=by
 unfold Pr.is at h
 unfold Pr.on
 cases hl:p.l with
 | nil=>rw[hl] at h;simp at h
 | cons t r=>simp
theorem decl_on(e:Nat×Nat)(p:Pr):(pDecl e p).2.l.length<p.l.length∨((pDecl e p).2.bad≠none∧(pDecl e p).2.l.length≤p.l.length):=by
 unfold pDecl
 simp only
 by_cases b0:p.is tRole=true
 ·rw[if_pos b0];exact .inl (Nat.lt_of_le_of_lt (Nat.le_trans (want_le e _ _) (named_le e _ _)) (is_on b0))
 rw[if_neg b0]
 by_cases b1:p.is tLabel=true
 ·rw[if_pos b1];exact .inl (Nat.lt_of_le_of_lt (Nat.le_trans (want_le e _ _) (named_le e _ _)) (is_on b1))
 rw[if_neg b1]
 by_cases b2:p.is tRegion=true
 ·rw[if_pos b2];exact .inl (Nat.lt_of_le_of_lt (Nat.le_trans (want_le e _ _) (region_le e _ _)) (is_on b2))
 rw[if_neg b2]
 by_cases b3:p.is tAllow=true
 ·rw[if_pos b3];exact .inl (Nat.lt_of_le_of_lt (Nat.le_trans (want_le e _ _) (rule_le e _ _)) (is_on b3))
 rw[if_neg b3]
 by_cases b4:p.is tCap=true
 ·rw[if_pos b4];exact .inl (Nat.lt_of_le_of_lt (Nat.le_trans (want_le e _ _) (rule_le e _ _)) (is_on b4))
 rw[if_neg b4]
 by_cases b5:p.is tCloak=true
 ·rw[if_pos b5];exact .inl (Nat.lt_of_le_of_lt (Nat.le_trans (want_le e _ _) (cloak_le e _ _)) (is_on b5))
 rw[if_neg b5]
 refine .inr ?_
 have h:=wrong_bad e p
 rw[bad_rule h,bad_want h]
 exact ⟨h,by rw[wrong_ll];exact Nat.le_refl _⟩
end Go.Proofs.YtmbdghclhpboaaaGreat
namespace Go.Proofs.YtmbdghclhpboaaaGreat
open Go.RowKit
theorem toksF_len:∀(k:Nat) (l:List UInt8) (p:Pt) (out:List Tk),(toksF k l p out).1.length≤out.length+l.length
 | 0,l,p,out=>Nat.le_add_right _ _
 | k+1,l,p,out=>by
   unfold toksF
   simp only
   cases e:l.drop (skipN l) with
   | nil=>simp
   | cons c r=>
     simp only
     split
     ·rename_i hz
      obtain ⟨h3,-⟩:=nextT_len c r hz
      have h4:(c::r).length≤l.length:=by rw[←e,List.length_drop];omega
      refine Nat.le_trans (toksF_len k _ _ _) ?_
      rw[List.length_append,List.length_drop]
      simp only[List.length_cons,List.length_nil] at h4 ⊢
      omega
     ·simp
theorem toks_len(s:List UInt8):(toks s).1.length≤512:=by
 unfold toks
 split
 ·simp
 ·have:=toksF_len (s.length+1) s Pt.zero []
  simp at this
  omega
theorem tokens_any(s:List UInt8)(w:World):Calls Tryz.prog 217 #[strV s] w (TkPost w (toks s).1 (toks s).2):=by
 rcases Nat.lt_or_ge 512 s.length with h|h
 ·exact tokens_long s w h
 ·exact tokens_ok s w h
structure Dv where
 x:Dc
 A:Option Addr
 cap:Nat
def Dv.v(y:Dv):Value:=.slice y.A y.x.boxes.length y.cap
def dvC(y:Dv):List Value:=(dcC y.x y.v).toList
theorem dv_enc:EncOk dvC 24:=⟨fun _=>rfl,fun y u h=>by
 have h1:=dc_one y.x y.v rfl
 rw[Array.all_eq_true'] at h1
 exact h1 u (by unfold dvC at h;simpa using h)⟩
theorem dv_elem:ElemOk Tryz.prog 82 175 24 240:=⟨Tryz.underlying82,by
 have h:(Tryz.prog.info? 175).map (fun i=>(i.zero,i.size,i.bytes))=some (some (.agg (dcC Dc.zero nilS)),24,240):=by kernel_rfl
 obtain ⟨i,hi,h1,h2,h3⟩:=info_parts h
 exact ⟨i,_,hi,h1,h2,h3,rfl⟩,by omega⟩
theorem own_ne{α β:Type}{enc:α→List Value}{enc':β→List Value}{k k':Nat}{e e':TypeId}{w:World}{base base':Nat}{v v':Value}{l:List α}{l':List β}
  (h:Own enc k e w base v l) (h':Own enc' k' e' w base' v' l') (he:e≠e'):v.ownBlock=none∨v.ownBlock≠v'.ownBlock:=by
 rcases h.2 with ⟨rfl,_⟩|⟨g,cap,cur,rfl,_,hgg,_⟩
 ·exact .inl rfl
 ·refine .inr fun hv=>?_
  rcases h'.2 with ⟨rfl,_⟩|⟨g',cap',cur',rfl,_,hgg',_⟩
  ·cases hv
  ·simp only[Value.ownBlock,Option.some.injEq] at hv
   subst hv
   rw[hgg] at hgg'
   simp only[Option.some.injEq,Obj.cells.injEq] at hgg'
   exact he hgg'.2.1
def Bxs(w:World)(base:Nat)(ds:List Dv):Prop:=∀y∈ds,Own bxC 4 76 w base y.v y.x.boxes
theorem Bxs.gr{w w':World}{base:Nat}{ds:List Dv}(h:Bxs w base ds){row:Option Nat}(k:w.grownBy w' row)(hr:∀y∈ds,y.v.ownBlock=none∨y.v.ownBlock≠row):Bxs w' base ds:=fun y hy=>(h y hy).grown k (hr y hy)
def ParsePost(w:World)(l:List Dc)(f:Flt)(r:Ending)(w':World):Prop:=
 ∃v ds,r=.returned (.tuple #[v,.agg #[.int .i64 (f.err:Int),.int .i64 (f.line:Int),.int .i64 (f.col:Int)]])∧ds.map Dv.x=l∧Own dvC 24 175 w' w.heap.size v ds∧Bxs w' w.heap.size ds∧Below w.heap.size w w'
theorem parse_bad(s:List UInt8)(w:World)(h:(toks s).2.err≠0):Calls Tryz.prog 126 #[strV s] w (ParsePost w (parse s).1 (parse s).2):=by
 have hr:parse s=([],(toks s).2):=by unfold parse;rw[if_pos h]
 rw[hr]
 obtain ⟨w0,hst⟩:∃w0,w.alloc (.cells #[.int .i64 0,.int .i64 0,.int .i64 0] 86)=w0:=⟨_,rfl⟩
 have hb0:Blk w0 w.heap.size 86 #[.int .i64 0,.int .i64 0,.int .i64 0]:=by rw[←hst];exact Blk.new _ _ _
 have hw0:Below w.heap.size w w0:=by rw[←hst];exact (Below.refl _ w).alloc (Nat.le_refl _) _
 have HT:=Lib.hid (tokens_any s w0)
 obtain ⟨⟨er,y,x⟩,hf⟩:∃f,(toks s).2=f:=⟨_,rfl⟩
 obtain ⟨L,hl⟩:∃L,(toks s).1=L:=⟨_,rfl⟩
 rw[hf] at HT h ⊢
 rw[hl] at HT
 have HB0:=Lib.hid hb0
 have HW0:=Lib.hid hw0
 have hen:((er:Int) != 0)=true:=by simpa using h
 clear hr hb0 hw0 hf hl h
 go_enter Tryz.func126,Tryz.ntmps126
 go_wp2_with fail
 refine HT.out.mono ?_
 rintro r w1 ⟨v,rfl,ho,hw1⟩
 have hb1:=HB0.out.below hw1 HB0.out.lt
 have HB1:=Lib.hid (hb1.alloc (.cells #[.int .i64 (er:Int),.int .i64 (y:Int),.int .i64 (x:Int)] 86))
 have HF1:=Lib.hid (Blk.new w1 86 #[.int .i64 (er:Int),.int .i64 (y:Int),.int .i64 (x:Int)])
 have HW1:=Lib.hid ((HW0.out.trans (hw1.mono HW0.out.size)).alloc (HW0.out.trans (hw1.mono HW0.out.size)).size (.cells #[.int .i64 (er:Int),.int .i64 (y:Int),.int .i64 (x:Int)] 86))
 have hne1:=hb1.lt
 clear ho hw1 hb1
 go_wp2_with fail
 obtain ⟨w6,hw6⟩:∃w6,w1.alloc (.cells #[.int .i64 (er:Int),.int .i64 (y:Int),.int .i64 (x:Int)] 86)=w6:=⟨_,rfl⟩
 rw[hw6] at HB1 HF1 HW1 ⊢
 obtain ⟨⟨a0,a1,a2⟩,-⟩:=three HF1.out
 obtain ⟨⟨r0,r1,r2⟩,f0,f1,f2⟩:=three HB1.out
 have hlt6:=HB1.out.lt
 clear hw6
 go_region
 all_goals
  go_wp2_with fail
  refine row_ret3 (ty:=86) rfl w.heap.size 86 _ rfl (Blk.drewN (three_put HB1.out (.int .i64 (er:Int)) (.int .i64 (y:Int)) (.int .i64 (x:Int))) 1) Tryz.underlying86 rfl (by kernel_rfl) rfl ?_
  exact ⟨_,[],rfl,rfl,Own.nil,fun y hy=>(by cases hy),below_drewN (below_put3 HW1.out (Nat.le_refl _) _ _ _) 1⟩
theorem decl_fill(x:Dc)(v:Value):Instr.fill (fun i=>some (i * 24,24)) ((Array.range (1 * 24)).map ((Value.agg (dcC Dc.zero nilS)).cells[· % (Value.agg (dcC Dc.zero nilS)).cells.size]!)) [(0,Value.agg (dcC x v))]=some (dcC x v):=by kernel_rfl
theorem decl_lit{ops:Array Oper}{rest:List Oper}{o:Oper}{f:Act}{w:World}{Q:Exit→Act→World→Prop}(hg:o.guard=none)(y:Operand)(ho:o.op=.buildSlice 82 1 #[(0,y)])(x:Dc)(v:Value)(hx:f.eval y=.agg (dcC x v))
  (h:wpList Tryz.prog ops Q rest (f.put o.dst (.slice (some ⟨w.heap.size,0,none⟩) 1 1)) (w.alloc (.cells (dcC x v) 175))):wpList Tryz.prog ops Q (o::rest) f w:=by
 obtain ⟨ie,hie,hiz,his,hib⟩:∃ie,Tryz.prog.info? 175=some ie∧ie.zero=some (.agg (dcC Dc.zero nilS))∧ie.size=24∧ie.bytes=240:=info_parts (by kernel_rfl)
 have hp:((#[(0,y)]:Array (Nat×Operand)).map fun (i,x)=>(i,f.eval x)).toList=[(0,Value.agg (dcC x v))]:=by simp[hx]
 refine wpList_buildSlice hg 82 175 1 _ ho (dcC x v) ie _ Tryz.underlying82 hie hiz (by rw[his];decide) (by rw[his];decide) ?_ h
 rw[hp,his]
 exact decl_fill x v
def prMs(g:Nat)(n:Nat)(w:World):Nat:=2 * (n - lxAt g w)+(match w.cell? ⟨g,4,none⟩ with
 | some (.int _ 0)=>1
 | _=>0)
theorem PrB.ms{w:World}{g:Nat}{L:List Tk}{e:Nat×Nat}{p:Pr}(h:PrB w g L e p):prMs g L.length w=2 * p.l.length+(if p.bad=none then 1 else 0):=by
 obtain ⟨v,i,hs,hi,hp,hb⟩:=h.at_
 have c4:w.cell? ⟨g,4,none⟩=some (.int .i64 ((badN p.bad).1:Int)):=hb.is 4 rfl
 unfold prMs
 rw[h.at.1,c4]
 cases hb:p.bad with
 | none=>rfl
 | some b=>rfl
theorem pAllF_stop(e:Nat×Nat)(k:Nat)(p:Pr)(out:List Dc)(h:p.l=[]∨p.bad≠none):pAllF e k p out=(out,p):=by
 cases k with
 | zero=>rfl
 | succ k=>unfold pAllF;rw[if_pos h]
theorem pAllF_next(e:Nat×Nat)(k:Nat)(p:Pr)(out:List Dc)(h1:p.l≠[])(h2:p.bad=none):pAllF e (k+1) p out=pAllF e k (pDecl e p).2 (out++[(pDecl e p).1]):=by
 conv=>lhs;unfold pAllF
 rw[if_neg (by simp[h1,h2])]
theorem parse_fine(s:List UInt8)(w:World)(h:(toks s).2.err=0):Calls Tryz.prog 126 #[strV s] w (ParsePost w (parse s).1 (parse s).2):=by
 obtain ⟨R,hR⟩:∃R,R=pAllF ((endP s).line,(endP s).col) ((toks s).1.length+1) ⟨(toks s).1,none⟩ []:=⟨_,rfl⟩
 have hr:parse s=match R.2.bad with
   | none=>(R.1,Flt.ok)
   | some b=>([],⟨31,b.1,b.2⟩):=by unfold parse;rw[if_neg (by omega),hR];rfl
 obtain ⟨Q,hQ⟩:∃Q:List Dc×Flt,Q=(match R.2.bad with
   | none=>(R.1,Flt.ok)
   | some b=>([],⟨31,b.1,b.2⟩)):=⟨_,rfl⟩
 rw[hr,←hQ]
 have HQ:=Lib.hid hQ
 clear hQ
 have hs5:s.length≤512:=by
  rcases Nat.lt_or_ge 512 s.length with h1|h1
  ·unfold toks at h
   rw[if_pos h1] at h
   cases h
  ·exact h1
 obtain ⟨w0,hst⟩:∃w0,w.alloc (.cells #[.int .i64 0,.int .i64 0,.int .i64 0] 86)=w0:=⟨_,rfl⟩
 have hb0:Blk w0 w.heap.size 86 #[.int .i64 0,.int .i64 0,.int .i64 0]:=by rw[←hst];exact Blk.new _ _ _
 have hw0:Below w.heap.size w w0:=by rw[←hst];exact (Below.refl _ w).alloc (Nat.le_refl _) _
 have HT:=Lib.hid (tokens_any s w0)
 have hLL:=toks_len s
 obtain ⟨⟨er,fy,fx⟩,hf⟩:∃f,(toks s).2=f:=⟨_,rfl⟩
 obtain ⟨L,hl⟩:∃L,(toks s).1=L:=⟨_,rfl⟩
 obtain ⟨y,hy⟩:∃y,(endP s).line=y:=⟨_,rfl⟩
 obtain ⟨x,hx⟩:∃x,(endP s).col=x:=⟨_,rfl⟩
 have HE:=Lib.hid (fun w=>end_ok s w (by omega))
 rw[hf] at HT h
 rw[hl] at HT hLL hR
 rw[hy,hx] at hR HE
 simp only at h
 subst h
 have HB0:=Lib.hid hb0
 have HW0:=Lib.hid hw0
 have HRR:=Lib.hid hR
 have HLL:=Lib.hid hLL
 clear hr hb0 hw0 hf hl hR hLL hy hx hs5
 go_enter Tryz.func126,Tryz.ntmps126
 go_wp2_with fail
 refine HT.out.mono ?_
 rintro r w1 ⟨v,rfl,ho,hw1⟩
 obtain ⟨A0,cap0,hv⟩:=ho.form
 subst hv
 have hb1:=HB0.out.below hw1 HB0.out.lt
 have hwa:=(HW0.out.trans (hw1.mono HW0.out.size))
 have HB1:=Lib.hid (hb1.alloc (.cells #[.int .i64 0,.int .i64 (fy:Int),.int .i64 (fx:Int)] 86))
 have HW1:=Lib.hid (hwa.alloc hwa.size (.cells #[.int .i64 0,.int .i64 (fy:Int),.int .i64 (fx:Int)] 86))
 have HS1:=Lib.hid ((ho.sl.below ((Below.refl _ w1).alloc (Nat.le_refl _) (.cells #[.int .i64 0,.int .i64 (fy:Int),.int .i64 (fx:Int)] 86))).more (B':=(w1.alloc (.cells #[.int .i64 0,.int .i64 (fy:Int),.int .i64 (fx:Int)] 86)).heap.size) (by simp))
 clear ho hw1 hb1 hwa
 go_wp2_with fail
 refine (HE.out _).mono ?_
 rintro r w3 ⟨rfl,hw3⟩
 have hb3:=HB1.out.below hw3 HB1.out.lt
 have hW3:=HW1.out.trans (hw3.mono HW1.out.size)
 have hs3:=(HS1.out.below hw3).more hw3.size
 clear hw3
 obtain ⟨g,hg⟩:∃g,g=w3.heap.size:=⟨_,rfl⟩
 obtain ⟨w4,hw4⟩:∃w4,w3.alloc (.cells #[.slice A0 L.length cap0,.int .i64 0,.int .i64 (y:Int),.int .i64 (x:Int),.int .i64 0,.int .i64 0,.int .i64 0] 317)=w4:=⟨_,rfl⟩
 have hp4:PrB w4 g L (y,x) ⟨L,none⟩:=by
  refine ⟨.slice A0 L.length cap0,0,?_,Nat.zero_le _,rfl,?_⟩
  ·rw[hg,←hw4];exact hs3.below ((Below.refl _ w3).alloc (Nat.le_refl _) _)
  ·rw[hg,←hw4];exact Blk.new _ _ _
 have HP4:=Lib.hid hp4
 have HB4:=Lib.hid (show Blk w4 w.heap.size 86 #[.int .i64 0,.int .i64 0,.int .i64 0] by rw[←hw4];exact hb3.alloc _)
 have HW4:=Lib.hid (show Below w.heap.size w w4 by rw[←hw4];exact hW3.alloc hW3.size _)
 have HGL:=Lib.hid (show w.heap.size<g by rw[hg];exact hb3.lt)
 clear hp4 hb3 hW3 hs3
 go_wp2_with fail
 rw[←hg]
 clear hg hw4
 go_loopw [7] (fun ov wr=>∃(k:Nat) (p':Pr) (ds:List Dv) (A:Option Addr) (cap:Nat),(p'.bad=none→p'.l.length≤k)∧ds.length+p'.l.length≤L.length+(if p'.bad=none then 0 else 1)∧ov=.slice A ds.length cap∧Hid (pAllF (y,x) (k+1) p' (ds.map Dv.x)=R)∧Hid (PrB wr g L (y,x) p')∧Hid (Own dvC 24 175 wr (g+1) (.slice A ds.length cap) ds)∧Hid (Bxs wr w.heap.size ds)∧Hid (Blk wr w.heap.size 86 #[.int .i64 0,.int .i64 0,.int .i64 0])∧Hid (Below w.heap.size w wr)) (fun _ wr=>prMs g L.length wr)
 case atStart=>exact ⟨L.length,⟨L,none⟩,[],none,0,fun _=>Nat.le_refl _,by simp,rfl,Lib.hid HRR.out.symm,HP4,Lib.hid Own.nil,Lib.hid (fun y hy=>by cases hy),HB4,HW4⟩
 case round=>
  obtain ⟨k,p',ds,A,cap,hk,hdl,rfl,HM,HP,HO,HX,HB,HW⟩:=hrel
  obtain ⟨v,i,hs,hi,hpl,hblk⟩:=HP.out.at_
  have c1:wr.cell? ⟨g,1,none⟩=some (.int .i64 (i:Int)):=hblk.is 1 rfl
  have c4:wr.cell? ⟨g,4,none⟩=some (.int .i64 ((badN p'.bad).1:Int)):=hblk.is 4 rfl
  have c5:wr.cell? ⟨g,5,none⟩=some (.int .i64 ((badN p'.bad).2.1:Int)):=hblk.is 5 rfl
  have c6:wr.cell? ⟨g,6,none⟩=some (.int .i64 ((badN p'.bad).2.2:Int)):=hblk.is 6 rfl
  obtain ⟨⟨r0,r1,r2⟩,f0,f1,f2⟩:=three HB.out
  have hltb:=HB.out.lt
  have hneg:w.heap.size≠g:=Nat.ne_of_lt HGL.out
  have HI:=Lib.hid hi
  have HPL:=Lib.hid hpl
  have HK:=Lib.hid hk
  have HDL:=Lib.hid hdl
  clear hs hblk hi hpl hk hdl
  by_cases hstop:p'.l=[]∨p'.bad≠none
  ·have hfin:R=(ds.map Dv.x,p'):=by rw[←HM.out];exact pAllF_stop _ _ _ _ hstop
   have HFIN:=Lib.hid hfin
   have HNB:=Lib.hid (HO.out.ne_blk HB.out (by decide))
   clear hfin
   cases hbad:p'.bad with
   | none=>
     have hl0:p'.l=[]:=by
      rcases hstop with h1|h1
      ·exact h1
      ·exact absurd hbad h1
     have hil:¬i<L.length:=by
      intro h1
      have:=HPL.out
      rw[hl0] at this
      have:=congrArg List.length this
      simp at this
      omega
     have hii:¬(i:Int)<(L.length:Int):=by omega
     rw[hbad] at c4
     have d4:wr.cell? ⟨g,4,none⟩=some (.int .i64 0):=c4
     have HF:=Lib.hid (show Q=(ds.map Dv.x,Flt.ok) by rw[HQ.out,HFIN.out];simp only[hbad])
     clear c4 c5 c6 hstop hil
     go_wp2_with fail
     rw[HF.out]
     refine row_ret3 (ty:=86) rfl w.heap.size 86 _ rfl (three_put HB.out (.int .i64 0) (.int .i64 0) (.int .i64 0)) Tryz.underlying86 rfl (by kernel_rfl) rfl ?_
     refine ⟨_,ds,rfl,rfl,(own_put (own_put (own_put HO.out HNB.out 0 _) HNB.out 1 _) HNB.out 2 _).more (by have:=HGL.out;omega),?_,below_put3 HW.out (Nat.le_refl _) _ _ _⟩
     intro y hy
     have h1:=HX.out y hy
     have h2:=h1.ne_blk HB.out (by decide)
     exact own_put (own_put (own_put h1 h2 0 _) h2 1 _) h2 2 _
   | some b=>
     rw[hbad] at c4 c5 c6
     have d4:wr.cell? ⟨g,4,none⟩=some (.int .i64 31):=c4
     have d5:wr.cell? ⟨g,5,none⟩=some (.int .i64 (b.1:Int)):=c5
     have d6:wr.cell? ⟨g,6,none⟩=some (.int .i64 (b.2:Int)):=c6
     have HF:=Lib.hid (show Q=([],⟨31,b.1,b.2⟩) by rw[HQ.out,HFIN.out];simp only[hbad])
     obtain ⟨b1,b2⟩:=b
     simp only at d5 d6 HF
     clear c4 c5 c6 hstop
     by_cases hil:i<L.length
     ·have hii:(i:Int)<(L.length:Int):=by omega
      go_wp2_with fail
      go_region
      all_goals
       go_wp2_with fail
       rw[HF.out]
       refine row_ret3 (ty:=86) rfl w.heap.size 86 _ rfl (Blk.drewN (three_put HB.out (.int .i64 31) (.int .i64 (b1:Int)) (.int .i64 (b2:Int))) 1) Tryz.underlying86 rfl (by kernel_rfl) rfl ?_
       exact ⟨_,[],rfl,rfl,Own.nil,fun y hy=>(by cases hy),below_drewN (below_put3 HW.out (Nat.le_refl _) _ _ _) 1⟩
     ·have hii:decide ((i:Int)<(L.length:Int))=false:=by simpa using hil
      go_wp2_with fail
      go_region
      all_goals
       go_wp2_with fail
       rw[HF.out]
       refine row_ret3 (ty:=86) rfl w.heap.size 86 _ rfl (Blk.drewN (three_put HB.out (.int .i64 31) (.int .i64 (b1:Int)) (.int .i64 (b2:Int))) 1) Tryz.underlying86 rfl (by kernel_rfl) rfl ?_
       exact ⟨_,[],rfl,rfl,Own.nil,fun y hy=>(by cases hy),below_drewN (below_put3 HW.out (Nat.le_refl _) _ _ _) 1⟩
  ·have hl0:p'.l≠[]:=fun h1=>hstop (.inl h1)
   have hbad:p'.bad=none:=by
    cases hb:p'.bad with
    | none=>rfl
    | some b=>exact absurd (show p'.bad≠none by rw[hb];simp) (fun h1=>hstop (.inr h1))
   have hii:(i:Int)<(L.length:Int):=by
    have:i<L.length:=by
     rcases Nat.lt_or_ge i L.length with h1|h1
     ·exact h1
     ·exact absurd (by rw[HPL.out];exact List.drop_eq_nil_of_le h1) hl0
    omega
   rw[hbad] at c4
   have d4:wr.cell? ⟨g,4,none⟩=some (.int .i64 0):=c4
   have hnext:R=pAllF (y,x) k (pDecl (y,x) p').2 (ds.map Dv.x++[(pDecl (y,x) p').1]):=by rw[←HM.out];exact pAllF_next _ _ _ _ hl0 hbad
   have hon:=decl_on (y,x) p'
   have hpos:0<p'.l.length:=List.length_pos_iff.2 hl0
   have HD:=pdecl_ok wr g L (y,x) p' HP.out (by have:=HLL.out;omega)
   obtain ⟨⟨d,p2⟩,hdp⟩:∃z,pDecl (y,x) p'=z:=⟨_,rfl⟩
   rw[hdp] at HD hnext hon
   simp only at HD hnext hon
   have hk1:=HK.out hbad
   have hd1:=HDL.out
   rw[hbad] at hd1
   simp only[if_true] at hd1
   obtain ⟨k1,hkk⟩:∃k1,k=k1+1:=⟨k - 1,by omega⟩
   subst hkk
   have HDD:=Lib.hid HD
   have HNX:=Lib.hid hnext
   have HON:=Lib.hid hon
   have HPOS:=Lib.hid hpos
   have HD1:=Lib.hid hd1
   have HK1:=Lib.hid hk1
   have HBAD:=Lib.hid hbad
   have hdl:ds.length≤512:=by have:=HLL.out;omega
   clear HD hnext hon hpos hd1 hk1 hl0 hdp hstop c4 c5 c6 hbad
   go_wp2_with fail
   refine HDD.out.mono ?_
   rintro r w5 ⟨u,rfl,hob,hp5,hg5⟩
   obtain ⟨Ab,capb,hu⟩:=hob.form
   subst hu
   have hbk:∃cs,Blk wr g 317 cs:=by obtain ⟨v,i,_,_,_,hb⟩:=HP.out.at_;exact ⟨_,hb⟩
   obtain ⟨cs,hbk⟩:=hbk
   have HO5:=Lib.hid (HO.out.grown hg5 (.inr (HO.out.ne_blk hbk (by decide))))
   have HX5:=Lib.hid (HX.out.gr hg5 (fun y hy=>.inr ((HX.out y hy).ne_blk hbk (by decide))))
   have HB5:=Lib.hid (HB.out.grown hg5 (by simp;exact hneg))
   have HW5:=Lib.hid (HW.out.trans (below_of_gr hg5 (Nat.le_of_lt HGL.out) HW.out.size))
   have HOB:=Lib.hid (hob.more HW.out.size)
   have HP5:=Lib.hid hp5
   clear hob hp5 hg5 hbk
   have hltw5:=HW5.out.size
   go_wp2_with (first
    | (refine decl_lit rfl (.tmp 39) rfl d (.slice Ab d.boxes.length capb) rfl ?_)
    | (at_builtin;refine app_one dv_elem dv_enc rfl (.tmp 37) (.tmp 40) rfl rfl (HO5.out.alloc _) ⟨d,Ab,capb⟩ w5.heap.size 1 rfl (Blk.lay (Blk.new w5 175 (dcC d (.slice Ab d.boxes.length capb)))) (by unfold maxLen;omega) (by omega) (by have:=HP5.out.lt;simp;omega) ?_;intro g' cap' w8 hown8 hgrow8 hat8 hlt8))
   have hbase:∀b,(Value.slice A ds.length cap).ownBlock=some b→w.heap.size≤b:=fun b hb=>by have:=(HO5.out.lt b hb).1;have:=HGL.out;omega
   have hp8:PrB w8 g L (y,x) p2:=(HP5.out.below ((Below.refl _ w5).alloc (Nat.le_refl _) (.cells (dcC d (.slice Ab d.boxes.length capb)) 175))).own hgrow8 (fun b hb=>by have:=(HO5.out.lt b hb).1;omega)
   have e0:=HON.out
   have e1:=HPOS.out
   have e2:=HD1.out
   have e3:=HK1.out
   refine ⟨⟨k1,p2,ds++[⟨d,Ab,capb⟩],some ⟨g',0,none⟩,cap',?_,?_,by rw[List.length_append];rfl,Lib.hid ?_,Lib.hid hp8,Lib.hid (by rw[List.length_append];exact hown8),Lib.hid ?_,Lib.hid ?_,Lib.hid ?_⟩,?_⟩
   ·intro hb
    rcases e0 with h1|h1
    ·omega
    ·exact absurd hb h1.1
   ·rw[List.length_append,List.length_cons,List.length_nil]
    split
    ·rename_i hb
     rcases e0 with h1|h1
     ·omega
     ·exact absurd hb h1.1
    ·rcases e0 with h1|h1
     ·omega
     ·have:=h1.2
      omega
   ·rw[List.map_append]
    exact HNX.out.symm
   ·intro z hz
    rw[List.mem_append,List.mem_singleton] at hz
    rcases hz with hz|rfl
    ·have h1:=HX5.out z hz
     exact (h1.alloc _).grown hgrow8 (own_ne (h1.alloc (.cells (dcC d (.slice Ab d.boxes.length capb)) 175)) (HO5.out.alloc _) (by decide))
    ·exact (HOB.out.alloc _).grown hgrow8 (own_ne (HOB.out.alloc (.cells (dcC d (.slice Ab d.boxes.length capb)) 175)) (HO5.out.alloc _) (by decide))
   ·exact (HB5.out.alloc _).grown hgrow8 (fun e=>HO5.out.ne_blk HB5.out (by decide) e.symm)
   ·exact (HW5.out.alloc hltw5 _).grown hgrow8 (by simp;omega) hbase
   ·rw[hp8.ms,HP.out.ms,if_pos HBAD.out]
    split
    ·rename_i hb
     rcases e0 with h1|h1
     ·omega
     ·exact absurd hb h1.1
    ·rcases e0 with h1|h1
     ·omega
     ·have:=h1.2
      omega
theorem parse_ok(s:List UInt8)(w:World):Calls Tryz.prog 126 #[strV s] w (ParsePost w (parse s).1 (parse s).2):=by
 by_cases h:(toks s).2.err=0
 ·exact parse_fine s w h
 ·exact parse_bad s w h
end Go.Proofs.YtmbdghclhpboaaaGreat
namespace Go.Proofs.YtmbdghclhpboaaaGreat
open Ev
abbrev tCk:TypeId:=325
abbrev tRu:TypeId:=180
abbrev tBx:TypeId:=76
abbrev stK(l:List UInt8):Value:=.string ⟨l.toArray⟩
abbrev naK(n:Nat):Value:=.int .i64 (n:Int)
theorem keyE_s:KeyE ev 9 stK:=keyE_str ⟨_,rfl,rfl⟩
theorem mapT_nums:MapT ev 321 9 (iA 0):=⟨_,_,_,_,rfl,rfl,rfl,rfl,rfl⟩
theorem mapT_regs:MapT ev 323 9 (.lit (.slice none 0 0)):=⟨_,_,_,_,rfl,rfl,rfl,rfl,rfl⟩
theorem app_bx:AppT ev 171 tBx 4:=⟨⟨_,rfl,rfl⟩,_,_,rfl,rfl,rfl,rfl,by decide⟩
theorem app_ru:AppT ev 89 tRu 7:=⟨⟨_,rfl,rfl⟩,_,_,rfl,rfl,rfl,rfl,by decide⟩
theorem bxC_len(b:Bx):(bxC b).length=4:=rfl
structure Rgn where
 n:List UInt8
 v:Value
 l:List Bx
structure Rue where
 x:Rl
 A:Option Addr
 m:Nat
def Rue.v(y:Rue):Value:=.slice y.A y.x.boxes.length y.m
def ruC(y:Rue):List Value:=[naK y.x.kind,naK y.x.roles,naK y.x.lo,naK y.x.hi,naK y.x.labels,y.v,naK y.x.zoom]
theorem ruC_len(y:Rue):(ruC y).length=7:=rfl
def boxPool(pl:List (Value×List Bx)):Res:=Res.star (pl.map fun p=>RoS bxC p.1 p.2)
theorem pool_read{pl:List (Value×List Bx)}{p:Value×List Bx}(hp:p∈pl)(w:World)(S:Nat→Prop)(h:(boxPool pl).at_ w S):∃oa m,p.1=.slice oa p.2.length m∧(p.2≠[]→∃b off,oa=some ⟨b,off,none⟩∧Lay w b off (p.2.flatMap bxC)):=by
 obtain ⟨i,hi⟩:=List.getElem?_of_mem hp
 obtain ⟨S1,S2,h1,_⟩:=stars_at (i:=i) (r:=RoS bxC p.1 p.2) h (by rw[List.getElem?_map,hi];rfl)
 exact RoS.sl h1
theorem pool_snoc{pl:List (Value×List Bx)}{v:Value}{l:List Bx}(w:World)(S1 S2:Nat→Prop)(h1:(boxPool pl).at_ w S1)(h2:(RoS bxC v l).at_ w S2)(hd:∀b,S1 b→S2 b→False):(boxPool (pl++[(v,l)])).at_ w (fun b=>S1 b∨S2 b):=by
 show stars ((pl++[(v,l)]).map fun p=>RoS bxC p.1 p.2) w _
 rw[List.map_append]
 exact stars_append.2 ⟨S1,S2,h1,⟨S2,fun _=>False,h2,fun _ h=>h,fun _ _ h=>h,fun b=>by simp⟩,hd,fun b=>Iff.rfl⟩
def ckHb(c:Ck)(b:Int)(gs:List Rgn)(pl:List (Value×List Bx))(rv:Value)(rs:List Rue):List AObj:=
 [.cells [.map 1,.map 4,.lit rv,iA b,iA c.fault.err,iA c.fault.line,iA c.fault.col] tCk,.map [(iA 1,.map 2,0),(iA 2,.map 3,1)] 2,.mrow (mE stK naK c.roles),.mrow (mE stK naK c.labels),.mrow (mE stK id (gs.map fun g=>(g.n,g.v))),.res (boxPool pl),.res (OwnR ruC 7 tRu rv rs)]
def ckH(c:Ck)(gs:List Rgn)(pl:List (Value×List Bx))(rv:Value)(rs:List Rue):List AObj:=ckHb c c.boxes gs pl rv rs
def wA(x:Who):List AV:=[bA x.any,.lit (stK x.name),iA x.n,iA x.line,iA x.col]
theorem ckwrong{c:Ck}{b:Int}{gs:List Rgn}{pl:List (Value×List Bx)}{rv:Value}{rs:List Rue}{e l k:Nat} :
  CP [] 416 [.ptr 0 0,iA e,.agg [iA l,iA k]] (ckHb c b gs pl rv rs) (fun v H'=>v=undefV∧∃G,H'=ckHb (c.wrong e l k) b gs pl rv rs++G):=by
 refine fn_ok ev_ok rfl ?_
 repeat' ((conv=>whnf);with_reducible apply brP_of<;>intro _)
 all_goals (try conv=>whnf)
 all_goals
  rename_i h
  unfold Ck.wrong
  simp only[beq_iff_eq,beq_eq_false_iff_ne,Int.natCast_eq_zero] at h
 ·rw[if_pos (by omega)];exact ⟨rfl,_,rfl⟩
 ·rw[if_neg (by omega)];exact ⟨rfl,_,rfl⟩
theorem wrong_boxes{c:Ck}{e l k:Nat}:(c.wrong e l k).boxes=c.boxes:=by unfold Ck.wrong;split<;>rfl
theorem ckwrong0{c:Ck}{gs:List Rgn}{pl:List (Value×List Bx)}{rv:Value}{rs:List Rue}{e l k:Nat} :
  CP [] 416 [.ptr 0 0,iA e,.agg [iA l,iA k]] (ckH c gs pl rv rs) (fun v H'=>v=undefV∧∃G,H'=ckH (c.wrong e l k) gs pl rv rs++G):=by
 unfold ckH
 rw[wrong_boxes]
 exact ckwrong
theorem aget_assoc{l:List (List UInt8×Nat)}{k:List UInt8}:aget k l=assoc l k:=by
 unfold aget assoc
 have:∀(l:List (List UInt8×Nat)) (i:Nat),(afind k l i).map (·.2)=(l.find? (fun x=>decide (x.1=k))).map (·.2):=by
  intro l
  induction l with
  | nil=>intro i;rfl
  | cons p l ih=>
    intro i
    unfold afind
    by_cases h:k=p.1
    ·rw[if_pos h,List.find?_cons_of_pos (by simp[h])];rfl
    ·rw[if_neg h,List.find?_cons_of_neg (by simp[Ne.symm h])];exact ih _
 exact this l 0
theorem shlN{a:Nat}(h:a≤7):IntKind.i64.wrap (1 * 2 ^ min (a:Int).toNat IntKind.i64.bits)=((2 ^ a:Nat):Int):=by
 rw[shl1 (l:=(a:Int)) (by omega)]
 unfold p2
 simp
theorem ckSet_any{k:Nat}{x:Who}{c:Ck}(h:x.any=true):ckSet k x c=(255,c):=by unfold ckSet;rw[if_pos h]
theorem ckSet_hi{k a:Nat}{x:Who}{c:Ck}{l:List (List UInt8×Nat)}(hl:c.names k=l)(h:x.any=false)(hn:(!(⟨x.name.toArray⟩:ByteArray).toList==(⟨#[]⟩:ByteArray).toList)=true)(ha:aget x.name l=some a)(h7:decide ((a:Int)>7)=true):ckSet k x c=(0,c.wrong 33 x.line x.col):=by
 have hn:x.name≠[]:=by simpa [ByteArray.toList_eq] using hn
 have h7:=of_decide_eq_true h7
 rw[aget_assoc] at ha
 unfold ckSet
 simp only[h,Bool.false_eq_true,if_false,hn,ne_eq,not_false_eq_true,if_true,hl,ha,Option.getD_some,reduceCtorEq,and_false]
 rw[if_pos (by omega)]
theorem ckSet_lo{k a:Nat}{x:Who}{c:Ck}{l:List (List UInt8×Nat)}(hl:c.names k=l)(h:x.any=false)(hn:(!(⟨x.name.toArray⟩:ByteArray).toList==(⟨#[]⟩:ByteArray).toList)=true)(ha:aget x.name l=some a)(h7:decide ((a:Int)>7)=false):ckSet k x c=(2 ^ a,c)∧a≤7:=by
 have hn:x.name≠[]:=by simpa [ByteArray.toList_eq] using hn
 have h7:=of_decide_eq_false h7
 rw[aget_assoc] at ha
 unfold ckSet
 simp only[h,Bool.false_eq_true,if_false,hn,ne_eq,not_false_eq_true,if_true,hl,ha,Option.getD_some,reduceCtorEq,and_false]
 rw[if_neg (by omega)]
 exact ⟨rfl,by omega⟩
theorem ckSet_no{k:Nat}{x:Who}{c:Ck}{l:List (List UInt8×Nat)}(hl:c.names k=l)(h:x.any=false)(hn:(!(⟨x.name.toArray⟩:ByteArray).toList==(⟨#[]⟩:ByteArray).toList)=true)(ha:aget x.name l=none):ckSet k x c=(1,c.wrong 21 x.line x.col):=by
 have hn:x.name≠[]:=by simpa [ByteArray.toList_eq] using hn
 rw[aget_assoc] at ha
 unfold ckSet
 simp[h,hn,hl,ha]
theorem ckSet_nhi{k:Nat}{x:Who}{c:Ck}(h:x.any=false)(hn:(!(⟨x.name.toArray⟩:ByteArray).toList==(⟨#[]⟩:ByteArray).toList)=false)(h7:decide ((x.n:Int)>7)=true):ckSet k x c=(0,c.wrong 33 x.line x.col):=by
 have hn:x.name=[]:=by simpa [ByteArray.toList_eq] using hn
 have h7:=of_decide_eq_true h7
 unfold ckSet
 simp only[h,Bool.false_eq_true,if_false,hn,ne_eq,not_true_eq_false,false_and]
 rw[if_pos (by omega)]
theorem ckSet_nlo{k:Nat}{x:Who}{c:Ck}(h:x.any=false)(hn:(!(⟨x.name.toArray⟩:ByteArray).toList==(⟨#[]⟩:ByteArray).toList)=false)(h7:decide ((x.n:Int)>7)=false):ckSet k x c=(2 ^ x.n,c)∧x.n≤7:=by
 have hn:x.name=[]:=by simpa [ByteArray.toList_eq] using hn
 have h7:=of_decide_eq_false h7
 unfold ckSet
 simp only[h,Bool.false_eq_true,if_false,hn,ne_eq,not_true_eq_false,false_and]
 rw[if_neg (by omega)]
 exact ⟨rfl,by omega⟩
theorem ckset{c:Ck}{gs:List Rgn}{pl:List (Value×List Bx)}{rv:Value}{rs:List Rue}{k:Nat}{x:Who}(hk:k=1∨k=2) :
  CP [] 417 [.ptr 0 0,iA k,.agg (wA x)] (ckH c gs pl rv rs) (fun v H'=>v=iA (ckSet k x c).1∧∃G,H'=ckH (ckSet k x c).2 gs pl rv rs++G):=by
 rcases hk with rfl|rfl
 ·refine fn_ok ev_ok rfl ?_
  repeat' ((conv=>whnf);first|with_reducible apply brP_of<;>intro _|refine WpS.drawn ev_ok rfl rfl ?_|with_reducible refine And.intro (AgP.mk ⟨_,rfl,rfl⟩) ?_|refine OpP.look2 _ mapT_nums keyE_s rfl rfl rfl rfl (fun a ha=>?_) (fun ha=>?_)|refine And.intro (AgP.look _ mapT_nums keyE_s rfl rfl rfl rfl rfl (by assumption) rfl rfl) ?_|(refine (ckwrong0 (c:=c) (gs:=gs) (pl:=pl) (rv:=rv) (rs:=rs) (e:=33) (l:=x.line) (k:=x.col)).use [0,1,2,3,4,5,6] rfl rfl ⟨⟨_,rfl,rfl⟩,⟨_,rfl,rfl⟩,⟨_,rfl,rfl⟩,⟨_,rfl,rfl⟩,⟨_,rfl,rfl⟩,⟨_,rfl,kp⟩,⟨_,rfl,kp⟩,tU⟩ ?_;rintro _ _ ⟨rfl,G,rfl⟩;refine ⟨[],?_⟩)|(refine (ckwrong0 (c:=c) (gs:=gs) (pl:=pl) (rv:=rv) (rs:=rs) (e:=21) (l:=x.line) (k:=x.col)).use [0,1,2,3,4,5,6] rfl rfl ⟨⟨_,rfl,rfl⟩,⟨_,rfl,rfl⟩,⟨_,rfl,rfl⟩,⟨_,rfl,rfl⟩,⟨_,rfl,rfl⟩,⟨_,rfl,kp⟩,⟨_,rfl,kp⟩,tU⟩ ?_;rintro _ _ ⟨rfl,G,rfl⟩;refine ⟨[],?_⟩)|(refine (ckwrong0 (c:=(c.wrong 21 x.line x.col)) (gs:=gs) (pl:=pl) (rv:=rv) (rs:=rs) (e:=33) (l:=x.line) (k:=x.col)).use [0,1,2,3,4,5,6] rfl rfl ⟨⟨_,rfl,rfl⟩,⟨_,rfl,rfl⟩,⟨_,rfl,rfl⟩,⟨_,rfl,rfl⟩,⟨_,rfl,rfl⟩,⟨_,rfl,kp⟩,⟨_,rfl,kp⟩,tU⟩ ?_;rintro _ _ ⟨rfl,G,rfl⟩;refine ⟨[],?_⟩)|refine OpP.shl rfl rfl (by omega) ?_)
  all_goals (try conv=>whnf)
  ·rw[ckSet_any (by assumption)];exact ⟨rfl,_,rfl⟩
  ·rename_i h1 h2 h3
   rw[ckSet_hi (k:=1) (c:=c) rfl h1 h2 ha h3];exact ⟨rfl,_,rfl⟩
  ·rename_i h1 h2 h3
   obtain ⟨e1,e2⟩:=ckSet_lo (k:=1) (c:=c) rfl h1 h2 ha h3
   rw[e1,shlN e2];exact ⟨rfl,_,rfl⟩
  ·rename_i h1 h2
   rw[ckSet_no (k:=1) (c:=c) rfl h1 h2 ha];exact ⟨congrArg iA (show IntKind.i64.wrap (1 * 2 ^ min (Int.toNat 0) IntKind.i64.bits)=((1:Nat):Int) by decide),_,rfl⟩
  ·rename_i h1 h2 h3
   rw[ckSet_nhi h1 h2 h3];exact ⟨rfl,_,rfl⟩
  ·rename_i h1 h2 h3
   obtain ⟨e1,e2⟩:=ckSet_nlo (k:=1) h1 h2 h3
   rw[e1,shlN e2];exact ⟨rfl,_,rfl⟩
 ·refine fn_ok ev_ok rfl ?_
  repeat' ((conv=>whnf);first|with_reducible apply brP_of<;>intro _|refine WpS.drawn ev_ok rfl rfl ?_|with_reducible refine And.intro (AgP.mk ⟨_,rfl,rfl⟩) ?_|refine OpP.look2 _ mapT_nums keyE_s rfl rfl rfl rfl (fun a ha=>?_) (fun ha=>?_)|refine And.intro (AgP.look _ mapT_nums keyE_s rfl rfl rfl rfl rfl (by assumption) rfl rfl) ?_|(refine (ckwrong0 (c:=c) (gs:=gs) (pl:=pl) (rv:=rv) (rs:=rs) (e:=33) (l:=x.line) (k:=x.col)).use [0,1,2,3,4,5,6] rfl rfl ⟨⟨_,rfl,rfl⟩,⟨_,rfl,rfl⟩,⟨_,rfl,rfl⟩,⟨_,rfl,rfl⟩,⟨_,rfl,rfl⟩,⟨_,rfl,kp⟩,⟨_,rfl,kp⟩,tU⟩ ?_;rintro _ _ ⟨rfl,G,rfl⟩;refine ⟨[],?_⟩)|(refine (ckwrong0 (c:=c) (gs:=gs) (pl:=pl) (rv:=rv) (rs:=rs) (e:=21) (l:=x.line) (k:=x.col)).use [0,1,2,3,4,5,6] rfl rfl ⟨⟨_,rfl,rfl⟩,⟨_,rfl,rfl⟩,⟨_,rfl,rfl⟩,⟨_,rfl,rfl⟩,⟨_,rfl,rfl⟩,⟨_,rfl,kp⟩,⟨_,rfl,kp⟩,tU⟩ ?_;rintro _ _ ⟨rfl,G,rfl⟩;refine ⟨[],?_⟩)|(refine (ckwrong0 (c:=(c.wrong 21 x.line x.col)) (gs:=gs) (pl:=pl) (rv:=rv) (rs:=rs) (e:=33) (l:=x.line) (k:=x.col)).use [0,1,2,3,4,5,6] rfl rfl ⟨⟨_,rfl,rfl⟩,⟨_,rfl,rfl⟩,⟨_,rfl,rfl⟩,⟨_,rfl,rfl⟩,⟨_,rfl,rfl⟩,⟨_,rfl,kp⟩,⟨_,rfl,kp⟩,tU⟩ ?_;rintro _ _ ⟨rfl,G,rfl⟩;refine ⟨[],?_⟩)|refine OpP.shl rfl rfl (by omega) ?_)
  all_goals (try conv=>whnf)
  ·rw[ckSet_any (by assumption)];exact ⟨rfl,_,rfl⟩
  ·rename_i h1 h2 h3
   rw[ckSet_hi (k:=2) (c:=c) rfl h1 h2 ha h3];exact ⟨rfl,_,rfl⟩
  ·rename_i h1 h2 h3
   obtain ⟨e1,e2⟩:=ckSet_lo (k:=2) (c:=c) rfl h1 h2 ha h3
   rw[e1,shlN e2];exact ⟨rfl,_,rfl⟩
  ·rename_i h1 h2
   rw[ckSet_no (k:=2) (c:=c) rfl h1 h2 ha];exact ⟨congrArg iA (show IntKind.i64.wrap (1 * 2 ^ min (Int.toNat 0) IntKind.i64.bits)=((1:Nat):Int) by decide),_,rfl⟩
  ·rename_i h1 h2 h3
   rw[ckSet_nhi h1 h2 h3];exact ⟨rfl,_,rfl⟩
  ·rename_i h1 h2 h3
   obtain ⟨e1,e2⟩:=ckSet_nlo (k:=2) h1 h2 h3
   rw[e1,shlN e2];exact ⟨rfl,_,rfl⟩
structure CkG(c:Ck)(gs:List Rgn)(pl:List (Value×List Bx)):Prop where
 regs:c.regions=gs.map fun g=>(g.n,g.l)
 gin:∀g∈gs,(g.v,g.l)∈pl∧g.l≠[]∧g.l.length≤1000000∧∃a m,g.v=.slice (some a) g.l.length m
theorem rgn_find{gs:List Rgn}{k:List UInt8}:∀i,(afind k (gs.map fun g=>(g.n,g.v)) i).map (·.2)=(gs.find? fun g=>decide (k=g.n)).map (·.v):=by
 induction gs with
 | nil=>intro i;rfl
 | cons g gs ih=>
   intro i
   simp only[List.map_cons,afind]
   by_cases h:k=g.n
   ·rw[if_pos h,List.find?_cons_of_pos (by simp[h])];rfl
   ·rw[if_neg h,List.find?_cons_of_neg (by simp[h])];exact ih _
theorem rgn_assoc{gs:List Rgn}{k:List UInt8}:assoc (gs.map fun g=>(g.n,g.l)) k=(gs.find? fun g=>decide (k=g.n)).map (·.l):=by
 unfold assoc
 induction gs with
 | nil=>rfl
 | cons g gs ih=>
   simp only[List.map_cons]
   by_cases h:k=g.n
   ·rw[List.find?_cons_of_pos (by simp[h]),List.find?_cons_of_pos (by simp[h])];rfl
   ·rw[List.find?_cons_of_neg (by simp[Ne.symm h]),List.find?_cons_of_neg (by simp[h])];exact ih
theorem rgn_some{c:Ck}{gs:List Rgn}{pl:List (Value×List Bx)}(h:CkG c gs pl){k:List UInt8}{v:Value}(ha:aget k (gs.map fun g=>(g.n,g.v))=some v):∃l a m,v=.slice (some a) l.length m∧(v,l)∈pl∧l≠[]∧l.length≤1000000∧assoc c.regions k=some l:=by
 unfold aget at ha
 rw[rgn_find] at ha
 rw[h.regs,rgn_assoc]
 cases hf:gs.find? fun g=>decide (k=g.n) with
 | none=>rw[hf] at ha;cases ha
 | some g=>
   rw[hf] at ha
   have hv:g.v=v:=Option.some.inj ha
   obtain ⟨h1,h2,h3,a,m,h4⟩:=h.gin g (List.mem_of_find?_eq_some hf)
   exact ⟨g.l,a,m,by rw[←hv,h4],by rw[←hv];exact h1,h2,h3,rfl⟩
theorem rgn_none{c:Ck}{gs:List Rgn}{pl:List (Value×List Bx)}(h:CkG c gs pl){k:List UInt8}(ha:aget k (gs.map fun g=>(g.n,g.v))=none):assoc c.regions k=none:=by
 unfold aget at ha
 rw[rgn_find] at ha
 rw[h.regs,rgn_assoc]
 cases hf:gs.find? fun g=>decide (k=g.n) with
 | none=>rfl
 | some g=>rw[hf] at ha;cases ha
theorem pool_rd{pl:List (Value×List Bx)}{A:Option Addr}{l:List Bx}{m:Nat}(hp:(.slice A l.length m,l)∈pl)(hne:l≠[])(w:World)(S:Nat→Prop)(h:(boxPool pl).at_ w S):∃b off,A=some ⟨b,off,none⟩∧Lay w b off (l.flatMap bxC):=by
 obtain ⟨oa,m',e,h2⟩:=pool_read hp w S h
 injection e with e1
 subst e1
 exact h2 hne
theorem bx_one:∀(a:Bx),∀u∈bxC a,u.oneCell'=true:=fun a u hu=>by
 simp only[bxC,List.mem_cons,List.not_mem_nil,or_false] at hu
 rcases hu with rfl|rfl|rfl|rfl<;>rfl
def BxV(v:Value)(l:List Bx):Prop:=(v=nilV∧l=[])∨(l≠[]∧∃a m,v=.slice (some a) l.length m)
def WhPost(c:Ck)(gs:List Rgn)(pl:List (Value×List Bx))(rv:Value)(rs:List Rue)(x:Who)(v:AV)(H':List AObj):Prop:=
 ∃V pl',v=.lit V∧BxV V (ckWhere x c).1∧(∀p∈pl,p∈pl')∧((ckWhere x c).1≠[]→(V,(ckWhere x c).1)∈pl')∧∃G,H'=ckH (ckWhere x c).2 gs pl' rv rs++G
theorem ckwhere_name{c:Ck}{gs:List Rgn}{pl:List (Value×List Bx)}{rv:Value}{rs:List Rue}{x:Who}(hg:CkG c gs pl)(hx:x.any=false) :
  CP [] 418 [.ptr 0 0,.agg (wA x)] (ckH c gs pl rv rs) (WhPost c gs pl rv rs x):=by
 have hw:ckWhere x c=match assoc c.regions x.name with
  | some l=>(l,c)
  | none=>([],c.wrong 21 x.line x.col):=by unfold ckWhere;rw[if_neg (by simp[hx])];rfl
 unfold wA
 rw[hx]
 unfold WhPost
 rw[hw]
 cases ha:aget x.name (gs.map fun g=>(g.n,g.v)) with
 | some V=>
   obtain ⟨l,a,m,rfl,hin,hne,hll,has⟩:=rgn_some hg ha
   rw[has]
   simp only[]
   ·refine fn_ok ev_ok rfl ?_
    repeat' ((conv=>whnf);first|with_reducible apply brP_of<;>intro _|refine WpS.drawn ev_ok rfl rfl ?_|with_reducible refine And.intro (AgP.mk ⟨_,rfl,rfl⟩) ?_|refine OpP.look2 _ mapT_regs keyE_s rfl rfl rfl rfl (fun b hb=>?_) (fun hb=>by rw[ha] at hb;cases hb)|refine And.intro (AgP.look _ mapT_regs keyE_s rfl rfl rfl rfl rfl (by assumption) rfl rfl) ?_|(obtain rfl:b=.slice (some a) l.length m:=by rw[ha] at hb;exact (Option.some.inj hb).symm)|(refine OpP.om (OpM.appNil ev_ok app_bx bxC_len (by decide) bx_one (i:=5) (j:=5) (l:=l) (R':=fun v'=>boxPool (pl++[(v',l)])) rfl rfl rfl hne rfl rfl (fun w S h=>?_) (fun v' w S1 S2 h1 h2 hd=>pool_snoc w S1 S2 h1 h2 hd) (by omega) ?_)))
    ·exact pool_rd hin hne w S h
    ·intro A n
     repeat' ((conv=>whnf);first|with_reducible apply brP_of<;>intro _|refine WpS.drawn ev_ok rfl rfl ?_|with_reducible refine And.intro (AgP.mk ⟨_,rfl,rfl⟩) ?_ )
     exact ⟨.slice (some A) l.length n,pl++[(.slice (some A) l.length n,l)],rfl,.inr ⟨hne,_,_,rfl⟩,fun p hp=>by simp[hp],fun _=>by simp,_,rfl⟩
 | none=>
   rw[rgn_none hg ha]
   simp only[]
   ·refine fn_ok ev_ok rfl ?_
    repeat' ((conv=>whnf);first|with_reducible apply brP_of<;>intro _|refine WpS.drawn ev_ok rfl rfl ?_|with_reducible refine And.intro (AgP.mk ⟨_,rfl,rfl⟩) ?_|refine OpP.look2 _ mapT_regs keyE_s rfl rfl rfl rfl (fun b hb=>by rw[ha] at hb;cases hb) (fun hb=>?_)|refine And.intro (AgP.look _ mapT_regs keyE_s rfl rfl rfl rfl rfl (by assumption) rfl rfl) ?_|refine AppP.zero app_bx rfl ?_|(refine (ckwrong0 (c:=c) (gs:=gs) (pl:=pl) (rv:=rv) (rs:=rs) (e:=21) (l:=x.line) (k:=x.col)).use [0,1,2,3,4,5,6] rfl rfl ⟨⟨_,rfl,rfl⟩,⟨_,rfl,rfl⟩,⟨_,rfl,rfl⟩,⟨_,rfl,rfl⟩,⟨_,rfl,rfl⟩,⟨_,rfl,kp⟩,⟨_,rfl,kp⟩,tU⟩ ?_;rintro _ _ ⟨rfl,G,rfl⟩;refine ⟨[],?_⟩))
    all_goals (try conv=>whnf)
    exact ⟨nilV,pl,rfl,.inl ⟨rfl,rfl⟩,fun p hp=>hp,fun h=>absurd rfl h,_,rfl⟩
theorem merge_box{pl:List (Value×List Bx)}{b off m:Nat}{l:List Bx}(hne:l≠[])(w:World)(S1 S2:Nat→Prop)(h1:(boxPool pl).at_ w S1)(h2:(LayR ⟨b,off,none⟩ (l.flatMap bxC)).at_ w S2)(hd:∀b,S1 b→S2 b→False):(boxPool (pl++[(.slice (some ⟨b,off,none⟩) l.length m,l)])).at_ w (fun b=>S1 b∨S2 b):=
 pool_snoc w S1 S2 h1 (.inr ⟨⟨b,off,none⟩,m,rfl,rfl,hne,h2⟩) hd
theorem ckwhere_any{c:Ck}{gs:List Rgn}{pl:List (Value×List Bx)}{rv:Value}{rs:List Rue}{x:Who}(hx:x.any=true) :
  CP [] 418 [.ptr 0 0,.agg (wA x)] (ckH c gs pl rv rs) (WhPost c gs pl rv rs x):=by
 have hw:ckWhere x c=([⟨0,0,65535,65535⟩],c):=by unfold ckWhere;rw[if_pos hx]
 unfold wA
 rw[hx]
 unfold WhPost
 rw[hw]
 refine CallS.post (K:=fun v H'=>∃b off m G G2,v=.lit (.slice (some ⟨b,off,none⟩) 1 m)∧H'=ckH c gs pl rv rs++[G,G2,.res (LayR ⟨b,off,none⟩ ([(⟨0,0,65535,65535⟩:Bx)].flatMap bxC))]) (CallS.litS (K':=fun v H'=>v=.slice 9 0 1 (.k 1)∧∃G G2,H'=ckH c gs pl rv rs++[G,G2,.cells [iA 0,iA 0,iA 65535,iA 65535] tBx]) ?_ ?_) ?_
 ··refine fn_ok ev_ok rfl ?_
   repeat' ((conv=>whnf);first|with_reducible apply brP_of<;>intro _|refine fn_ok ev_ok rfl ?_)
   all_goals (try conv=>whnf)
   exact ⟨rfl,_,_,rfl⟩
 ·rintro _ _ ⟨rfl,G,G2,rfl⟩
  refine .inr ⟨9,1,.k 1,[(⟨0,0,65535,65535⟩:Bx)].flatMap bxC,tBx,rfl,by omega,.inr rfl,fun b off m=>⟨b,off,m,G,G2,rfl,rfl⟩⟩
 ·rintro _ _ ⟨b,off,m,G,G2,rfl,rfl⟩
  refine ⟨ckH c gs (pl++[(.slice (some ⟨b,off,none⟩) 1 m,[⟨0,0,65535,65535⟩])]) rv rs++[G,G2,.res resNil],Pre.same rfl ?_,.slice (some ⟨b,off,none⟩) 1 m,_,rfl,.inr ⟨by simp,_,_,rfl⟩,fun p hp=>by simp[hp],fun _=>by simp,_,rfl⟩
  exact (Ent.merge (i:=5) (j:=9) rfl rfl rfl (merge_box (by simp))).trans (.of_eq rfl)
theorem ckwhere{c:Ck}{gs:List Rgn}{pl:List (Value×List Bx)}{rv:Value}{rs:List Rue}{x:Who}(hg:CkG c gs pl) :
  CP [] 418 [.ptr 0 0,.agg (wA x)] (ckH c gs pl rv rs) (WhPost c gs pl rv rs x):=by
 cases hx:x.any with
 | true=>exact ckwhere_any hx
 | false=>exact ckwhere_name hg hx
end Go.Proofs.YtmbdghclhpboaaaGreat
